/- Automata of positions in memory; nfa.Right. -/
import Derived.Test.YtalombmiochpmaaGreatDoorOR12
import Derived.Shelf.Sort.Plain
import Derived.Shelf.Slices.In.SortNone
import Derived.Shelf.Slices.Turned
import Derived.Shelf.Slices.Cells
import Derived.Laws.AppendOwnNone
set_option maxRecDepth 100000
set_option maxHeartbeats 16000000
open Go.Lib (hid)
namespace Go.Proofs.YtalombmiochpmaaGreatDoor
section
open Go Go.RowKit
def bH (d:DF):List Nat×Bool×Int:=if d.right then((aJ d).getD [],(aJ d).isSome,0)else([],false,182)
def aX (a b:DF) (op f:Int):List Nat×Bool×Int:=if(aP a b op f).2=0 then((aJ (aP a b op f).1).getD [], !(aJ (aP a b op f).1).isSome,0)else([],false,(aP a b op f).2)
end
section
open Go Go.RowKit Go.Shelf Go.Maps
attribute [local go_sem] encS
theorem ib (v:Value) (d:DF) (sm:Sm d) (w:World) (h:aT w v d): Calls Tryz.prog 21 #[v] w fun e w'=>∃ u,e=.returned (.tuple #[u,.bool (bH d).2.1,.int .i64 (bH d).2.2])/\w'.ownsRow w.heap.size 5 1 u (bH d).1.length ((bH d).1.map bu)/\Below w.heap.size w w':=by
 unfold bH;cases hr:d.right with
 | true=>exact Hs v d ((aC d).1 hr) sm w h
 | false=>
  have CR:Hid (∀ W,Below w.heap.size w W->Calls Tryz.prog 13 #[v] W fun e w'=>e=.returned (.bool false)/\Below W.heap.size W w'):=fun W hW=>by
   have:=dJ v d W (h.below hW) sm;rwa[hr]at this
  obtain⟨v0,v1,v2,rfl,h0,h1,h2⟩:=h;clear h0 h1 h2 hr sm;go_enter Tryz.func21,Tryz.ntmps21;go_wp2_with fail
  refine aw ?_;intro V hV;have B1:Hid (ah V w.heap.size #[v0,v1,v2] 28):=by rw[hV];exact ah.new w _ _
  have X1:Hid (Below w.heap.size w V):=by rw[hV];exact((Ext.refl w).alloc _).below
  clear hV;obtain⟨⟨k0,k1,k2⟩,_⟩:=B1.out.three;refine wp_scope_straight ?_;go_wp2_with fail
  refine(CR.out V X1.out).mono ?_;rintro e w2 ⟨rfl,hx⟩;have X2:=hid (X1.out.trans (hx.mono X1.out.size));clear hx k0 k1 k2 B1 X1;go_wp2;rw[Exit.noGoto_ret];exact bodyPost_ret (v:=.tuple #[.slice none 0 0,.bool false,.int .i64 182]) (by simp[results,Tryz.results21,go_sem]) rfl ⟨_,rfl,World.ownsRow_nil _ _ _ _,X2.out⟩
end
section
open Go Go.RowKit Go.Shelf Go.Maps
attribute [local go_sem] encS Oper.semAt_some gO dC
theorem vZ (s:BS):∀ n,(bF s n).length<=n
 | 0=>by simp[bF]
 | n+1=>by
  rw[fR,List.length_append];have:=vZ s n;split<;>simp<;>omega
theorem Su (s:BS) (w:World):Calls Tryz.prog 41 #[.agg (encS s)] w fun e w'=>e=.returned (.int .i64 (bF s 256).length)/\Ext w w':=by
 have arn:=vZ s 256;refine ck Tryz.func41 rfl ?_;simp only[Tryz.ntmps41,List.size_toArray,List.length_cons,List.length_nil,Nat.reduceAdd,Nat.reduceSub,Array.replicate_succ,Array.replicate_zero,List.push_toArray,List.append_toArray,List.nil_append,List.cons_append];have hB0:ah ((w.alloc (.cells (encS s) 59)).alloc (.cells #[.int .i64 0] 3)) w.heap.size (encS s) 59:=(ah.new w (encS s) 59).alloc _;have c0:=hB0.cell 0;have c1:=hB0.cell 1;have c2:=hB0.cell 2;have c3:=hB0.cell 3;replace c0:_=some (Value.int .u64 (wd s 0).toNat):=c0;replace c1:_=some (Value.int .u64 (wd s 1).toNat):=c1;replace c2:_=some (Value.int .u64 (wd s 2).toNat):=c2;replace c3:_=some (Value.int .u64 (wd s 3).toNat):=c3;clear hB0;go_wp2_with (go_at_call 72;refine(ye s _).mono ?_;rintro e w1 ⟨rfl,rfl⟩);clear c0 c1 c2 c3;refine aw ?_;intro W0 hW0;have h1:ah W0 (w.heap.size+1) #[.int .i64 0] 3:=by rw[hW0];repeat (first | (refine(ah.new _ _ _).at ?_;simp;done) | refine ah.alloc ?_ _)
 have h3:ah W0 (w.heap.size+1+1) (encS s) 59:=by rw[hW0];exact(ah.new _ _ _).at (by simp)
 have hx:Ext w W0:=by rw[hW0];exact(((Ext.refl w).alloc _).alloc _).alloc _
 have hsz:W0.heap.size=w.heap.size+1+1+1:=by rw[hW0];simp
 have eg:∀ args w,(callFunc 93 args).run Tryz.prog w=.ok (.enter 93 args) w:=enters_of Tryz.func93 (by kernel_rfl) rfl;refine im (w:=W0) (Ee s _ W0 h3) (by rfl) eg (by intro _;rfl) (by intro k hk;rw[show k=_ from hk,hsz];omega)
  (fun xs _ W=>ah W (w.heap.size+1) #[.int .i64 xs.length] 3/\Ext w W)
  (fun _ _ _ _=>False)
  (fun xs T T' W W' ⟨h1,h3⟩ hT _ _ _ hk=>⟨h1.nA hT hk (by omega),h3.nA hT hk (by omega)⟩)
  (fun c xs T T' W W' h=>h.elim)
  ⟨h1,hx⟩
  (fun x=>⟨#[.agg (encS s),.pointer (some ⟨w.heap.size,0,none⟩),.int .i64 0,.pointer (some ⟨w.heap.size+1,0,none⟩),.agg (encS s),.func (.func 93) #[] #[.pointer (some ⟨w.heap.size+1+1,0,none⟩)],.int .u8 x,undef,undef,undef],[]⟩) ?assign ?body ?done ?stop
 case assign=>
  intro l x W K hK
  gi_wp2
  simpa[encS]using hK
 case body=>
  rintro l pre x T W bQ hT hR xR hl ⟨h1,hx⟩;have hlen:pre.length<256:=by
   have hle:=bQ.length_le;rw[List.length_append]at hle;simp only[List.length_cons,List.length_nil]at hle;omega
  have c1:W.cell? ⟨w.heap.size+1,0,none⟩=some (.int .i64 pre.length):=h1.cell 0;have f1:=h1.frozen 0;have e1:IntKind.i64.wrap ((pre.length:Int)+1)=(pre.length:Int)+1:=IntWalk.i64_in _ (by omega);have H1:=hid h1;have HX:=hid hx;have HS:=hid hsz;have HT:=hid hT;clear h1 hx hR hl xR hsz hW0 hT
  gi_wp2
  refine⟨((aa.refl _ _).setCell (fun h=>?_) _),(by rw[show((pre++ [x]).length:Int)=(pre.length:Int)+1 by rw[List.length_append];rfl];exact H1.out.set 0 _),(HX.out.setCell (by simp<;>omega) _)⟩;have h2:=HS.out;rcases h with h | h
  ·dsimp only at h;omega
  ·have h1:=(HT.out _ h).1;dsimp only at h1;omega
 case done=>
  rintro D T W hD yf hT ⟨h1,hx⟩ nw;have c1:W.cell? ⟨w.heap.size+1,0,none⟩=some (.int .i64 (bF s 256).length):=h1.cell 0;have HX:=hid hx;have HS:=hid hsz;have HD:=hid hD;have xC:=hid nw;clear h1 hx yf hsz hW0 hT nw hD;dsimp only;go_wp2;refine dz rfl xC.out (results_tmp rfl _ _ _) ⟨rfl,HX.out.putObj (by have h1:=HD.out;have h2:=HS.out;omega) _⟩
 case stop=>rintro D c pre T W _ _ _ _ h _;exact h.elim
end
section
open Go Go.RowKit Go.Shelf Go.Maps
attribute [local go_sem] encS
def yM (f:Nat->Int) (k n:Nat) (l:List Int):Prop:=l.length=n/\∀ j,j<n->l.getD j 0=if j<k then f j else 0
theorem yM.zero (f:Nat->Int) (n:Nat):yM f 0 n (List.replicate n 0):=⟨List.length_replicate,fun j _=>by rw[Hp,if_neg (by omega)]⟩
theorem yM.set {f:Nat->Int} {k n:Nat} {l:List Int} (h:yM f k n l) (hk:k<n):yM f (k+1) n (l.set k (f k)):=⟨by rw[List.length_set,h.1],fun j hj=>by
 rw[pX l k j (f k) (by rw[h.1];exact hk)];by_cases e:j=k
 ·rw[if_pos e,e,if_pos (by omega)]
 ·rw[if_neg e,h.2 j hj]
  by_cases e2:j<k
  ·rw[if_pos e2,if_pos (by omega)]
  ·rw[if_neg e2,if_neg (by omega)]⟩
theorem yM.full {f:Nat->Int} {n:Nat} {l:List Int} (h:yM f n n l):l=(List.range n).map f:=by
 apply List.ext_getElem?;intro j;by_cases hj:j<n
 ·rw[aI 0 (by rw[h.1];exact hj),h.2 j hj,if_pos hj,List.getElem?_map,List.getElem?_range hj];rfl
 ·rw[List.getElem?_eq_none (by rw[h.1];omega),List.getElem?_eq_none (by simp;omega)]
theorem tK {w:World} {base g n cap:Nat} {l:List Int} (h:w.ownsRow base 3 1 (.slice (some ⟨g,0,none⟩) n cap) n (l.map aS)) {i:Nat} (hi:i<n):w.cell? ⟨g,i,none⟩=some (.int .i64 (l.getD i 0))/\w.frozen? ⟨g,i,none⟩=false:=by
 have hl:l.length=n:=by simpa using h.1
 obtain⟨g',u,e,_,_,hu,c,f⟩:=fj h hi;cases e;rw[List.getElem?_map,aI 0 (by omega)]at hu;cases hu;exact⟨c,f⟩
theorem Sv {x:Int} (l:List Int) (s:Nat) (h:l.getD s 0=x):l.set s x=l:=by
 apply List.ext_getElem?;intro j;rw[List.getElem?_set];by_cases e:s=j
 ·subst e
  rw[if_pos rfl];by_cases hs:s<l.length
  ·rw[if_pos hs,aI 0 hs,h]
  ·rw[if_neg hs,List.getElem?_eq_none (by omega)]
 ·rw[if_neg e]
theorem jY {P:Program} {l:List Oper} {ops:Array Oper} {Q:Exit->Act->World->Prop} {a:Act} {w:World} (h:∀ W,W=w->wpList P ops Q l a W):wpList P ops Q l a w:=h w rfl
theorem aa1 (d:DF) {s:Nat} {m:List Int} (h:d.mr[s]? =some m):(if acc d s then(1:Int)else 0)=min (m.length:Int) 1:=by
 unfold acc;rw[getD_some h];cases m with
 | nil=>rfl
 | cons x l=>simp;omega
end
section
open Go Go.RowKit Go.Shelf Go.Maps
theorem mH.step {u v v':Value} {N:Nat} (h:mH u v) (ho:v'.ownBlock=v.ownBlock\/∀ x,v'.ownBlock=some x->N<=x) (hu:∀ b,u.ownBlock=some b->b<N):mH u v':=by
 rcases h with h | h
 ·exact .inl h
 ·by_cases e:u.ownBlock=none
  ·exact .inl e
  ·right
   intro e2;rcases ho with h2 | h2
   ·exact h (by rw[e2,h2])
   ·cases hb:u.ownBlock with
    | none=>exact e hb
    | some b=>have h3:=hu b hb;have h4:=h2 b (by rw[<-e2,hb]);omega
theorem ay.form {base:Nat} {w:World} {v:Value} {d:DF} (h:ay base w v d):∃ a0 c0 a1 c1 a2 c2,v=.agg #[.slice a0 d.cl.length c0,.slice a1 d.nx.length c1,.slice a2 d.mr.length c2]:=by obtain⟨v0,v1,v2,rfl,h0,h1,h2⟩:=h;obtain⟨a0,c0,rfl⟩:=ownsRow_form h0;obtain⟨a1,c1,rfl⟩:=h1.form;obtain⟨a2,c2,rfl⟩:=h2.form;exact⟨_,_,_,_,_,_,rfl⟩
theorem dA {w:World} {b base size n:Nat} {c:Array Value} {t e:TypeId} {v:Value} {xs:List Value} (h:ah w b c t) (ho:w.ownsRow base e size v n xs) (hne:t≠e):∀ x,v.ownBlock=some x->x≠b:=fun x hx e2=>by
 subst e2;rcases ho.2 with⟨h1,_⟩ | ⟨g',c',cur,h1,_,h3,_⟩
 ·rw[h1]at hx;cases hx
 ·subst h1
  have hg:g'=x:=by simpa[Value.ownBlock]using hx
  subst hg;have h4:w.heap[g']? =some (.cells c t (0,0)):=h;rw[h3]at h4;injection h4 with h4
  injection h4 with _ h5 _
  exact hne h5.symm
attribute [local go_sem] encS
def aH.EB (lo:Nat) (cs:Array Value) (t:TypeId):aH (Move false (fun _=>False)) where
 P:=fun v=>∃ b,v=.pointer (some ⟨b,0,none⟩)
 H:=fun v W=>∀ b,v=.pointer (some ⟨b,0,none⟩)->ah W b cs t/\lo<=b
 oI:=.pointer (some ⟨0,0,none⟩)
 pw:=⟨_,rfl⟩
 st:=fun _ _ _ hm _ h b e=>⟨(h b e).1.below hm.below (h b e).1.lt,(h b e).2⟩
end
section
open Go Go.RowKit Go.Shelf Go.Maps
structure NF where
 aM:List BS
 cN:List (List Int)
 fst:List Int
 dh:List Int
 emp:Bool
def lS (low:Int) (l:List Int) (k:Nat):Int:=if k=0 then low-1 else l.getD (k-1) 0
def iR (low high:Int) (l:List Int) (k:Nat):Bool:=decide (lS low l k<l.getD k 0)&&decide (l.getD k 0<=high)
def eh (low high:Int) (l:List Int):Bool:=(List.range l.length).all (iR low high l)
theorem Kw {low:Int} {l:List Int} {k:Nat} {x:Int} (hx:l[k]? =some x):lS low l (k+1)=x:=by unfold lS;rw[if_neg (by omega),Nat.add_sub_cancel];exact getD_some hx
theorem uX {low high:Int} {l:List Int} {k:Nat} {x:Int} (hx:l[k]? =some x):iR low high l k=(decide (lS low l k<x)&&decide (x<=high)):=by unfold iR;rw[getD_some hx]
theorem ML {low high:Int} {l:List Int} {k:Nat} (hk:k<l.length) (h:iR low high l k=false):eh low high l=false:=by unfold eh;rw[List.all_eq_false];exact⟨k,List.mem_range.2 hk,by rw[h];decide⟩
theorem Ht {low high:Int} {l:List Int} (h:∀ k,k<l.length->iR low high l k=true):eh low high l=true:=by unfold eh;rw[List.all_eq_true];exact fun k hk=>h k (List.mem_range.1 hk)
theorem EC {low high:Int} {l:List Int} (h:eh low high l=true) {k:Nat} (hk:k<l.length):iR low high l k=true:=by unfold eh at h;rw[List.all_eq_true]at h;exact h k (List.mem_range.2 hk)
def Ky (low n:Int) (l:List Int) (k:Nat):Bool:=decide (low<=l.getD k 0)&&decide (l.getD k 0<n)&&(decide (k=0) || decide (l.getD (k-1) 0<l.getD k 0))
theorem ahJ (low n:Int) (l:List Int):((List.range l.length).all (Ky low n l))=eh low (n-1) l:=by
 rw[Bool.eq_iff_iff];unfold eh;rw[List.all_eq_true,List.all_eq_true];constructor
 ·intro h k hk
  have h1:=h k hk;unfold Ky at h1;unfold iR lS;simp only[Bool.and_eq_true,Bool.or_eq_true,decide_eq_true_eq]at h1 ⊢;obtain⟨⟨a,b⟩,c⟩:=h1;refine⟨?_,by omega⟩;split
  ·omega
  ·rcases c with c | c
   ·omega
   ·exact c
 ·intro h
  have aa2:∀ k,k<l.length->low<=l.getD k 0:=by
   intro k;induction k with
   | zero=>
    intro hk;have h1:=h 0 (List.mem_range.2 hk);unfold iR lS at h1;simp only[Bool.and_eq_true,decide_eq_true_eq,if_true]at h1;omega
   | succ k ih=>
    intro hk;have h1:=h (k+1) (List.mem_range.2 hk);have h2:=ih (by omega);unfold iR lS at h1;simp only[Bool.and_eq_true,decide_eq_true_eq]at h1;rw[if_neg (by omega),Nat.add_sub_cancel]at h1;omega
  intro k hk;have h1:=h k hk;have h2:=aa2 k (List.mem_range.1 hk);unfold iR lS at h1;unfold Ky;simp only[Bool.and_eq_true,Bool.or_eq_true,decide_eq_true_eq]at h1 ⊢;refine⟨⟨h2,by omega⟩,?_⟩;by_cases h0:k=0
  ·exact .inl h0
  ·rw[if_neg h0]at h1
   exact .inr h1.1
theorem ei {low high:Int} {l:List Int} (h:eh low high l=true):l.Pairwise (· < ·)/\∀ x∈l,low<=x/\x<=high:=by
 have hs:∀ k,k+1<l.length->l.getD k 0<l.getD (k+1) 0:=fun k hk=>by
  have h1:=EC h hk;unfold iR lS at h1;simp only[Bool.and_eq_true,decide_eq_true_eq]at h1;rw[if_neg (by omega),Nat.add_sub_cancel]at h1;exact h1.1
 have hm:∀ i j,i<j->j<l.length->l.getD i 0<l.getD j 0:=by
  intro i j oZ;induction j with
  | zero=>omega
  | succ j ih=>
   intro hj;rcases Nat.lt_or_ge i j with h1 | h1
   ·have:=ih h1 (by omega);have:=hs j hj;omega
   ·obtain rfl:i=j:=by omega
    exact hs i hj
 refine⟨?_,fun x hx=>?_⟩
 ·rw[List.pairwise_iff_getElem]
  intro i j hi hj oZ;have:=hm i j oZ hj;simpa[List.getD_eq_getElem?_getD,List.getElem?_eq_getElem hi,List.getElem?_eq_getElem hj]using this
 ·obtain⟨k,hk⟩:=List.getElem?_of_mem hx
  have Jz:=(List.getElem?_eq_some_iff.1 hk).1;have h1:=EC h Jz;rw[uX hk]at h1;simp only[Bool.and_eq_true,decide_eq_true_eq]at h1;refine⟨?_,h1.2⟩;have h0:=EC h (show 0<l.length by omega);unfold iR lS at h0;simp only[Bool.and_eq_true,decide_eq_true_eq,if_true]at h0;have e:l.getD k 0=x:=getD_some hk;rcases Nat.eq_zero_or_pos k with h2 | h2
  ·subst h2;omega
  ·have:=hm 0 k h2 Jz;omega
theorem qU {low high:Int} {l:List Int} (h:l.Pairwise (· < ·)) (hb:∀ x∈l,low<=x/\x<=high):eh low high l=true:=by
 refine Ht fun k hk=>?_
 have hx:=List.getElem?_eq_getElem hk;rw[uX hx];have h1:=hb _ (List.getElem_mem hk);simp only[Bool.and_eq_true,decide_eq_true_eq];refine⟨?_,h1.2⟩;unfold lS;split
 ·omega
 ·rename_i h0
  have h2:=List.pairwise_iff_getElem.1 h (k-1) k (by omega) hk (by omega);rw[List.getD_eq_getElem?_getD,List.getElem?_eq_getElem (show k-1<l.length by omega)];exact h2
def NF.right (a:NF):Bool:=decide (a.aM.length<=400)&&decide (a.cN.length=a.aM.length)&&eh 0 ((a.aM.length:Int)-1) a.fst&&eh 0 ((a.aM.length:Int)-1) a.dh&&(List.range a.aM.length).all fun p=>eh 0 ((a.aM.length:Int)-1) (a.cN.getD p [])&&(a.aM.getD p 0 != 0)
structure Nt (a:NF):Prop where
 le:a.aM.length<=400
 cN:a.cN.length=a.aM.length
 fst:eh 0 ((a.aM.length:Int)-1) a.fst=true
 dh:eh 0 ((a.aM.length:Int)-1) a.dh=true
 row:∀ p,p<a.aM.length->eh 0 ((a.aM.length:Int)-1) (a.cN.getD p [])=true
 ne:∀ p,p<a.aM.length->a.aM.getD p 0≠0
theorem fE (a:NF):a.right=true↔Nt a:=by
 unfold NF.right;simp only[Bool.and_eq_true,decide_eq_true_eq,List.all_eq_true,List.mem_range,bne_iff_ne];constructor
 ·rintro⟨⟨⟨⟨h1,h2⟩,h3⟩,h4⟩,h5⟩
  exact⟨h1,h2,h3,h4,fun p hp=>(h5 p hp).1,fun p hp=>(h5 p hp).2⟩
 ·rintro⟨h1,h2,h3,h4,h5,h6⟩
  exact⟨⟨⟨⟨h1,h2⟩,h3⟩,h4⟩,fun p hp=>⟨h5 p hp,h6 p hp⟩⟩
def NF.st (a:NF) (l:List Int):Bool:=eh (-1) ((a.aM.length:Int)-1) l
def NF.rX (a:NF) (p:Int):List Int:=if p= -1 then a.fst else a.cN.getD p.toNat []
def NF.hit (a:NF) (l:List Int) (c q:Nat):Bool:=l.any fun p=>(a.rX p).contains (q:Int)&&(a.aM.getD q 0).getLsbD c
def NF.step (a:NF) (l:List Int) (c:Nat):List Int:=((List.range a.aM.length).filter (a.hit l c)).map Int.ofNat
def NF.WB (a:NF) (p:Int):Bool:=if p= -1 then a.emp else a.dh.contains p
def NF.acc (a:NF) (l:List Int):Bool:=l.any a.WB
theorem pZ (n:Nat) (f:Nat->Bool):(((List.range n).filter f).map Int.ofNat).Pairwise (· < ·):=by rw[List.pairwise_map];exact(List.pairwise_lt_range.filter _).imp fun h=>Int.ofNat_lt.2 h
theorem NF.Sw (a:NF) (l:List Int) (c:Nat):eh 0 ((a.aM.length:Int)-1) (a.step l c)=true:=by
 refine qU (pZ _ _) fun x hx=>?_
 obtain⟨q,hq,rfl⟩:=List.mem_map.1 hx;have:=List.mem_range.1 (List.mem_filter.1 hq).1;show(0:Int)<=(q:Int)/\(q:Int)<=_;omega
theorem Oj {high:Int} {l:List Int} (hh: -1<=high) (h:eh 0 high l=true):eh (-1) high (-1::l)=true:=by
 obtain⟨h1,h2⟩:=ei h;refine qU (List.pairwise_cons.2 ⟨fun x hx=>?_,h1⟩) fun x hx=>?_
 ·have:=h2 x hx;omega
 ·rcases List.mem_cons.1 hx with rfl | hx
  ·omega
  ·have:=h2 x hx;omega
theorem Sx {low low' high:Int} {l:List Int} (hh:low'<=low) (h:eh low high l=true):eh low' high l=true:=by obtain⟨h1,h2⟩:=ei h;exact qU h1 fun x hx=>by have:=h2 x hx;omega
structure PT where
 nf:NF
 cG:Bool
 mark:Int
def PT.ok (x:PT):Bool:=x.nf.right&&decide (0<=x.mark)&&decide (x.mark<=255)
def PT.step (x:PT) (l:List Int) (c:Nat):List Int:=if x.cG then x.nf.step l c else-1::x.nf.step l c
def gi (ps:List PT) (row:List (List Int)) (c:Nat):List (List Int):=List.zipWith (fun x l=>x.step l c) ps row
def ej (ps:List PT) (row:List (List Int)):List Int:=((List.range 256).filter fun (m:Nat)=>(List.zip ps row).any fun y=>y.1.nf.acc y.2&&(y.1.mark==(m:Int))).map Int.ofNat
def oP (ps:List PT):List (List Int):=ps.map fun _=>[-1]
def cQ (ps:List PT):List BS:=ps.flatMap fun x=>x.nf.aM
def xd (ps:List PT) (fuel:Nat):Option (List (List (List Int))×List (List Nat)):=
 if fuel=0 then none else cS fuel (fun row k=>gi ps row (lb (partsOf (cQ ps)) k)) (partsOf (cQ ps)).length (oP ps) fuel
def jO (ps:List PT) (fuel:Int):DF×Int:=
 if 64<ps.length then(⟨[],[],[]⟩,5)else if(ps.all PT.ok)=false then(⟨[],[],[]⟩,180)else if fuel<0\/4000<fuel then(⟨[],[],[]⟩,2)else
 match xd ps fuel.toNat with
 | none=>(⟨[],[],[]⟩,181)
 | some st=>(⟨partsOf (cQ ps),st.2.map fun r=>r.map Int.ofNat,st.1.map (ej ps)⟩,0)
def rL (ps:List PT) (row:List (List Int)):Prop:=row.length=ps.length/\∀ (i:Nat) (x:PT) (l:List Int),ps[i]? =some x->row[i]? =some l->x.nf.st l=true
theorem ED (ps:List PT):rL ps (oP ps):=by refine⟨by simp[oP],fun i x l hx hl=>?_⟩;unfold oP at hl;rw[List.getElem?_map,hx]at hl;cases hl;unfold NF.st;exact qU (by simp) fun y hy=>by simp at hy;omega
theorem tL {ps:List PT} {row:List (List Int)} (h:rL ps row) (c:Nat):rL ps (gi ps row c):=by
 refine⟨by simp[gi,h.1],fun i x l hx hl=>?_⟩;have hi:=(List.getElem?_eq_some_iff.1 hx).1;unfold gi at hl;rw[List.getElem?_zipWith,hx,List.getElem?_eq_getElem (by rw[h.1];exact hi)]at hl;cases hl;unfold PT.step NF.st;have hr:=x.nf.Sw (row[i]'(by rw[h.1];exact hi)) c;split
 ·exact Sx (by omega) hr
 ·exact Oj (by omega) hr
theorem Kz (ps:List PT) (row:List (List Int)):jl (ej ps row)=true:=by
 have h:eh 0 255 (ej ps row)=true:=by
  refine qU (pZ _ _) fun x hx=>?_
  obtain⟨q,hq,rfl⟩:=List.mem_map.1 hx;have:=List.mem_range.1 (List.mem_filter.1 hq).1;show(0:Int)<=(q:Int)/\(q:Int)<=_;omega
 have e:jl (ej ps row)=eh 0 255 (ej ps row):=rfl;rw[e];exact h
theorem aa3 {b o j:Nat} {vs:List Value} {w:World} (h:∀ k,k<vs.length->(w.cell? ⟨b,o+k,none⟩).isSome=true) (hj:j<vs.length):(w.setCells b o vs).cell? ⟨b,o+j,none⟩=vs[j]? :=by rw[World.cell?_setCells_in b vs o w h j hj,List.getElem?_eq_getElem hj]
section
variable {g i n:Nat} {l:List Int} {z:Int} {w0:World}
end
end
end Go.Proofs.YtalombmiochpmaaGreatDoor
namespace Go.Proofs
open Go.Shelf
def Tryz.Ol:Go.Shelf.Ren:=⟨fun | 189=>140 | 125=>90 | 257=>160 | 128=>118 | 129=>119 | 294=>171 | 295=>172 | 296=>173 | 297=>174 | 298=>175 | 299=>176 | 216=>177 | 300=>178 | 301=>179 | 328=>183 | 329=>147 | 330=>148 | 331=>184 | 332=>185 | 215=>186 | 343=>191 | n=>n,fun | 28=>47 | 3=>3 | 46=>159 | 0=>0 | 51=>191 | 53=>57 | 4=>4 | 183=>185 | 182=>184 | 131=>83 | 5=>5 | 9=>9 | 218=>208 | 222=>212 | 228=>235 | 229=>236 | n=>n,fun | n=>n⟩
theorem Tryz.YD:Go.Proofs.Lays.n189 Tryz.prog Tryz.Ol:= {
 mixed:=by kernel_rfl
 f125:=Tryz.func90.trans (congrArg some (by kernel_rfl))
 f128:=Tryz.func118.trans (congrArg some (by kernel_rfl))
 f129:=Tryz.func119.trans (congrArg some (by kernel_rfl))
 f189:=Tryz.func140.trans (congrArg some (by kernel_rfl))
 f215:=Tryz.func186.trans (congrArg some (by kernel_rfl))
 f216:=Tryz.func177.trans (congrArg some (by kernel_rfl))
 f257:=Tryz.func160.trans (congrArg some (by kernel_rfl))
 f294:=Tryz.func171.trans (congrArg some (by kernel_rfl))
 f295:=Tryz.func172.trans (congrArg some (by kernel_rfl))
 f296:=Tryz.func173.trans (congrArg some (by kernel_rfl))
 f297:=Tryz.func174.trans (congrArg some (by kernel_rfl))
 f298:=Tryz.func175.trans (congrArg some (by kernel_rfl))
 f299:=Tryz.func176.trans (congrArg some (by kernel_rfl))
 f300:=Tryz.func178.trans (congrArg some (by kernel_rfl))
 f301:=Tryz.func179.trans (congrArg some (by kernel_rfl))
 f328:=Tryz.func183.trans (congrArg some (by kernel_rfl))
 f329:=Tryz.func147.trans (congrArg some (by kernel_rfl))
 f330:=Tryz.func148.trans (congrArg some (by kernel_rfl))
 f331:=Tryz.func184.trans (congrArg some (by kernel_rfl))
 f332:=Tryz.func185.trans (congrArg some (by kernel_rfl))
 f343:=Tryz.func191.trans (congrArg some (by kernel_rfl))
 t0:=Tryz.underlying0
 a0:=Tryz.isAgg0
 z0:=Tryz.sizeOf0
 v0:=Tryz.zeroValue0
 t3:=Tryz.underlying3
 a3:=Tryz.isAgg3
 z3:=Tryz.sizeOf3
 v3:=Tryz.zeroValue3
 t4:=Tryz.underlying4
 a4:=Tryz.isAgg4
 z4:=Tryz.sizeOf4
 v4:=Tryz.zeroValue4
 t5:=Tryz.underlying5
 a5:=Tryz.isAgg5
 z5:=Tryz.sizeOf5
 v5:=Tryz.zeroValue5
 t9:=Tryz.underlying9
 a9:=Tryz.isAgg9
 z9:=Tryz.sizeOf9
 v9:=Tryz.zeroValue9
 t28:=Tryz.underlying47
 a28:=Tryz.isAgg47
 z28:=Tryz.sizeOf47
 v28:=Tryz.zeroValue47
 t46:=Tryz.underlying159
 a46:=Tryz.isAgg159
 z46:=Tryz.sizeOf159
 v46:=Tryz.zeroValue159
 t51:=Tryz.underlying191
 a51:=Tryz.isAgg191
 z51:=Tryz.sizeOf191
 v51:=Tryz.zeroValue191
 t53:=Tryz.underlying57
 a53:=Tryz.isAgg57
 z53:=Tryz.sizeOf57
 v53:=Tryz.zeroValue57
 t131:=Tryz.underlying83
 a131:=Tryz.isAgg83
 z131:=Tryz.sizeOf83
 v131:=Tryz.zeroValue83
 t182:=Tryz.underlying184
 a182:=Tryz.isAgg184
 z182:=Tryz.sizeOf184
 v182:=Tryz.zeroValue184
 t183:=Tryz.underlying185
 a183:=Tryz.isAgg185
 z183:=Tryz.sizeOf185
 v183:=Tryz.zeroValue185
 t218:=Tryz.underlying208
 a218:=Tryz.isAgg208
 z218:=Tryz.sizeOf208
 v218:=Tryz.zeroValue208
 t222:=Tryz.underlying212
 a222:=Tryz.isAgg212
 z222:=Tryz.sizeOf212
 v222:=Tryz.zeroValue212
 t228:=Tryz.underlying235
 a228:=Tryz.isAgg235
 z228:=Tryz.sizeOf235
 v228:=Tryz.zeroValue235
 t229:=Tryz.underlying236
 a229:=Tryz.isAgg236
 z229:=Tryz.sizeOf236
 v229:=Tryz.zeroValue236}
def Tryz.EF:Go.Shelf.Ren:=⟨fun | 20=>141 | n=>n,fun | 22=>47 | 3=>3 | 4=>4 | 0=>0 | n=>n,fun | n=>n⟩
theorem Tryz.Hu:Go.Proofs.Lays2.n20 Tryz.prog Tryz.EF:= {
 mixed:=by kernel_rfl
 f20:=Tryz.func141.trans (congrArg some (by kernel_rfl))
 t0:=Tryz.underlying0
 a0:=Tryz.isAgg0
 z0:=Tryz.sizeOf0
 v0:=Tryz.zeroValue0
 t3:=Tryz.underlying3
 a3:=Tryz.isAgg3
 z3:=Tryz.sizeOf3
 v3:=Tryz.zeroValue3
 t4:=Tryz.underlying4
 a4:=Tryz.isAgg4
 z4:=Tryz.sizeOf4
 v4:=Tryz.zeroValue4
 t22:=Tryz.underlying47
 a22:=Tryz.isAgg47
 z22:=Tryz.sizeOf47
 v22:=Tryz.zeroValue47
 i3:=by kernel_rfl}
end Go.Proofs
namespace Go.Proofs.YtalombmiochpmaaGreatDoor
open Go Go.RowKit Go.Shelf Go.Maps
theorem KC (R:Nat->Prop) (w:World) (os:Array Obj) (hR:∀ k,R k->k<w.heap.size):aa R w (Sort.grow w os) where
 os:=rfl
 tape:=rfl
 output:=rfl
 size:=by unfold Sort.grow;simp
 keep:=fun k hk=>by unfold Sort.grow;exact Array.getElem?_append_left (hR k hk)
theorem rM {base g n cap:Nat} {xs ys:List Value} {w:World} (h:w.ownsRow base 3 1 (.slice (some ⟨g,0,none⟩) n cap) n xs) (hy:ys.length=n): (w.setCells g 0 ys).ownsRow base 3 1 (.slice (some ⟨g,0,none⟩) n cap) n ys/\aa (· ≠g) w (w.setCells g 0 ys):=by
 obtain⟨zs,h1,h2⟩:=mG 0 ys 0 w xs (Nat.le_refl _) h;have hl:zs.length=n:=by have:=h1.1;omega
 have hx:xs.length=n:=by have:=h.1;omega
 have:zs=ys:=by
  apply List.ext_getElem?;intro j;by_cases hj:j<n
  ·have e1:=h1.cellAt j (by omega)
   have e2:=aa3 (b:=g) (o:=0) (j:=j) (vs:=ys) (w:=w) (fun k hk=>by
    rw[h.cellAt _ (by omega),List.getElem?_eq_getElem (by omega)];rfl) (by omega)
   rw[Nat.zero_add]at e2;exact e1.symm.trans e2
  ·rw[List.getElem?_eq_none (by omega),List.getElem?_eq_none (by omega)]
 rw[this]at h1;exact⟨h1,h2⟩
theorem Hv {base g n cap m:Nat} {xs:List Value} {w:World} (h:w.ownsRow base 3 1 (.slice (some ⟨g,0,none⟩) n cap) n xs) (hm:m<=n): w.ownsRow base 3 1 (.slice (some ⟨g,0,none⟩) m cap) m (xs.take m):=by
 have hl:=h.1;refine⟨by rw[List.length_take];omega,?_⟩;rcases h.2 with⟨hv,_⟩ | ⟨g',cap',cur,hv,h1,h2,h3,h4,h5,h6⟩
 ·cases hv
 ·cases hv
  exact .inr ⟨g,cap,cur,rfl,h1,h2,by omega,h4,h5,by rw[<-h6,List.take_take];congr 1;omega⟩
def gj (l:List Int):List Int:=l.mergeSort fun x y=>decide (x<=y)
theorem mO (l:List Int):(gj l).length=l.length:=by unfold gj;exact List.length_mergeSort _
theorem Om {base g n cap:Nat} {l:List Int} {w:World} (h:w.ownsRow base 3 1 (.slice (some ⟨g,0,none⟩) n cap) n (l.map aS)):Sort.Holds (Value.int .i64) w g 0 l.toArray:=by
 intro j hj;have hl:l.length=n:=by have:=h.1;simpa using this
 have hj':j<l.length:=by simpa using hj
 refine⟨?_,h.frozenAt _⟩;rw[Nat.zero_add,h.cellAt j (by omega),List.getElem?_map,List.getElem?_eq_getElem hj',Array.getElem!_eq_getD];simp[aS,hj']
theorem Oo (base:Nat) (v:Value) (n:Nat) (l:List Int) (w:World) (ho:w.ownsRow base 3 1 v n (l.map aS)) (hn:n<=1000000): Calls Tryz.prog 140 #[v] w fun e w'=>e=.returned (.tuple #[])/\w'.ownsRow base 3 1 v n ((gj l).map aS)/\aa (fun x=>x<w.heap.size/\v.ownBlock≠some x) w w':=by
 have hl:l.length=n:=by have:=ho.1;simpa using this
 rcases ho.2 with⟨rfl,rfl⟩ | ⟨g,cap,cur,rfl,hbg,hg,_⟩
 ·have hl0:l=[]:=List.eq_nil_of_length_eq_zero hl
  subst hl0;exact(Any.slices_Sort_int_none Tryz.YD none 0 w).mono fun e w' ⟨he,hw⟩=>⟨he,by rw[hw,show gj []=[] from List.eq_nil_of_length_eq_zero (mO _)];exact ho,by rw[hw];exact aa.refl _ _⟩
 ·have hH:=Om ho
  have hblk:ah w g cur 3:=hg;have:=Any.slices_Sort_int Tryz.YD g 0 cap l w hH hblk.lt (by omega);rw[hl]at this;refine this.mono fun e w' ⟨he,q,os,hw⟩=>⟨he,?_⟩
  have e1:=Lib.putRow_eq_setCells (Value.int .i64) w g 0 l.toArray (gj l) q hH (by rw[mO];simp);have hw':w'=Sort.grow ((w.drewN q).setCells g 0 ((gj l).map (Value.int .i64))) os:=by rw[hw, <-e1];rfl
  have hd:(w.drewN q).ownsRow base 3 1 (.slice (some ⟨g,0,none⟩) n cap) n (l.map aS):=ho;obtain⟨a1,a2⟩:=rM hd (ys:=(gj l).map aS) (by rw[List.length_map,mO];exact hl);have hd2:aa (· ≠g) w (w.drewN q):=⟨rfl,rfl,rfl,Nat.le_refl _,fun _ _=>rfl⟩;have hk:=hd2.tr a2;rw[hw'];have hgk:∀ R:Nat->Prop,(∀ k,R k->k<((w.drewN q).setCells g 0 ((gj l).map (Value.int .i64))).heap.size)->aa R ((w.drewN q).setCells g 0 ((gj l).map (Value.int .i64))) (Sort.grow ((w.drewN q).setCells g 0 ((gj l).map (Value.int .i64))) os):=fun R hR=>KC R _ os hR
  refine⟨aj a1 (hgk (· <_) fun _ h=>h) (fun k e=>(a1.lt k e).2),?_⟩;exact(hk.mono fun x hx e=>hx.2 (by rw[e];rfl)).tr (hgk _ fun x hx=>Nat.lt_of_lt_of_le hx.1 hk.size)
/-! A list, sorted and compacted. -/
theorem EG (l:List Int):(gj l).Pairwise (· <= ·):=by have:=List.pairwise_mergeSort (le:=fun x y:Int=>decide (x<=y)) (fun a b c h1 h2=>by simp at*;omega) (fun a b=>by simp;omega) l;exact this.imp fun h=>by simpa using h
theorem Oq {l:List Int} {x:Int} :x∈gj l↔x∈l:=(List.mergeSort_perm _ _).mem_iff
theorem iU (l:List Int) {i:Nat} (hi:i<l.length):l.toArray[i]! =l[i]:=by simp[hi]
theorem Hw {l:List Int} {x:Int} :x∈Lib.compact l↔x∈l:=by
 unfold Lib.compact Lib.compactUpTo;simp only[List.mem_map,List.mem_filter,List.mem_range];constructor
 ·rintro⟨i,⟨hi,_⟩,rfl⟩
  rw[iU l hi];exact List.getElem_mem _
 ·intro hx
  obtain⟨i,hi,rfl⟩:=List.getElem_of_mem hx;suffices ∀ i,(hi:i<l.length)->∃ j,(j<l.length/\Lib.keeps l.toArray j=true)/\l.toArray[j]! =l[i] from this i hi;intro i;induction i with
  | zero=>intro hi;exact⟨0,⟨hi,by simp[Lib.keeps]⟩,iU l hi⟩
  | succ i ih=>
   intro hi;by_cases h:l.toArray[i+1]! =l.toArray[i]!
   ·obtain⟨j,h1,h2⟩:=ih (by omega)
    refine⟨j,h1,?_⟩;rw[iU l hi,iU l (by omega)]at h;rw[h2,h]
   ·exact⟨i+1,⟨hi,by simp only[Lib.keeps,decide_eq_true_eq];exact .inr (by simpa using h)⟩,iU l hi⟩
theorem yN {l:List Int} (h:l.Pairwise (· <= ·)):(Lib.compact l).Pairwise (· < ·):=by
 unfold Lib.compact Lib.compactUpTo;rw[List.pairwise_map];have hr:((List.range l.length).filter (Lib.keeps l.toArray)).Pairwise (· < ·):=List.pairwise_lt_range.filter _;refine List.Pairwise.imp_of_mem (fun {i j} hi hj oZ=>?_) hr;rw[List.mem_filter,List.mem_range]at hi hj;have hk:=hj.2;simp only[Lib.keeps,decide_eq_true_eq]at hk;rcases hk with hk | hk
 ·omega
 ·have h1:=List.pairwise_iff_getElem.1 h
  rw[iU l hj.1,iU l (by omega)]at hk;rw[iU l hi.1,iU l hj.1];have h2:=h1 (j-1) j (by omega) hj.1 (by omega);by_cases e:i=j-1
  ·subst e;omega
  ·have h3:=h1 i (j-1) hi.1 (by omega) (by omega)
   omega
theorem EH {gn:List Nat} {n:Nat} (h:∀ k∈gn,k<n):Lib.compact (gj (gn.map Int.ofNat))=((List.range n).filter fun k=>gn.contains k).map Int.ofNat:=by
 obtain⟨C,hC⟩:∃ C,C=Lib.compact (gj (gn.map Int.ofNat)):=⟨_,rfl⟩;have hs:C.Pairwise (· < ·):=by rw[hC];exact yN (EG _)
 have hm:∀ x,x∈C↔ ∃ k∈gn,(k:Int)=x:=fun x=>by
  rw[hC,Hw,Oq,List.mem_map];rfl
 rw[<-hC];have hp:∀ x∈C,0<=x:=fun x hx=>by obtain⟨k,_,rfl⟩:=(hm x).1 hx;omega
 have e1:(C.map Int.toNat).map Int.ofNat=C:=by rw[List.map_map];exact(List.map_congr_left fun x hx=>Int.toNat_of_nonneg (hp x hx)).trans (List.map_id _)
 rw[<-e1];congr 1;refine yw _ _ ?_ (List.pairwise_lt_range.filter _) fun k=>?_
 ·rw[List.pairwise_map]
  exact List.Pairwise.imp_of_mem (fun {a b} ha hb hab=>by have:=hp a ha;have:=hp b hb;omega) hs
 ·rw[List.mem_filter,List.mem_range,List.contains_iff_mem,List.mem_map]
  constructor
  ·rintro⟨x,hx,rfl⟩
   obtain⟨k,hk,rfl⟩:=(hm x).1 hx;exact⟨h k hk,hk⟩
  ·rintro⟨_,hk⟩
   exact⟨k,(hm _).2 ⟨k,hk,rfl⟩,Int.toNat_natCast k⟩
section
variable {p:List BS} {R:Nat→Nat→Prop} (hp:cw p R)
include hp
end
def iV (ps:List PT) (row:List (List Int)):List Int:=(List.zip ps row).filterMap fun y=>if y.1.nf.acc y.2 then some y.1.mark else none
theorem nJ {ps:List PT} {row:List (List Int)} {m:Int} :m∈iV ps row↔ ∃ y∈List.zip ps row,y.1.nf.acc y.2=true/\y.1.mark=m:=by
 unfold iV;rw[List.mem_filterMap];constructor
 ·rintro⟨y,hy,h⟩
  split at h
  ·rename_i ha
   exact⟨y,hy,ha,Option.some.inj h⟩
  ·cases h
 ·rintro⟨y,hy,ha,rfl⟩
  exact⟨y,hy,by rw[if_pos ha]⟩
theorem A6 {ps:List PT} {row:List (List Int)} (h:∀ x∈ps,0<=x.mark/\x.mark<=255):Lib.compact (gj (iV ps row))=ej ps row:=by
 have hm:∀ m∈iV ps row,0<=m/\m<=255:=fun m hm=>by
  obtain⟨y,hy,_,rfl⟩:=nJ.1 hm;exact h _ (List.of_mem_zip (a:=y.1) (b:=y.2) hy).1
 have e:iV ps row=((iV ps row).map Int.toNat).map Int.ofNat:=by rw[List.map_map];exact((List.map_congr_left fun x hx=>Int.toNat_of_nonneg (hm x hx).1).trans (List.map_id _)).symm
 rw[e,EH (n:=256) (fun k hk=>by
  obtain⟨x,hx,rfl⟩:=List.mem_map.1 hk;have:=hm x hx
  omega)]
 unfold ej;congr 1;refine List.filter_congr fun m _=>?_
 rw[Bool.eq_iff_iff,List.contains_iff_mem,List.mem_map,List.any_eq_true];constructor
 ·rintro⟨x,hx,rfl⟩
  obtain⟨y,hy,ha,rfl⟩:=nJ.1 hx;refine⟨y,hy,?_⟩;have:=hm _ hx;simp only[Bool.and_eq_true,beq_iff_eq];exact⟨ha,by omega⟩
 ·rintro⟨y,hy,h1⟩
  simp only[Bool.and_eq_true,beq_iff_eq]at h1;exact⟨y.1.mark,nJ.2 ⟨y,hy,h1.1,rfl⟩,by omega⟩
theorem wh (v:Value) (l:List Int) (low high:Int) (aro:low=0\/low= -1) (w:World) (h:aZ aS w v l) (hn:l.length<=1000000): Calls Tryz.prog 102 #[v,.int .i64 low,.int .i64 high] w fun e w'=>e=.returned (.bool (eh low high l))/\w'=w:=by
 obtain⟨a,cap,rfl⟩:=h.form;obtain⟨n,oV⟩:∃ n,n=l.length:=⟨_,rfl⟩;obtain⟨r,hr⟩:∃ r,r=eh low high l:=⟨_,rfl⟩;rw[<-oV]at h hn ⊢;rw[<-hr];have H:=hid h;have HN:=hid oV;have HR:=hid hr;have w0:IntKind.i64.wrap (low-1)=low-1:=IntWalk.i64_in _ (by omega);clear h oV hr;go_enter Tryz.func102,Tryz.ntmps102;go_wp2;clear w0;go_loopw [7,14] (fun lv iv wr=>∃ k:Nat,k<=n/\iv=.int .i64 k/\lv=.int .i64 (lS low l k)/\(∀ i,i<k->iR low high l i=true)/\wr=w) (fun _ iv _=>n-(intOf iv).toNat);case atStart=>exact⟨0,by omega,rfl,by simp[lS],fun i hi=>by omega,rfl⟩
 case round=>
  obtain⟨k,hk,rfl,rfl,ha,rfl⟩:=hrel;have HA:=hid ha;clear ha;obtain⟨q,hq⟩:∃ q,q=lS low l k:=⟨_,rfl⟩;rw[<-hq];have HQ:=hid hq;clear hq;by_cases hlt:k<n
  ·obtain⟨x,Qr⟩:∃ x,l[k]? =some x:=⟨_,List.getElem?_eq_getElem (by have:=HN.out;omega)⟩
   obtain⟨g,off,rfl,hg,c1⟩:=H.out.elem Qr;replace c1:wr.cell? ⟨g,off+k,none⟩=some (.int .i64 x):=c1;have gz:(k:Int)<n:=by omega
   have HXL:=hid Qr;have Yr:Hid (iR low high l k=(decide (q<x)&&decide (x<=high))):=hid (by rw[uX Qr,HQ.out]);clear Qr;by_cases h1:x<=q
   ·have d1:decide (x<=q)=true:=decide_eq_true h1
    have lC:=hid (HR.out.trans (ML (by rw[<-HN.out];exact hlt) (by rw[Yr.out,show decide (q<x)=false from decide_eq_false (by omega)];rfl)));go_wp2;go_ret;exact⟨by rw[lC.out];rfl,rfl⟩
   ·have d1:decide (x<=q)=false:=decide_eq_false h1
    by_cases h2:high<x
    ·have d2:decide (high<x)=true:=decide_eq_true h2
     have d3:decide (x>high)=true:=d2;have lC:=hid (HR.out.trans (ML (by rw[<-HN.out];exact hlt) (by rw[Yr.out,show decide (x<=high)=false from decide_eq_false (by omega)];simp)));go_wp2;go_ret;exact⟨by rw[lC.out];rfl,rfl⟩
    ·have d2:decide (high<x)=false:=decide_eq_false h2
     have d3:decide (x>high)=false:=d2;go_wp2
     exact⟨⟨k+1,by omega,by go_num,by rw[Kw HXL.out],fun i hi=>by
      rcases Nat.lt_or_ge i k with h3 | h3
      ·exact HA.out i h3
      ·obtain rfl:i=k:=by omega
       rw[Yr.out];simp only[Bool.and_eq_true,decide_eq_true_eq]
       omega,by trivial⟩,by simp[intOf];omega⟩
  ·have xQ:k=n:=by omega
   have lC:=hid (HR.out.trans (Ht fun i hi=>HA.out i (by rw[xQ,HN.out];exact hi)));have KD:¬ ((k:Int)<n):=by omega
   go_wp2;go_ret;exact⟨by rw[lC.out];rfl,rfl⟩
attribute [local go_sem] encS
def mP (w:World) (v:Value) (a:NF):Prop:=∃ v0 v1 v2 v3,v=.agg #[v0,v1,v2,v3,.bool a.emp]/\qO w v0 a.aM/\mh w v1 a.cN/\aZ aS w v2 a.fst/\aZ aS w v3 a.dh
theorem mP.below {w w':World} {v:Value} {a:NF} (h:mP w v a) (hk:Below w.heap.size w w'):mP w' v a:=by obtain⟨v0,v1,v2,v3,e,h0,h1,h2,h3⟩:=h;exact⟨v0,v1,v2,v3,e,⟨h0.1.below hk,h0.2⟩,h1.below hk,h2.below hk,h3.below hk⟩
structure Qs (a:NF):Prop where
 aM:a.aM.length<=1000000
 cN:a.cN.length<=1000000
 fst:a.fst.length<=1000000
 dh:a.dh.length<=1000000
 row:∀ l∈a.cN,l.length<=1000000
theorem ah.five {w:World} {b:Nat} {x y z u t:Value} {ty:TypeId} (h:ah w b #[x,y,z,u,t] ty):w.cell? ⟨b,0,none⟩=some x/\w.cell? ⟨b,1,none⟩=some y/\w.cell? ⟨b,2,none⟩=some z/\w.cell? ⟨b,3,none⟩=some u/\w.cell? ⟨b,4,none⟩=some t:=
 ⟨h.cell 0,h.cell 1,h.cell 2,h.cell 3,h.cell 4⟩
theorem qV {a:NF} (h:400<a.aM.length\/a.cN.length≠a.aM.length\/eh 0 ((a.aM.length:Int)-1) a.fst=false\/eh 0 ((a.aM.length:Int)-1) a.dh=false):a.right=false:=by
 rw[Bool.eq_false_iff];intro hr;have h1:=(fE a).1 hr;rcases h with h | h | h | h
 ·have:=h1.le;omega
 ·exact h h1.cN
 ·rw[h1.fst]at h;cases h
 ·rw[h1.dh]at h;cases h
theorem yO {a:NF} {p:Nat} (hp:p<a.aM.length) (h:eh 0 ((a.aM.length:Int)-1) (a.cN.getD p [])=false\/a.aM.getD p 0=0):a.right=false:=by
 rw[Bool.eq_false_iff];intro hr;have h1:=(fE a).1 hr;rcases h with h | h
 ·rw[h1.row p hp]at h;cases h
 ·exact h1.ne p hp h
theorem KH {a:NF} (h1:a.aM.length<=400) (h2:a.cN.length=a.aM.length) (h3:eh 0 ((a.aM.length:Int)-1) a.fst=true) (h4:eh 0 ((a.aM.length:Int)-1) a.dh=true) (h5:∀ p,p<a.aM.length->eh 0 ((a.aM.length:Int)-1) (a.cN.getD p [])=true/\a.aM.getD p 0≠0):a.right=true:=(fE a).2 ⟨h1,h2,h3,h4,fun p hp=>(h5 p hp).1,fun p hp=>(h5 p hp).2⟩
theorem yP (v:Value) (a:NF) (w:World) (h:mP w v a) (sm:Qs a): Calls Tryz.prog 79 #[v] w fun e w'=>e=.returned (.bool a.right)/\Below w.heap.size w w':=by
 obtain⟨v0,v1,v2,v3,rfl,h0,h1,h2,h3⟩:=h;obtain⟨a0,c0,rfl⟩:=h0.1.form;obtain⟨a1,c1,rfl⟩:=h1.form;obtain⟨a2,c2,rfl⟩:=h2.form;obtain⟨a3,c3,rfl⟩:=h3.form;have CN:Hid (∀ (W:World) (v:Value) (l:List Int) (high:Int),aZ aS W v l->l.length<=1000000->Calls Tryz.prog 102 #[v,.int .i64 0,.int .i64 high] W fun e w'=>e=.returned (.bool (eh 0 high l))/\w'=W):=hid fun W v l high h hn=>wh v l 0 high (.inl rfl) W h hn
 obtain⟨n0,dD⟩:∃ n,n=a.aM.length:=⟨_,rfl⟩;obtain⟨n1,gR⟩:∃ n,n=a.cN.length:=⟨_,rfl⟩;obtain⟨n2,jB⟩:∃ n,n=a.fst.length:=⟨_,rfl⟩;obtain⟨n3,JF⟩:∃ n,n=a.dh.length:=⟨_,rfl⟩;obtain⟨R,hR⟩:∃ R,R=a.right:=⟨_,rfl⟩;have SM:=hid sm;have m0:n0<=1000000:=by rw[dD];exact sm.aM
 have m1:n1<=1000000:=by rw[gR];exact sm.cN
 rw[<-dD]at h0 ⊢;rw[<-gR]at h1 ⊢;rw[<-jB]at h2 ⊢;rw[<-JF]at h3 ⊢;rw[<-hR];have HR:=hid hR;have lJ:=hid dD;have ku:=hid gR;have j9:=hid jB;have HN3:=hid JF;have H0:=hid h0;have H1:=hid h1;have H2:=hid h2;have H3:=hid h3;clear h0 h1 h2 h3 dD gR jB JF hR sm;by_cases g1:400<n0
 ·have RR:=hid (HR.out.trans (qV (.inl (by rw[<-lJ.out];exact g1))))
  have g1i:(400:Int)<n0:=by omega
  go_enter Tryz.func79,Tryz.ntmps79
  go_wp2;go_ret;exact⟨by rw[RR.out];rfl,((Ext.refl _).alloc _).below⟩
 by_cases g2:n1≠n0
 ·have RR:=hid (HR.out.trans (qV (.inr (.inl (by rw[<-lJ.out, <-ku.out];exact g2)))))
  have g1i:¬ ((400:Int)<n0):=by omega
  have g2i:((n1:Int) != (n0:Int))=true:=by rw[bne_iff_ne];omega
  go_enter Tryz.func79,Tryz.ntmps79
  go_wp2;go_ret;exact⟨by rw[RR.out];rfl,((Ext.refl _).alloc _).below⟩
 replace g2:n1=n0:=Decidable.not_not.1 g2;subst g2;have g1i:¬ ((400:Int)<n1):=by omega
 have wn:IntKind.i64.wrap ((n1:Int)-1)=(n1:Int)-1:=IntWalk.i64_in _ (by omega);go_enter Tryz.func79,Tryz.ntmps79;go_wp2_with fail
 refine az ?_;intro V hV;have B1:Hid (ah V w.heap.size #[.slice a0 n1 c0,.slice a1 n1 c1,.slice a2 n2 c2,.slice a3 n3 c3,.bool a.emp] 97):=hid (by rw[hV];exact ah.new w _ _);have X1:Hid (Below w.heap.size w V):=hid (by rw[hV];exact((Ext.refl w).alloc _).below);clear hV;refine(CN.out V _ a.fst _ (H2.out.below X1.out) SM.out.fst).mono ?_;rintro e w1 ⟨rfl,hw⟩;replace hw:=hw.symm;subst hw;cases r1:eh 0 ((n1:Int)-1) a.fst
 ·have RR:=hid (HR.out.trans (qV (.inr (.inr (.inl (by rw[<-lJ.out];exact r1))))))
  clear r1;go_wp2;go_ret;exact⟨by rw[RR.out];rfl,X1.out⟩
 have R1:=hid r1;clear r1;obtain⟨i0,i1,i2,i3,i4⟩:=B1.out.five;go_wp2_with fail
 clear i0 i1 i2 i3 i4;refine(CN.out V _ a.dh _ (H3.out.below X1.out) SM.out.dh).mono ?_;rintro e w2 ⟨rfl,hw⟩;replace hw:=hw.symm;subst hw;cases r2:eh 0 ((n1:Int)-1) a.dh
 ·have RR:=hid (HR.out.trans (qV (.inr (.inr (.inr (by rw[<-lJ.out];exact r2))))))
  clear r2;go_wp2;go_ret;exact⟨by rw[RR.out];rfl,X1.out⟩
 have R2:=hid r2;clear r2;obtain⟨i0,i1,i2,i3,i4⟩:=B1.out.five;go_wp2;clear i0 i1 i2 i3 i4;go_loopw [37] (fun iv wr=>∃ k:Nat,k<=n1/\iv=.int .i64 k/\(∀ p,p<k->eh 0 ((n1:Int)-1) (a.cN.getD p [])=true/\a.aM.getD p 0≠0)/\wr=V) (fun iv _=>n1-(intOf iv).toNat);case atStart=>exact⟨0,by omega,rfl,fun p hp=>by omega,rfl⟩
 case round=>
  obtain⟨k,hk,rfl,ha,rfl⟩:=hrel;have HA:=hid ha;clear ha;by_cases hlt:k<n1
  ·have gz:(k:Int)<n1:=by omega
   obtain⟨l,hl⟩:∃ l,a.cN[k]? =some l:=⟨_,List.getElem?_eq_getElem (by have:=ku.out;omega)⟩;obtain⟨s,hs⟩:∃ s,a.aM[k]? =some s:=⟨_,List.getElem?_eq_getElem (by have:=lJ.out;omega)⟩;obtain⟨b,off,a',c',rfl,hb,cl,fy⟩:=(H1.out.below X1.out).elem hl;have Qj:=hid fy;have HL:=hid hl;have HS:=hid hs;have hln:l.length<=1000000:=SM.out.row l (List.mem_of_getElem? hl);clear fy hl hs;go_wp2_with fail
   clear cl;refine(CN.out wr _ l _ Qj.out hln).mono ?_;rintro e w3 ⟨rfl,hw⟩;replace hw:=hw.symm;subst hw;cases r3:eh 0 ((n1:Int)-1) l
   ·have RR:=hid (HR.out.trans (yO (p:=k) (by rw[<-lJ.out];exact hlt) (.inl (by rw[getD_some HL.out, <-lJ.out];exact r3))))
    clear r3;go_wp2;go_ret;exact⟨by rw[RR.out];rfl,X1.out⟩
   have R3:=hid r3;clear r3;obtain⟨i0,i1,i2,i3,i4⟩:=B1.out.five;obtain⟨b2,xe,rfl,hb2,d0,d1,d2,d3⟩:=(H0.out.1.below X1.out).elem HS.out;by_cases hz:s=0#256
   ·have he:∀ W,(Op.equalIn 10000 59 (.agg #[.int .u64 (wd s 0).toNat,.int .u64 (wd s 1).toNat,.int .u64 (wd s 2).toNat,.int .u64 (wd s 3).toNat]) (.agg #[.int .u64 0,.int .u64 0,.int .u64 0,.int .u64 0])).run Tryz.prog W=.ok true W:=fun W=>by
     have h1:=j7 s 0 W;rw[fQ,hz]at h1;rw[hz];exact h1
    have RR:=hid (HR.out.trans (yO (p:=k) (by rw[<-lJ.out];exact hlt) (.inr (by rw[getD_some HS.out];exact hz))));clear hz;go_wp2;go_ret;exact⟨by rw[RR.out];rfl,X1.out⟩
   ·have he:∀ W,(Op.equalIn 10000 59 (.agg #[.int .u64 (wd s 0).toNat,.int .u64 (wd s 1).toNat,.int .u64 (wd s 2).toNat,.int .u64 (wd s 3).toNat]) (.agg #[.int .u64 0,.int .u64 0,.int .u64 0,.int .u64 0])).run Tryz.prog W=.ok false W:=fun W=>by
     have h1:=j7 s 0 W;rw[fQ,show(s==0)=false from by simpa using hz]at h1;exact h1
    have HZ:=hid hz;clear hz;go_wp2
    exact⟨⟨k+1,by omega,by go_num,fun p hp=>by
     rcases Nat.lt_or_ge p k with h3 | h3
     ·exact HA.out p h3
     ·obtain rfl:p=k:=by omega
      rw[getD_some HL.out,getD_some HS.out]
      exact⟨R3.out,HZ.out⟩,by trivial⟩,by simp[intOf];omega⟩
  ·have xQ:k=n1:=by omega
   have RR:=hid (HR.out.trans (KH (by rw[<-lJ.out];omega) (by rw[<-lJ.out, <-ku.out]) (by rw[<-lJ.out];exact R1.out) (by rw[<-lJ.out];exact R2.out) (by rw[<-lJ.out];exact fun p hp=>HA.out p (by omega))));go_wp2;go_ret;exact⟨by rw[RR.out];rfl,X1.out⟩
end Go.Proofs.YtalombmiochpmaaGreatDoor
