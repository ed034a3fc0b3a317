/- (*maker).step: what a row of state sets leads to by a byte. -/
import Derived.Test.YtpcmhjbehdgdbaaGreatDoorOI05
import Derived.Shelf.Sort.Plain
import Derived.Shelf.Slices.In.SortNone
import Derived.Shelf.Slices.Turned
import Derived.Shelf.Slices.Cells
import Derived.Laws.AppendOwnNone
import Derived.Shelf.Strings.BuilderK
import Derived.Shelf.Strconv.Itoa3
import Derived.Lib.ItoaLen
set_option maxRecDepth 100000
set_option maxHeartbeats 16000000
open Go.Lib (hid)
namespace Go.Proofs.YtpcmhjbehdgdbaaGreatDoor
section
open Go Go.RowKit
def mZ (d:DF):List Nat×Bool×Int:=if d.right then((dA d).getD [],(dA d).isSome,0)else([],false,182)
end
section
open Go Go.RowKit Go.Shelf Go.Maps
attribute [local go_sem] encS
theorem Gx (v:Value) (d:DF) (sm:Sm d) (w:World) (h:iJ w v d): ag 61 #[v] w fun e w'=>∃ u,e=.returned (.tuple #[u,.bool (mZ d).2.1,.int .i64 (mZ d).2.2])/\w'.ownsRow w.heap.size 5 1 u (mZ d).1.length ((mZ d).1.map eN)/\aa w w':=by
 unfold mZ;cases hr:d.right with
 | true=>exact Dx v d ((aP d).1 hr) sm w h
 | false=>
  have CR:Hid (∀ W,aa w W->ag 48 #[v] W fun e w'=>e=.returned (.bool false)/\aa W w'):=fun W hW=>by
   have:=ji v d W (h.below hW) sm;rwa[hr]at this
  obtain⟨v0,v1,v2,rfl,h0,h1,h2⟩:=h;clear h0 h1 h2 hr sm;go_enter Tryz.func61,Tryz.ntmps61;go_wp2_with fail
  refine ax ?_;intro V hV;have B1:Hid (aq V w.heap.size #[v0,v1,v2] 73):=by rw[hV];exact aq.new w _ _
  have X1:Hid (aa w V):=by rw[hV];exact((Ext.refl w).alloc _).below
  clear hV;obtain⟨⟨k0,k1,k2⟩,_⟩:=B1.three;refine wp_scope_straight ?_;go_wp2_with fail
  refine(CR V X1).mono ?_;rintro e w2 ⟨rfl,hx⟩;have X2:=hid (X1.trans (hx.mono X1.size));clear hx k0 k1 k2 B1 X1;go_wp2;rw[Exit.noGoto_ret];exact bodyPost_ret (v:=.tuple #[.slice none 0 0,.bool false,.int .i64 182]) (by simp[results,Tryz.results61,go_sem]) rfl ⟨_,rfl,World.ownsRow_nil _ _ _ _,X2⟩
end
section
open Go Go.RowKit Go.Shelf Go.Maps
attribute [local go_sem] encS
theorem gP {P:Program} {l:List Oper} {ops:Array Oper} {Q:Exit->Act->World->Prop} {a:Act} {w:World} (h:∀ W,W=w->wpList P ops Q l a W):wpList P ops Q l a w:=h w rfl
end
section
open Go Go.RowKit Go.Shelf Go.Maps
theorem oJ.step {u v v':Value} {N:Nat} (h:oJ u v) (ho:v'.ownBlock=v.ownBlock\/∀ x,v'.ownBlock=some x->N<=x) (hu:∀ b,u.ownBlock=some b->b<N):oJ u v':=by
 rcases h with h | h
 ·exact .inl h
 ·by_cases e:u.ownBlock=none
  ·exact .inl e
  ·right
   intro e2;rcases ho with h2 | h2
   ·exact h (by rw[e2,h2])
   ·cases hb:u.ownBlock with
    | none=>exact e hb
    | some b=>have h3:=hu b hb;have h4:=h2 b (by rw[<-e2,hb]);omega
theorem dM.form {base:Nat} {w:World} {v:Value} {d:DF} (h:dM base w v d):∃ a0 c0 a1 c1 a2 c2,v=.agg #[.slice a0 d.cl.length c0,.slice a1 d.nx.length c1,.slice a2 d.mr.length c2]:=by obtain⟨v0,v1,v2,rfl,h0,h1,h2⟩:=h;obtain⟨a0,c0,rfl⟩:=ownsRow_form h0;obtain⟨a1,c1,rfl⟩:=h1.form;obtain⟨a2,c2,rfl⟩:=h2.form;exact⟨_,_,_,_,_,_,rfl⟩
theorem dp {w:World} {b base size n:Nat} {c:Array Value} {t e:TypeId} {v:Value} {xs:List Value} (h:aq w b c t) (ho:w.ownsRow base e size v n xs) (hne:t≠e):∀ x,v.ownBlock=some x->x≠b:=fun x hx e2=>by
 subst e2;rcases ho.2 with⟨h1,_⟩ | ⟨g',c',cur,h1,_,h3,_⟩
 ·rw[h1]at hx;cases hx
 ·subst h1
  have hg:g'=x:=by simpa[Value.ownBlock]using hx
  subst hg;have h4:w.heap[g']? =some (.cells c t (0,0)):=h;rw[h3]at h4;injection h4 with h4
  injection h4 with _ h5 _
  exact hne h5.symm
attribute [local go_sem] encS
def aR.WB (lo:Nat) (cs:Array Value) (t:TypeId):aR (Move false (fun _=>False)) where
 P:=fun v=>∃ b,v=.pointer (some ⟨b,0,none⟩)
 H:=fun v W=>∀ b,v=.pointer (some ⟨b,0,none⟩)->aq W b cs t/\lo<=b
 mo:=.pointer (some ⟨0,0,none⟩)
 pw:=⟨_,rfl⟩
 st:=fun _ _ _ hm _ h b e=>⟨(h b e).1.below hm.below (h b e).1.lt,(h b e).2⟩
end
section
open Go Go.RowKit Go.Shelf Go.Maps
structure NF where
 aL:List BS
 cG:List (List Int)
 fst:List Int
 cS:List Int
 emp:Bool
def j8 (low:Int) (l:List Int) (k:Nat):Int:=if k=0 then low-1 else l.getD (k-1) 0
def gQ (low high:Int) (l:List Int) (k:Nat):Bool:=decide (j8 low l k<l.getD k 0)&&decide (l.getD k 0<=high)
def dX (low high:Int) (l:List Int):Bool:=(List.range l.length).all (gQ low high l)
theorem Gy {low:Int} {l:List Int} {k:Nat} {x:Int} (hx:l[k]? =some x):j8 low l (k+1)=x:=by unfold j8;rw[if_neg (by omega),Nat.add_sub_cancel];exact getD_some hx
theorem rW {low high:Int} {l:List Int} {k:Nat} {x:Int} (hx:l[k]? =some x):gQ low high l k=(decide (j8 low l k<x)&&decide (x<=high)):=by unfold gQ;rw[getD_some hx]
theorem I7 {low high:Int} {l:List Int} {k:Nat} (hk:k<l.length) (h:gQ low high l k=false):dX low high l=false:=by unfold dX;rw[List.all_eq_false];exact⟨k,List.mem_range.2 hk,by rw[h];decide⟩
theorem Dy {low high:Int} {l:List Int} (h:∀ k,k<l.length->gQ low high l k=true):dX low high l=true:=by unfold dX;rw[List.all_eq_true];exact fun k hk=>h k (List.mem_range.1 hk)
theorem Al {low high:Int} {l:List Int} (h:dX low high l=true) {k:Nat} (hk:k<l.length):gQ low high l k=true:=by unfold dX at h;rw[List.all_eq_true]at h;exact h k (List.mem_range.2 hk)
def Gz (low n:Int) (l:List Int) (k:Nat):Bool:=decide (low<=l.getD k 0)&&decide (l.getD k 0<n)&&(decide (k=0) || decide (l.getD (k-1) 0<l.getD k 0))
theorem ada (low n:Int) (l:List Int):((List.range l.length).all (Gz low n l))=dX low (n-1) l:=by
 rw[Bool.eq_iff_iff];unfold dX;rw[List.all_eq_true,List.all_eq_true];constructor
 ·intro h k hk
  have h1:=h k hk;unfold Gz at h1;unfold gQ j8;simp only[Bool.and_eq_true,Bool.or_eq_true,decide_eq_true_eq]at h1 ⊢;obtain⟨⟨a,b⟩,c⟩:=h1;refine⟨?_,by omega⟩;split
  ·omega
  ·rcases c with c | c
   ·omega
   ·exact c
 ·intro h
  have WC:∀ k,k<l.length->low<=l.getD k 0:=by
   intro k;induction k with
   | zero=>
    intro hk;have h1:=h 0 (List.mem_range.2 hk);unfold gQ j8 at h1;simp only[Bool.and_eq_true,decide_eq_true_eq,if_true]at h1;omega
   | succ k ih=>
    intro hk;have h1:=h (k+1) (List.mem_range.2 hk);have h2:=ih (by omega);unfold gQ j8 at h1;simp only[Bool.and_eq_true,decide_eq_true_eq]at h1;rw[if_neg (by omega),Nat.add_sub_cancel]at h1;omega
  intro k hk;have h1:=h k hk;have h2:=WC k (List.mem_range.1 hk);unfold gQ j8 at h1;unfold Gz;simp only[Bool.and_eq_true,Bool.or_eq_true,decide_eq_true_eq]at h1 ⊢;refine⟨⟨h2,by omega⟩,?_⟩;by_cases h0:k=0
  ·exact .inl h0
  ·rw[if_neg h0]at h1
   exact .inr h1.1
theorem dY {low high:Int} {l:List Int} (h:dX low high l=true):l.Pairwise (· < ·)/\∀ x∈l,low<=x/\x<=high:=by
 have hs:∀ k,k+1<l.length->l.getD k 0<l.getD (k+1) 0:=fun k hk=>by
  have h1:=Al h hk;unfold gQ j8 at h1;simp only[Bool.and_eq_true,decide_eq_true_eq]at h1;rw[if_neg (by omega),Nat.add_sub_cancel]at h1;exact h1.1
 have hm:∀ i j,i<j->j<l.length->l.getD i 0<l.getD j 0:=by
  intro i j oY;induction j with
  | zero=>omega
  | succ j ih=>
   intro hj;rcases Nat.lt_or_ge i j with h1 | h1
   ·have:=ih h1 (by omega);have:=hs j hj;omega
   ·obtain rfl:i=j:=by omega
    exact hs i hj
 refine⟨?_,fun x hx=>?_⟩
 ·rw[List.pairwise_iff_getElem]
  intro i j hi hj oY;have:=hm i j oY hj;simpa[cq,aC hi,aC hj]using this
 ·obtain⟨k,hk⟩:=List.getElem?_of_mem hx
  have Ct:=(List.getElem?_eq_some_iff.1 hk).1;have h1:=Al h Ct;rw[rW hk]at h1;simp only[Bool.and_eq_true,decide_eq_true_eq]at h1;refine⟨?_,h1.2⟩;have h0:=Al h (show 0<l.length by omega);unfold gQ j8 at h0;simp only[Bool.and_eq_true,decide_eq_true_eq,if_true]at h0;have e:l.getD k 0=x:=getD_some hk;rcases Nat.eq_zero_or_pos k with h2 | h2
  ·subst h2;omega
  ·have:=hm 0 k h2 Ct;omega
theorem nQ {low high:Int} {l:List Int} (h:l.Pairwise (· < ·)) (hb:∀ x∈l,low<=x/\x<=high):dX low high l=true:=by
 refine Dy fun k hk=>?_
 have hx:=aC hk;rw[rW hx];have h1:=hb _ (List.getElem_mem hk);simp only[Bool.and_eq_true,decide_eq_true_eq];refine⟨?_,h1.2⟩;unfold j8;split
 ·omega
 ·rename_i h0
  have h2:=List.pairwise_iff_getElem.1 h (k-1) k (by omega) hk (by omega);rw[cq,aC (show k-1<l.length by omega)];exact h2
def NF.right (a:NF):Bool:=decide (a.aL.length<=400)&&decide (a.cG.length=a.aL.length)&&dX 0 ((a.aL.length:Int)-1) a.fst&&dX 0 ((a.aL.length:Int)-1) a.cS&&(List.range a.aL.length).all fun p=>dX 0 ((a.aL.length:Int)-1) (a.cG.getD p [])&&(a.aL.getD p 0 != 0)
structure Nt (a:NF):Prop where
 le:a.aL.length<=400
 cG:a.cG.length=a.aL.length
 fst:dX 0 ((a.aL.length:Int)-1) a.fst=true
 cS:dX 0 ((a.aL.length:Int)-1) a.cS=true
 row:∀ p,p<a.aL.length->dX 0 ((a.aL.length:Int)-1) (a.cG.getD p [])=true
 ne:∀ p,p<a.aL.length->a.aL.getD p 0≠0
theorem fk (a:NF):a.right=true↔Nt a:=by
 unfold NF.right;simp only[Bool.and_eq_true,decide_eq_true_eq,List.all_eq_true,List.mem_range,bne_iff_ne];constructor
 ·rintro⟨⟨⟨⟨h1,h2⟩,h3⟩,h4⟩,h5⟩
  exact⟨h1,h2,h3,h4,fun p hp=>(h5 p hp).1,fun p hp=>(h5 p hp).2⟩
 ·rintro⟨h1,h2,h3,h4,h5,h6⟩
  exact⟨⟨⟨⟨h1,h2⟩,h3⟩,h4⟩,fun p hp=>⟨h5 p hp,h6 p hp⟩⟩
def NF.st (a:NF) (l:List Int):Bool:=dX (-1) ((a.aL.length:Int)-1) l
def NF.pq (a:NF) (p:Int):List Int:=if p= -1 then a.fst else a.cG.getD p.toNat []
def NF.hit (a:NF) (l:List Int) (c q:Nat):Bool:=l.any fun p=>(a.pq p).contains (q:Int)&&(a.aL.getD q 0).getLsbD c
def NF.step (a:NF) (l:List Int) (c:Nat):List Int:=((List.range a.aL.length).filter (a.hit l c)).map Int.ofNat
def NF.SY (a:NF) (p:Int):Bool:=if p= -1 then a.emp else a.cS.contains p
def NF.acc (a:NF) (l:List Int):Bool:=l.any a.SY
theorem ng (n:Nat) (f:Nat->Bool):(((List.range n).filter f).map Int.ofNat).Pairwise (· < ·):=by rw[List.pairwise_map];exact(List.pairwise_lt_range.filter _).imp fun h=>Int.ofNat_lt.2 h
theorem NF.OM (a:NF) (l:List Int) (c:Nat):dX 0 ((a.aL.length:Int)-1) (a.step l c)=true:=by
 refine nQ (ng _ _) fun x hx=>?_
 obtain⟨q,hq,rfl⟩:=List.mem_map.1 hx;have:=List.mem_range.1 (List.mem_filter.1 hq).1;show(0:Int)<=(q:Int)/\(q:Int)<=_;omega
theorem Ku {high:Int} {l:List Int} (hh: -1<=high) (h:dX 0 high l=true):dX (-1) high (-1::l)=true:=by
 obtain⟨h1,h2⟩:=dY h;refine nQ (List.pairwise_cons.2 ⟨fun x hx=>?_,h1⟩) fun x hx=>?_
 ·have:=h2 x hx;omega
 ·rcases List.mem_cons.1 hx with rfl | hx
  ·omega
  ·have:=h2 x hx;omega
theorem OO {low low' high:Int} {l:List Int} (hh:low'<=low) (h:dX low high l=true):dX low' high l=true:=by obtain⟨h1,h2⟩:=dY h;exact nQ h1 fun x hx=>by have:=h2 x hx;omega
structure PT where
 nf:NF
 OP:Bool
 mark:Int
def PT.ok (x:PT):Bool:=x.nf.right&&decide (0<=x.mark)&&decide (x.mark<=255)
def PT.step (x:PT) (l:List Int) (c:Nat):List Int:=if x.OP then x.nf.step l c else-1::x.nf.step l c
def dZ (ps:List PT) (row:List (List Int)) (c:Nat):List (List Int):=List.zipWith (fun x l=>x.step l c) ps row
def dG (ps:List PT) (row:List (List Int)):List Int:=((List.range 256).filter fun (m:Nat)=>(List.zip ps row).any fun y=>y.1.nf.acc y.2&&(y.1.mark==(m:Int))).map Int.ofNat
def kq (ps:List PT):List (List Int):=ps.map fun _=>[-1]
def ct (ps:List PT):List BS:=ps.flatMap fun x=>x.nf.aL
def kO (ps:List PT) (fuel:Nat):Option (List (List (List Int))×List (List Nat)):=
 if fuel=0 then none else dQ fuel (fun row k=>dZ ps row (lb (partsOf (ct ps)) k)) (partsOf (ct ps)).length (kq ps) fuel
def di (ps:List PT) (fuel:Int):DF×Int:=
 if 64<ps.length then(⟨[],[],[]⟩,5)else if(ps.all PT.ok)=false then(⟨[],[],[]⟩,180)else if fuel<0\/4000<fuel then(⟨[],[],[]⟩,2)else
 match kO ps fuel.toNat with
 | none=>(⟨[],[],[]⟩,181)
 | some st=>(⟨partsOf (ct ps),st.2.map fun r=>r.map Int.ofNat,st.1.map (dG ps)⟩,0)
def nh (ps:List PT) (row:List (List Int)):Prop:=row.length=ps.length/\∀ (i:Nat) (x:PT) (l:List Int),ps[i]? =some x->row[i]? =some l->x.nf.st l=true
theorem nR (ps:List PT):nh ps (kq ps):=by refine⟨by simp[kq],fun i x l hx hl=>?_⟩;unfold kq at hl;rw[bH,hx]at hl;cases hl;unfold NF.st;exact nQ (by simp) fun y hy=>by simp at hy;omega
theorem jD {ps:List PT} {row:List (List Int)} (h:nh ps row) (c:Nat):nh ps (dZ ps row c):=by
 refine⟨by simp[dZ,h.1],fun i x l hx hl=>?_⟩;have hi:=(List.getElem?_eq_some_iff.1 hx).1;unfold dZ at hl;rw[List.getElem?_zipWith,hx,aC (by rw[h.1];exact hi)]at hl;cases hl;unfold PT.step NF.st;have hr:=x.nf.OM (row[i]'(by rw[h.1];exact hi)) c;split
 ·exact OO (by omega) hr
 ·exact Ku (by omega) hr
theorem GA (ps:List PT) (row:List (List Int)):mS (dG ps row)=true:=by
 have h:dX 0 255 (dG ps row)=true:=by
  refine nQ (ng _ _) fun x hx=>?_
  obtain⟨q,hq,rfl⟩:=List.mem_map.1 hx;have:=List.mem_range.1 (List.mem_filter.1 hq).1;show(0:Int)<=(q:Int)/\(q:Int)<=_;omega
 have e:mS (dG ps row)=dX 0 255 (dG ps row):=rfl;rw[e];exact h
theorem WD {b o j:Nat} {vs:List Value} {w:World} (h:∀ k,k<vs.length->(w.cell? ⟨b,o+k,none⟩).isSome=true) (hj:j<vs.length):(w.setCells b o vs).cell? ⟨b,o+j,none⟩=vs[j]? :=by rw[World.cell?_setCells_in b vs o w h j hj,aC hj]
section
variable {g i n:Nat} {l:List Int} {z:Int} {w0:World}
end
end
end Go.Proofs.YtpcmhjbehdgdbaaGreatDoor
namespace Go.Proofs
open Go.Shelf
def Tryz.Kv:Go.Shelf.Ren:=⟨fun | 189=>135 | 125=>143 | 257=>157 | 128=>167 | 129=>168 | 294=>174 | 295=>175 | 296=>176 | 297=>177 | 298=>178 | 299=>179 | 216=>180 | 300=>181 | 301=>182 | 328=>191 | 329=>184 | 330=>185 | 331=>192 | 332=>193 | 215=>194 | 343=>200 | n=>n,fun | 28=>51 | 3=>3 | 46=>82 | 0=>0 | 51=>120 | 53=>35 | 4=>4 | 183=>240 | 182=>239 | 131=>118 | 5=>5 | 9=>9 | 218=>254 | 222=>258 | 228=>266 | 229=>267 | n=>n,fun | n=>n⟩
theorem Tryz.UL:Go.Proofs.Lays.n189 Tryz.prog Tryz.Kv:= {
 mixed:=by kernel_rfl
 f125:=Tryz.func143.trans (congrArg some (by kernel_rfl))
 f128:=Tryz.func167.trans (congrArg some (by kernel_rfl))
 f129:=Tryz.func168.trans (congrArg some (by kernel_rfl))
 f189:=Tryz.func135.trans (congrArg some (by kernel_rfl))
 f215:=Tryz.func194.trans (congrArg some (by kernel_rfl))
 f216:=Tryz.func180.trans (congrArg some (by kernel_rfl))
 f257:=Tryz.func157.trans (congrArg some (by kernel_rfl))
 f294:=Tryz.func174.trans (congrArg some (by kernel_rfl))
 f295:=Tryz.func175.trans (congrArg some (by kernel_rfl))
 f296:=Tryz.func176.trans (congrArg some (by kernel_rfl))
 f297:=Tryz.func177.trans (congrArg some (by kernel_rfl))
 f298:=Tryz.func178.trans (congrArg some (by kernel_rfl))
 f299:=Tryz.func179.trans (congrArg some (by kernel_rfl))
 f300:=Tryz.func181.trans (congrArg some (by kernel_rfl))
 f301:=Tryz.func182.trans (congrArg some (by kernel_rfl))
 f328:=Tryz.func191.trans (congrArg some (by kernel_rfl))
 f329:=Tryz.func184.trans (congrArg some (by kernel_rfl))
 f330:=Tryz.func185.trans (congrArg some (by kernel_rfl))
 f331:=Tryz.func192.trans (congrArg some (by kernel_rfl))
 f332:=Tryz.func193.trans (congrArg some (by kernel_rfl))
 f343:=Tryz.func200.trans (congrArg some (by kernel_rfl))
 t0:=Tryz.underlying0
 a0:=Tryz.isAgg0
 z0:=Tryz.sizeOf0
 v0:=Tryz.zeroValue0
 t3:=Tryz.underlying3
 a3:=Tryz.isAgg3
 z3:=Tryz.sizeOf3
 v3:=Tryz.zeroValue3
 t4:=Tryz.underlying4
 a4:=Tryz.isAgg4
 z4:=Tryz.sizeOf4
 v4:=Tryz.zeroValue4
 t5:=Tryz.underlying5
 a5:=Tryz.isAgg5
 z5:=Tryz.sizeOf5
 v5:=Tryz.zeroValue5
 t9:=Tryz.underlying9
 a9:=Tryz.isAgg9
 z9:=Tryz.sizeOf9
 v9:=Tryz.zeroValue9
 t28:=Tryz.underlying51
 a28:=Tryz.isAgg51
 z28:=Tryz.sizeOf51
 v28:=Tryz.zeroValue51
 t46:=Tryz.underlying82
 a46:=Tryz.isAgg82
 z46:=Tryz.sizeOf82
 v46:=Tryz.zeroValue82
 t51:=Tryz.underlying120
 a51:=Tryz.isAgg120
 z51:=Tryz.sizeOf120
 v51:=Tryz.zeroValue120
 t53:=Tryz.underlying35
 a53:=Tryz.isAgg35
 z53:=Tryz.sizeOf35
 v53:=Tryz.zeroValue35
 t131:=Tryz.underlying118
 a131:=Tryz.isAgg118
 z131:=Tryz.sizeOf118
 v131:=Tryz.zeroValue118
 t182:=Tryz.underlying239
 a182:=Tryz.isAgg239
 z182:=Tryz.sizeOf239
 v182:=Tryz.zeroValue239
 t183:=Tryz.underlying240
 a183:=Tryz.isAgg240
 z183:=Tryz.sizeOf240
 v183:=Tryz.zeroValue240
 t218:=Tryz.underlying254
 a218:=Tryz.isAgg254
 z218:=Tryz.sizeOf254
 v218:=Tryz.zeroValue254
 t222:=Tryz.underlying258
 a222:=Tryz.isAgg258
 z222:=Tryz.sizeOf258
 v222:=Tryz.zeroValue258
 t228:=Tryz.underlying266
 a228:=Tryz.isAgg266
 z228:=Tryz.sizeOf266
 v228:=Tryz.zeroValue266
 t229:=Tryz.underlying267
 a229:=Tryz.isAgg267
 z229:=Tryz.sizeOf267
 v229:=Tryz.zeroValue267}
def Tryz.Am:Go.Shelf.Ren:=⟨fun | 20=>136 | n=>n,fun | 22=>51 | 3=>3 | 4=>4 | 0=>0 | n=>n,fun | n=>n⟩
theorem Tryz.Dz:Go.Proofs.Lays2.n20 Tryz.prog Tryz.Am:= {
 mixed:=by kernel_rfl
 f20:=Tryz.func136.trans (congrArg some (by kernel_rfl))
 t0:=Tryz.underlying0
 a0:=Tryz.isAgg0
 z0:=Tryz.sizeOf0
 v0:=Tryz.zeroValue0
 t3:=Tryz.underlying3
 a3:=Tryz.isAgg3
 z3:=Tryz.sizeOf3
 v3:=Tryz.zeroValue3
 t4:=Tryz.underlying4
 a4:=Tryz.isAgg4
 z4:=Tryz.sizeOf4
 v4:=Tryz.zeroValue4
 t22:=Tryz.underlying51
 a22:=Tryz.isAgg51
 z22:=Tryz.sizeOf51
 v22:=Tryz.zeroValue51
 i3:=by kernel_rfl}
def Tryz.xS:Go.Shelf.Ren:=⟨fun | 107=>56 | 108=>85 | n=>n,fun | 28=>51 | 3=>3 | 4=>4 | 0=>0 | n=>n,fun | n=>n⟩
theorem Tryz.yP:Go.Proofs.Lays.n107 Tryz.prog Tryz.xS:= {
 mixed:=by kernel_rfl
 f107:=Tryz.func56.trans (congrArg some (by kernel_rfl))
 f108:=Tryz.func85.trans (congrArg some (by kernel_rfl))
 t0:=Tryz.underlying0
 a0:=Tryz.isAgg0
 z0:=Tryz.sizeOf0
 v0:=Tryz.zeroValue0
 t3:=Tryz.underlying3
 a3:=Tryz.isAgg3
 z3:=Tryz.sizeOf3
 v3:=Tryz.zeroValue3
 t4:=Tryz.underlying4
 a4:=Tryz.isAgg4
 z4:=Tryz.sizeOf4
 v4:=Tryz.zeroValue4
 t28:=Tryz.underlying51
 a28:=Tryz.isAgg51
 z28:=Tryz.sizeOf51
 v28:=Tryz.zeroValue51}
end Go.Proofs
namespace Go.Proofs.YtpcmhjbehdgdbaaGreatDoor
section
open Go Go.RowKit Go.Shelf Go.Maps
theorem GC (R:Nat->Prop) (w:World) (os:Array Obj) (hR:∀ k,R k->k<w.heap.size):ae R w (Sort.grow w os) where
 os:=rfl
 tape:=rfl
 output:=rfl
 size:=by unfold Sort.grow;simp
 keep:=fun k hk=>by unfold Sort.grow;exact Array.getElem?_append_left (hR k hk)
theorem oN {base g n cap:Nat} {xs ys:List Value} {w:World} (h:w.ownsRow base 3 1 (.slice (some ⟨g,0,none⟩) n cap) n xs) (hy:ys.length=n): (w.setCells g 0 ys).ownsRow base 3 1 (.slice (some ⟨g,0,none⟩) n cap) n ys/\ae (· ≠g) w (w.setCells g 0 ys):=by
 obtain⟨zs,h1,h2⟩:=kH 0 ys 0 w xs (aD _) h;have hl:zs.length=n:=by have:=h1.1;omega
 have hx:xs.length=n:=by have:=h.1;omega
 have:zs=ys:=by
  apply List.ext_getElem?;intro j;by_cases hj:j<n
  ·have e1:=h1.cellAt j (by omega)
   have e2:=WD (b:=g) (o:=0) (j:=j) (vs:=ys) (w:=w) (fun k hk=>by
    rw[h.cellAt _ (by omega),aC (by omega)];rfl) (by omega)
   rw[Nat.zero_add]at e2;exact e1.symm.trans e2
  ·rw[dD (by omega),dD (by omega)]
 rw[this]at h1;exact⟨h1,h2⟩
theorem DA {base g n cap m:Nat} {xs:List Value} {w:World} (h:w.ownsRow base 3 1 (.slice (some ⟨g,0,none⟩) n cap) n xs) (hm:m<=n): w.ownsRow base 3 1 (.slice (some ⟨g,0,none⟩) m cap) m (xs.take m):=by
 have hl:=h.1;refine⟨by rw[List.length_take];omega,?_⟩;rcases h.2 with⟨hv,_⟩ | ⟨g',cap',cur,hv,h1,h2,h3,h4,h5,h6⟩
 ·cases hv
 ·cases hv
  exact .inr ⟨g,cap,cur,rfl,h1,h2,by omega,h4,h5,by rw[<-h6,List.take_take];congr 1;omega⟩
def fF (l:List Int):List Int:=l.mergeSort fun x y=>decide (x<=y)
theorem kP (l:List Int):(fF l).length=l.length:=by unfold fF;exact List.length_mergeSort _
theorem Kw {base g n cap:Nat} {l:List Int} {w:World} (h:w.ownsRow base 3 1 (.slice (some ⟨g,0,none⟩) n cap) n (l.map aV)):Sort.Holds (Value.int .i64) w g 0 l.toArray:=by
 intro j hj;have hl:l.length=n:=by have:=h.1;simpa using this
 have hj':j<l.length:=by simpa using hj
 refine⟨?_,h.frozenAt _⟩;rw[Nat.zero_add,h.cellAt j (by omega),bH,aC hj',Array.getElem!_eq_getD];simp[aV,hj']
theorem Ky (base:Nat) (v:Value) (n:Nat) (l:List Int) (w:World) (ho:w.ownsRow base 3 1 v n (l.map aV)) (hn:n<=1000000): ag 135 #[v] w fun e w'=>e=.returned (.tuple #[])/\w'.ownsRow base 3 1 v n ((fF l).map aV)/\ae (fun x=>x<w.heap.size/\v.ownBlock≠some x) w w':=by
 have hl:l.length=n:=by have:=ho.1;simpa using this
 rcases ho.2 with⟨rfl,rfl⟩ | ⟨g,cap,cur,rfl,hbg,hg,_⟩
 ·have hl0:l=[]:=List.eq_nil_of_length_eq_zero hl
  subst hl0;exact(Any.slices_Sort_int_none Tryz.UL none 0 w).mono fun e w' ⟨he,hw⟩=>⟨he,by rw[hw,show fF []=[] from List.eq_nil_of_length_eq_zero (kP _)];exact ho,by rw[hw];exact ae.refl _ _⟩
 ·have hH:=Kw ho
  have hblk:aq w g cur 3:=hg;have:=Any.slices_Sort_int Tryz.UL g 0 cap l w hH hblk.lt (by omega);rw[hl]at this;refine this.mono fun e w' ⟨he,q,os,hw⟩=>⟨he,?_⟩
  have e1:=Lib.putRow_eq_setCells (Value.int .i64) w g 0 l.toArray (fF l) q hH (by rw[kP];simp);have hw':w'=Sort.grow ((w.drewN q).setCells g 0 ((fF l).map (Value.int .i64))) os:=by rw[hw, <-e1];rfl
  have hd:(w.drewN q).ownsRow base 3 1 (.slice (some ⟨g,0,none⟩) n cap) n (l.map aV):=ho;obtain⟨a1,a2⟩:=oN hd (ys:=(fF l).map aV) (by rw[bp,kP];exact hl);have WE:ae (· ≠g) w (w.drewN q):=⟨rfl,rfl,rfl,aD _,fun _ _=>rfl⟩;have hk:=WE.tr a2;rw[hw'];have hgk:∀ R:Nat->Prop,(∀ k,R k->k<((w.drewN q).setCells g 0 ((fF l).map (Value.int .i64))).heap.size)->ae R ((w.drewN q).setCells g 0 ((fF l).map (Value.int .i64))) (Sort.grow ((w.drewN q).setCells g 0 ((fF l).map (Value.int .i64))) os):=fun R hR=>GC R _ os hR
  refine⟨au a1 (hgk (· <_) fun _ h=>h) (fun k e=>(a1.lt k e).2),?_⟩;exact(hk.mono fun x hx e=>hx.2 (by rw[e];rfl)).tr (hgk _ fun x hx=>aw hx.1 hk.size)
theorem xT (v:Value) (l:List Int) (x:Int) (w:World) (hl:cR aV w v l) (hn:l.length<=1000000): ag 56 #[v,.int .i64 x] w fun e w'=>e=.returned (.bool (l.contains x))/\w'=w:=by
 obtain⟨a,c,rfl⟩:=hl.form;cases hle:l with
 | nil=>exact(Any.slices_Contains_int_empty Tryz.yP a c x w).mono fun e w' ⟨he,hw⟩=>⟨by rw[he];rfl,hw⟩
 | cons y r=>
  rw[<-hle];obtain⟨g,off,rfl,_,_⟩:=hl.elem (i:=0) (x:=y) (by rw[hle];rfl)
  have:=Any.slices_Contains_int Tryz.yP g off l.length c l x w (aD _) (by omega) (fun j hj=>by
   obtain⟨g',off',e,_,h2⟩:=hl.elem (i:=j) (x:=l[j]) (aC hj);cases e
   rw[h2];simp[aV,hj])
  rw[List.take_of_length_le (aD _)]at this;exact this
/-! A list, sorted and compacted. -/
theorem Ao (l:List Int):(fF l).Pairwise (· <= ·):=by have:=List.pairwise_mergeSort (le:=fun x y:Int=>decide (x<=y)) (fun a b c h1 h2=>by simp at*;omega) (fun a b=>by simp;omega) l;exact this.imp fun h=>by simpa using h
theorem Kz {l:List Int} {x:Int} :x∈fF l↔x∈l:=(List.mergeSort_perm _ _).mem_iff
theorem gR (l:List Int) {i:Nat} (hi:i<l.length):l.toArray[i]! =l[i]:=by simp[hi]
theorem DB {l:List Int} {x:Int} :x∈Lib.compact l↔x∈l:=by
 unfold Lib.compact Lib.compactUpTo;simp only[List.mem_map,List.mem_filter,List.mem_range];constructor
 ·rintro⟨i,⟨hi,_⟩,rfl⟩
  rw[gR l hi];exact List.getElem_mem _
 ·intro hx
  obtain⟨i,hi,rfl⟩:=List.getElem_of_mem hx;suffices ∀ i,(hi:i<l.length)->∃ j,(j<l.length/\Lib.keeps l.toArray j=true)/\l.toArray[j]! =l[i] from this i hi;intro i;induction i with
  | zero=>intro hi;exact⟨0,⟨hi,by simp[Lib.keeps]⟩,gR l hi⟩
  | succ i ih=>
   intro hi;by_cases h:l.toArray[i+1]! =l.toArray[i]!
   ·obtain⟨j,h1,h2⟩:=ih (by omega)
    refine⟨j,h1,?_⟩;rw[gR l hi,gR l (by omega)]at h;rw[h2,h]
   ·exact⟨i+1,⟨hi,by simp only[Lib.keeps,decide_eq_true_eq];exact .inr (by simpa using h)⟩,gR l hi⟩
theorem vE {l:List Int} (h:l.Pairwise (· <= ·)):(Lib.compact l).Pairwise (· < ·):=by
 unfold Lib.compact Lib.compactUpTo;rw[List.pairwise_map];have hr:((List.range l.length).filter (Lib.keeps l.toArray)).Pairwise (· < ·):=List.pairwise_lt_range.filter _;refine List.Pairwise.imp_of_mem (fun {i j} hi hj oY=>?_) hr;rw[List.mem_filter,List.mem_range]at hi hj;have hk:=hj.2;simp only[Lib.keeps,decide_eq_true_eq]at hk;rcases hk with hk | hk
 ·omega
 ·have h1:=List.pairwise_iff_getElem.1 h
  rw[gR l hj.1,gR l (by omega)]at hk;rw[gR l hi.1,gR l hj.1];have h2:=h1 (j-1) j (by omega) hj.1 (by omega);by_cases e:i=j-1
  ·subst e;omega
  ·have h3:=h1 i (j-1) hi.1 (by omega) (by omega)
   omega
theorem Ap {gn:List Nat} {n:Nat} (h:∀ k∈gn,k<n):Lib.compact (fF (gn.map Int.ofNat))=((List.range n).filter fun k=>gn.contains k).map Int.ofNat:=by
 obtain⟨C,hC⟩:=ah (Lib.compact (fF (gn.map Int.ofNat)));have hs:C.Pairwise (· < ·):=by rw[hC];exact vE (Ao _)
 have hm:∀ x,x∈C↔ ∃ k∈gn,(k:Int)=x:=fun x=>by
  rw[hC,DB,Kz,List.mem_map];rfl
 rw[<-hC];have hp:∀ x∈C,0<=x:=fun x hx=>by obtain⟨k,_,rfl⟩:=(hm x).1 hx;omega
 have e1:(C.map Int.toNat).map Int.ofNat=C:=by rw[List.map_map];exact(List.map_congr_left fun x hx=>Int.toNat_of_nonneg (hp x hx)).trans (List.map_id _)
 rw[<-e1];congr 1;refine vk _ _ ?_ (List.pairwise_lt_range.filter _) fun k=>?_
 ·rw[List.pairwise_map]
  exact List.Pairwise.imp_of_mem (fun {a b} ha hb hab=>by have:=hp a ha;have:=hp b hb;omega) hs
 ·rw[List.mem_filter,List.mem_range,List.contains_iff_mem,List.mem_map]
  constructor
  ·rintro⟨x,hx,rfl⟩
   obtain⟨k,hk,rfl⟩:=(hm x).1 hx;exact⟨h k hk,hk⟩
  ·rintro⟨_,hk⟩
   exact⟨k,(hm _).2 ⟨k,hk,rfl⟩,Int.toNat_natCast k⟩
section
variable {p:List BS} {R:Nat→Nat→Prop} (hp:cT p R)
include hp
end
def gS (ps:List PT) (row:List (List Int)):List Int:=(List.zip ps row).filterMap fun y=>if y.1.nf.acc y.2 then some y.1.mark else none
theorem lH {ps:List PT} {row:List (List Int)} {m:Int} :m∈gS ps row↔ ∃ y∈List.zip ps row,y.1.nf.acc y.2=true/\y.1.mark=m:=by
 unfold gS;rw[List.mem_filterMap];constructor
 ·rintro⟨y,hy,h⟩
  split at h
  ·rename_i ha
   exact⟨y,hy,ha,Option.some.inj h⟩
  ·cases h
 ·rintro⟨y,hy,ha,rfl⟩
  exact⟨y,hy,by rw[if_pos ha]⟩
theorem xU {ps:List PT} {row:List (List Int)} (h:∀ x∈ps,0<=x.mark/\x.mark<=255):Lib.compact (fF (gS ps row))=dG ps row:=by
 have hm:∀ m∈gS ps row,0<=m/\m<=255:=fun m hm=>by
  obtain⟨y,hy,_,rfl⟩:=lH.1 hm;exact h _ (List.of_mem_zip (a:=y.1) (b:=y.2) hy).1
 have e:gS ps row=((gS ps row).map Int.toNat).map Int.ofNat:=by rw[List.map_map];exact((List.map_congr_left fun x hx=>Int.toNat_of_nonneg (hm x hx).1).trans (List.map_id _)).symm
 rw[e,Ap (n:=256) (fun k hk=>by
  obtain⟨x,hx,rfl⟩:=List.mem_map.1 hk;have:=hm x hx
  omega)]
 unfold dG;congr 1;refine List.filter_congr fun m _=>?_
 rw[Bool.eq_iff_iff,List.contains_iff_mem,List.mem_map,List.any_eq_true];constructor
 ·rintro⟨x,hx,rfl⟩
  obtain⟨y,hy,ha,rfl⟩:=lH.1 hx;refine⟨y,hy,?_⟩;have:=hm _ hx;simp only[Bool.and_eq_true,beq_iff_eq];exact⟨ha,by omega⟩
 ·rintro⟨y,hy,h1⟩
  simp only[Bool.and_eq_true,beq_iff_eq]at h1;exact⟨y.1.mark,lH.2 ⟨y,hy,h1.1,rfl⟩,by omega⟩
theorem s8 (v:Value) (l:List Int) (low high:Int) (alI:low=0\/low= -1) (w:World) (h:cR aV w v l) (hn:l.length<=1000000): ag 96 #[v,.int .i64 low,.int .i64 high] w fun e w'=>e=.returned (.bool (dX low high l))/\w'=w:=by
 obtain⟨a,cap,rfl⟩:=h.form;obtain⟨n,ot⟩:=ah l.length;obtain⟨r,hr⟩:=ah (dX low high l);rw[<-ot]at h hn ⊢;rw[<-hr];have H:=hid h;have HN:=hid ot;have HR:=hid hr;have w0:IntKind.i64.wrap (low-1)=low-1:=IntWalk.i64_in _ (by omega);clear h ot hr;go_enter Tryz.func96,Tryz.ntmps96;go_wp2;clear w0;go_loopw [7,14] (fun lv iv wr=>∃ k:Nat,k<=n/\iv=.int .i64 k/\lv=.int .i64 (j8 low l k)/\(∀ i,i<k->gQ low high l i=true)/\wr=w) (fun _ iv _=>n-(intOf iv).toNat);case atStart=>exact⟨0,by omega,rfl,by simp[j8],fun i hi=>by omega,rfl⟩
 case round=>
  obtain⟨k,hk,rfl,rfl,ha,rfl⟩:=hrel;have HA:=hid ha;clear ha;obtain⟨q,hq⟩:=ah (j8 low l k);rw[<-hq];have HQ:=hid hq;clear hq;by_cases hlt:k<n
  ·obtain⟨x,MH⟩:∃ x,l[k]? =some x:=⟨_,aC (by have:=HN.out;omega)⟩
   obtain⟨g,off,rfl,hg,c1⟩:=H.elem MH;replace c1:wr.cell? ⟨g,off+k,none⟩=some (.int .i64 x):=c1;have eT:(k:Int)<n:=by omega
   have HXL:=hid MH;have Ux:Hid (gQ low high l k=(decide (q<x)&&decide (x<=high))):=hid (by rw[rW MH,HQ.out]);clear MH;by_cases h1:x<=q
   ·have d1:decide (x<=q)=true:=decide_eq_true h1
    have gN:=hid (HR.trans (I7 (by rw[<-HN.out];exact hlt) (by rw[Ux.out,show decide (q<x)=false from decide_eq_false (by omega)];rfl)));go_wp2;go_ret;exact⟨by rw[gN.out];rfl,rfl⟩
   ·have d1:decide (x<=q)=false:=decide_eq_false h1
    by_cases h2:high<x
    ·have d2:decide (high<x)=true:=decide_eq_true h2
     have d3:decide (x>high)=true:=d2;have gN:=hid (HR.trans (I7 (by rw[<-HN.out];exact hlt) (by rw[Ux.out,show decide (x<=high)=false from decide_eq_false (by omega)];simp)));go_wp2;go_ret;exact⟨by rw[gN.out];rfl,rfl⟩
    ·have d2:decide (high<x)=false:=decide_eq_false h2
     have d3:decide (x>high)=false:=d2;go_wp2
     exact⟨⟨k+1,by omega,by go_num,by rw[Gy HXL.out],fun i hi=>by
      rcases Nat.lt_or_ge i k with h3 | h3
      ·exact HA i h3
      ·obtain rfl:i=k:=by omega
       rw[Ux.out];simp only[Bool.and_eq_true,decide_eq_true_eq]
       omega,by trivial⟩,by simp[intOf];omega⟩
  ·have pT:k=n:=by omega
   have gN:=hid (HR.trans (Dy fun i hi=>HA i (by rw[pT,HN.out];exact hi)));have yQ:¬ ((k:Int)<n):=by omega
   go_wp2;go_ret;exact⟨by rw[gN.out];rfl,rfl⟩
attribute [local go_sem] encS
def iZ (w:World) (v:Value) (a:NF):Prop:=∃ v0 v1 v2 v3,v=.agg #[v0,v1,v2,v3,.bool a.emp]/\uA w v0 a.aL/\lC w v1 a.cG/\cR aV w v2 a.fst/\cR aV w v3 a.cS
theorem iZ.below {w w':World} {v:Value} {a:NF} (h:iZ w v a) (hk:aa w w'):iZ w' v a:=by obtain⟨v0,v1,v2,v3,e,h0,h1,h2,h3⟩:=h;exact⟨v0,v1,v2,v3,e,⟨h0.1.below hk,h0.2⟩,h1.below hk,h2.below hk,h3.below hk⟩
structure I8 (a:NF):Prop where
 aL:a.aL.length<=1000000
 cG:a.cG.length<=1000000
 fst:a.fst.length<=1000000
 cS:a.cS.length<=1000000
 row:∀ l∈a.cG,l.length<=1000000
theorem aq.five {w:World} {b:Nat} {x y z u t:Value} {ty:TypeId} (h:aq w b #[x,y,z,u,t] ty):w.cell? ⟨b,0,none⟩=some x/\w.cell? ⟨b,1,none⟩=some y/\w.cell? ⟨b,2,none⟩=some z/\w.cell? ⟨b,3,none⟩=some u/\w.cell? ⟨b,4,none⟩=some t:=
 ⟨h.cell 0,h.cell 1,h.cell 2,h.cell 3,h.cell 4⟩
theorem nS {a:NF} (h:400<a.aL.length\/a.cG.length≠a.aL.length\/dX 0 ((a.aL.length:Int)-1) a.fst=false\/dX 0 ((a.aL.length:Int)-1) a.cS=false):a.right=false:=by
 rw[Bool.eq_false_iff];intro hr;have h1:=(fk a).1 hr;rcases h with h | h | h | h
 ·have:=h1.le;omega
 ·exact h h1.cG
 ·rw[h1.fst]at h;cases h
 ·rw[h1.cS]at h;cases h
theorem vF {a:NF} {p:Nat} (hp:p<a.aL.length) (h:dX 0 ((a.aL.length:Int)-1) (a.cG.getD p [])=false\/a.aL.getD p 0=0):a.right=false:=by
 rw[Bool.eq_false_iff];intro hr;have h1:=(fk a).1 hr;rcases h with h | h
 ·rw[h1.row p hp]at h;cases h
 ·exact h1.ne p hp h
theorem GD {a:NF} (h1:a.aL.length<=400) (h2:a.cG.length=a.aL.length) (h3:dX 0 ((a.aL.length:Int)-1) a.fst=true) (h4:dX 0 ((a.aL.length:Int)-1) a.cS=true) (h5:∀ p,p<a.aL.length->dX 0 ((a.aL.length:Int)-1) (a.cG.getD p [])=true/\a.aL.getD p 0≠0):a.right=true:=(fk a).2 ⟨h1,h2,h3,h4,fun p hp=>(h5 p hp).1,fun p hp=>(h5 p hp).2⟩
theorem py (v:Value) (a:NF) (w:World) (h:iZ w v a) (sm:I8 a): ag 65 #[v] w fun e w'=>e=.returned (.bool a.right)/\aa w w':=by
 obtain⟨v0,v1,v2,v3,rfl,h0,h1,h2,h3⟩:=h;obtain⟨a0,c0,rfl⟩:=h0.1.form;obtain⟨a1,c1,rfl⟩:=h1.form;obtain⟨a2,c2,rfl⟩:=h2.form;obtain⟨a3,c3,rfl⟩:=h3.form;have CN:Hid (∀ (W:World) (v:Value) (l:List Int) (high:Int),cR aV W v l->l.length<=1000000->ag 96 #[v,.int .i64 0,.int .i64 high] W fun e w'=>e=.returned (.bool (dX 0 high l))/\w'=W):=hid fun W v l high h hn=>s8 v l 0 high (.inl rfl) W h hn
 obtain⟨n0,eZ⟩:=ah a.aL.length;obtain⟨n1,pW⟩:=ah a.cG.length;obtain⟨n2,sX⟩:=ah a.fst.length;obtain⟨n3,KC⟩:=ah a.cS.length;obtain⟨R,hR⟩:=ah a.right;have SM:=hid sm;have m0:n0<=1000000:=by rw[eZ];exact sm.aL
 have m1:n1<=1000000:=by rw[pW];exact sm.cG
 rw[<-eZ]at h0 ⊢;rw[<-pW]at h1 ⊢;rw[<-sX]at h2 ⊢;rw[<-KC]at h3 ⊢;rw[<-hR];have HR:=hid hR;have yE:=hid eZ;have xO:=hid pW;have tS:=hid sX;have Zf:=hid KC;have H0:=hid h0;have H1:=hid h1;have H2:=hid h2;have H3:=hid h3;clear h0 h1 h2 h3 eZ pW sX KC hR sm;by_cases g1:400<n0
 ·have RR:=hid (HR.trans (nS (.inl (by rw[<-yE.out];exact g1))))
  have g1i:(400:Int)<n0:=by omega
  go_enter Tryz.func65,Tryz.ntmps65
  go_wp2;go_ret;exact⟨by rw[RR.out];rfl,((Ext.refl _).alloc _).below⟩
 by_cases g2:n1≠n0
 ·have RR:=hid (HR.trans (nS (.inr (.inl (by rw[<-yE.out, <-xO.out];exact g2)))))
  have g1i:¬ ((400:Int)<n0):=by omega
  have g2i:((n1:Int) != (n0:Int))=true:=by rw[bne_iff_ne];omega
  go_enter Tryz.func65,Tryz.ntmps65
  go_wp2;go_ret;exact⟨by rw[RR.out];rfl,((Ext.refl _).alloc _).below⟩
 replace g2:n1=n0:=Decidable.not_not.1 g2;subst g2;have g1i:¬ ((400:Int)<n1):=by omega
 have wn:IntKind.i64.wrap ((n1:Int)-1)=(n1:Int)-1:=IntWalk.i64_in _ (by omega);go_enter Tryz.func65,Tryz.ntmps65;go_wp2_with fail
 refine aK ?_;intro V hV;have B1:Hid (aq V w.heap.size #[.slice a0 n1 c0,.slice a1 n1 c1,.slice a2 n2 c2,.slice a3 n3 c3,.bool a.emp] 99):=hid (by rw[hV];exact aq.new w _ _);have X1:Hid (aa w V):=hid (by rw[hV];exact((Ext.refl w).alloc _).below);clear hV;refine(CN V _ a.fst _ (H2.below X1) SM.fst).mono ?_;rintro e w1 ⟨rfl,hw⟩;replace hw:=hw.symm;subst hw;cases r1:dX 0 ((n1:Int)-1) a.fst
 ·have RR:=hid (HR.trans (nS (.inr (.inr (.inl (by rw[<-yE.out];exact r1))))))
  clear r1;go_wp2;go_ret;exact⟨by rw[RR.out];rfl,X1⟩
 have R1:=hid r1;clear r1;obtain⟨i0,i1,i2,i3,i4⟩:=B1.five;go_wp2_with fail
 clear i0 i1 i2 i3 i4;refine(CN V _ a.cS _ (H3.below X1) SM.cS).mono ?_;rintro e w2 ⟨rfl,hw⟩;replace hw:=hw.symm;subst hw;cases r2:dX 0 ((n1:Int)-1) a.cS
 ·have RR:=hid (HR.trans (nS (.inr (.inr (.inr (by rw[<-yE.out];exact r2))))))
  clear r2;go_wp2;go_ret;exact⟨by rw[RR.out];rfl,X1⟩
 have R2:=hid r2;clear r2;obtain⟨i0,i1,i2,i3,i4⟩:=B1.five;go_wp2;clear i0 i1 i2 i3 i4;go_loopw [37] (fun iv wr=>∃ k:Nat,k<=n1/\iv=.int .i64 k/\(∀ p,p<k->dX 0 ((n1:Int)-1) (a.cG.getD p [])=true/\a.aL.getD p 0≠0)/\wr=V) (fun iv _=>n1-(intOf iv).toNat);case atStart=>exact⟨0,by omega,rfl,fun p hp=>by omega,rfl⟩
 case round=>
  obtain⟨k,hk,rfl,ha,rfl⟩:=hrel;have HA:=hid ha;clear ha;by_cases hlt:k<n1
  ·have eT:(k:Int)<n1:=by omega
   obtain⟨l,hl⟩:∃ l,a.cG[k]? =some l:=⟨_,aC (by have:=xO.out;omega)⟩;obtain⟨s,hs⟩:∃ s,a.aL[k]? =some s:=⟨_,aC (by have:=yE.out;omega)⟩;obtain⟨b,off,a',c',rfl,hb,cl,l8⟩:=(H1.below X1).elem hl;have SZ:=hid l8;have HL:=hid hl;have HS:=hid hs;have hln:l.length<=1000000:=SM.row l (aA hl);clear l8 hl hs;go_wp2_with fail
   clear cl;refine(CN wr _ l _ SZ hln).mono ?_;rintro e w3 ⟨rfl,hw⟩;replace hw:=hw.symm;subst hw;cases r3:dX 0 ((n1:Int)-1) l
   ·have RR:=hid (HR.trans (vF (p:=k) (by rw[<-yE.out];exact hlt) (.inl (by rw[getD_some HL.out, <-yE.out];exact r3))))
    clear r3;go_wp2;go_ret;exact⟨by rw[RR.out];rfl,X1⟩
   have R3:=hid r3;clear r3;obtain⟨i0,i1,i2,i3,i4⟩:=B1.five;obtain⟨b2,tW,rfl,hb2,d0,d1,d2,d3⟩:=(H0.1.below X1).elem HS;by_cases hz:s=0#256
   ·have he:∀ W,(Op.equalIn 10000 37 (.agg #[.int .u64 (wd s 0).toNat,.int .u64 (wd s 1).toNat,.int .u64 (wd s 2).toNat,.int .u64 (wd s 3).toNat]) (.agg #[.int .u64 0,.int .u64 0,.int .u64 0,.int .u64 0])).run Tryz.prog W=.ok true W:=fun W=>by
     have h1:=jf s 0 W;rw[gi,hz]at h1;rw[hz];exact h1
    have RR:=hid (HR.trans (vF (p:=k) (by rw[<-yE.out];exact hlt) (.inr (by rw[getD_some HS.out];exact hz))));clear hz;go_wp2;go_ret;exact⟨by rw[RR.out];rfl,X1⟩
   ·have he:∀ W,(Op.equalIn 10000 37 (.agg #[.int .u64 (wd s 0).toNat,.int .u64 (wd s 1).toNat,.int .u64 (wd s 2).toNat,.int .u64 (wd s 3).toNat]) (.agg #[.int .u64 0,.int .u64 0,.int .u64 0,.int .u64 0])).run Tryz.prog W=.ok false W:=fun W=>by
     have h1:=jf s 0 W;rw[gi,show(s==0)=false from by simpa using hz]at h1;exact h1
    have HZ:=hid hz;clear hz;go_wp2
    exact⟨⟨k+1,by omega,by go_num,fun p hp=>by
     rcases Nat.lt_or_ge p k with h3 | h3
     ·exact HA p h3
     ·obtain rfl:p=k:=by omega
      rw[getD_some HL.out,getD_some HS.out]
      exact⟨R3,HZ⟩,by trivial⟩,by simp[intOf];omega⟩
  ·have pT:k=n1:=by omega
   have RR:=hid (HR.trans (GD (by rw[<-yE.out];omega) (by rw[<-yE.out, <-xO.out]) (by rw[<-yE.out];exact R1) (by rw[<-yE.out];exact R2) (by rw[<-yE.out];exact fun p hp=>HA p (by omega))));go_wp2;go_ret;exact⟨by rw[RR.out];rfl,X1⟩
end
section
open Go Go.RowKit Go.Shelf Go.Maps
attribute [local go_sem] encS
def aR.S7 (base n:Nat) (xs:List Value):aR (Move false (fun _=>False)) where
 P:=fun v=>∃ a c,v=.slice a n c
 H:=fun v W=>W.ownsRow base 3 1 v n xs
 mo:=.slice none n 0
 pw:=⟨none,0,rfl⟩
 st:=fun _ _ _ hm _ h=>ay h hm.below
theorem aq.aaR {w:World} {b:Nat} {x y z u t x' y' z' u' t':Value} {ty:TypeId} (h:aq w b #[x,y,z,u,t] ty):aq (((((w.setCell ⟨b,0,none⟩ x').setCell ⟨b,1,none⟩ y').setCell ⟨b,2,none⟩ z').setCell ⟨b,3,none⟩ u').setCell ⟨b,4,none⟩ t') b #[x',y',z',u',t'] ty:=((((h.set 0 x').set 1 y').set 2 z').set 3 u').set 4 t'
theorem vG (W:World) (b:Nat) (x y z u t:Value):ae (· ≠b) W (((((W.setCell ⟨b,0,none⟩ x).setCell ⟨b,1,none⟩ y).setCell ⟨b,2,none⟩ z).setCell ⟨b,3,none⟩ u).setCell ⟨b,4,none⟩ t):=
 (((((ae.refl _ W).setCell (p:=⟨b,0,none⟩) (fun h=>h rfl) _).setCell (p:=⟨b,1,none⟩) (fun h=>h rfl) _).setCell (p:=⟨b,2,none⟩) (fun h=>h rfl) _).setCell (p:=⟨b,3,none⟩) (fun h=>h rfl) _).setCell (p:=⟨b,4,none⟩) (fun h=>h rfl) _
end
section
open Go Go.RowKit Go.Shelf Go.Maps
attribute [local go_sem] encS
def fM (base:Nat) (w:World) (v:Value) (a:NF):Prop:=∃ v0 v1 v2 v3,v=.agg #[v0,v1,v2,v3,.bool a.emp]/\w.ownsRow base 37 4 v0 a.aL.length (aN a.aL)/\bI base w v1 a.cG/\w.ownsRow base 3 1 v2 a.fst.length (a.fst.map aV)/\w.ownsRow base 3 1 v3 a.cS.length (a.cS.map aV)
theorem fM.nf {base:Nat} {w:World} {v:Value} {a:NF} (h:fM base w v a):iZ w v a:=by obtain⟨v0,v1,v2,v3,e,h0,h1,h2,h3⟩:=h;exact⟨v0,v1,v2,v3,e,oL h0,h1.ll,dP h2 rfl,dP h3 rfl⟩
end
section
open Go Go.RowKit Go.Shelf Go.Maps
def NF.WG (a:NF) (l:List Int):Int:=if a.right=false then 171 else if a.st l=false then 172 else 0
theorem iZ.OQ {w:World} {v:Value} {a:NF} (h:iZ w v a):∃ a0 c0 a1 n1 c1 a2 n2 c2 a3 n3 c3,v=.agg #[.slice a0 a.aL.length c0,.slice a1 n1 c1,.slice a2 n2 c2,.slice a3 n3 c3,.bool a.emp]:=by obtain⟨v0,v1,v2,v3,rfl,h0,h1,h2,h3⟩:=h;obtain⟨a0,c0,rfl⟩:=h0.1.form;obtain⟨a1,c1,rfl⟩:=h1.form;obtain⟨a2,c2,rfl⟩:=h2.form;obtain⟨a3,c3,rfl⟩:=h3.form;exact⟨_,_,_,_,_,_,_,_,_,_,_,rfl⟩
theorem vH (v u:Value) (a:NF) (l:List Int) (w:World) (h:iZ w v a) (sm:I8 a) (hu:cR aV w u l) (hl:l.length<=1000000): ag 156 #[v,u] w fun e w'=>e=.returned (.int .i64 (a.WG l))/\aa w w':=by
 have CR:Hid (∀ W,aa w W->ag 65 #[v] W fun e w'=>e=.returned (.bool a.right)/\aa W w'):=hid fun W hW=>py v a W (h.below hW) sm
 have CN:Hid (∀ W,aa w W->ag 96 #[u,.int .i64 (-1),.int .i64 ((a.aL.length:Int)-1)] W fun e w'=>e=.returned (.bool (a.st l))/\w'=W):=hid fun W hW=>s8 u l (-1) _ (.inr rfl) W (hu.below hW) hl
 have HS:=hid sm.aL;obtain⟨a0,c0,a1,n1,c1,a2,n2,c2,a3,n3,c3,rfl⟩:=h.OQ;obtain⟨ua,uc,rfl⟩:=hu.form;obtain⟨n0,eZ⟩:=ah a.aL.length;obtain⟨m,hm⟩:=ah l.length;obtain⟨r1,hr1⟩:=ah a.right;obtain⟨r2,hr2⟩:=ah (a.st l);have hc:a.WG l=if r1=false then 171 else if r2=false then 172 else 0:=by unfold NF.WG;rw[hr1,hr2]
 rw[hc];rw[<-eZ]at CR CN HS ⊢;rw[<-hm]at CN ⊢;rw[<-hr1]at CR;rw[<-hr2]at CN;have m0:n0<=1000000:=HS.out;have wn:IntKind.i64.wrap ((n0:Int)-1)=(n0:Int)-1:=IntWalk.i64_in _ (by omega);clear h hu hl sm eZ hm hr1 hr2 hc HS;go_enter Tryz.func156,Tryz.ntmps156;go_wp2_with fail
 refine aK ?_;intro V hV;have B1:Hid (aq V w.heap.size #[.slice a0 n0 c0,.slice a1 n1 c1,.slice a2 n2 c2,.slice a3 n3 c3,.bool a.emp] 99):=hid (by rw[hV];exact aq.new w _ _);have X1:Hid (aa w V):=hid (by rw[hV];exact((Ext.refl w).alloc _).below);clear hV;refine(CR V X1).mono ?_;rintro e w1 ⟨rfl,hx⟩;have B2:=hid (B1.below hx B1.lt);have X2:=hid (X1.trans (hx.mono X1.size));clear hx B1 X1 CR;cases r1
 ·go_wp2
  go_ret;exact⟨rfl,X2⟩
 obtain⟨i0,i1,i2,i3,i4⟩:=B2.five;go_wp2_with fail
 refine(CN w1 X2).mono ?_;rintro e w2 ⟨rfl,hw⟩;replace hw:=hw.symm;subst hw;clear i0 i1 i2 i3 i4 CN;cases r2
 ·go_wp2
  go_ret;exact⟨rfl,X2⟩
 ·go_wp2
  go_ret;exact⟨rfl,X2⟩
def cE (s:Nat->BitVec 64):Array Value:= #[.int .u64 (s 0).toNat,.int .u64 (s 1).toNat,.int .u64 (s 2).toNat,.int .u64 (s 3).toNat,.int .u64 (s 4).toNat,.int .u64 (s 5).toNat,.int .u64 (s 6).toNat]
theorem kQ (s:Nat->BitVec 64) {i:Nat} (hi:i<7):(cE s)[i]? =some (.int .u64 (s i).toNat):=by
 match i,hi with
 | 0,_=>rfl
 | 1,_=>rfl
 | 2,_=>rfl
 | 3,_=>rfl
 | 4,_=>rfl
 | 5,_=>rfl
 | 6,_=>rfl
def rX (s:Nat->BitVec 64) (p:Nat):Bool:=(s (p/64)).getLsbD (p%64)
theorem OS (x:BitVec 64) (n:Nat):x.toNat/2^n%2=(x.getLsbD n).toNat:=by have h:x.getLsbD n=decide (x.toNat/2^n%2=1):=Nat.testBit_eq_decide_div_mod_eq;rw[h];rcases Nat.mod_two_eq_zero_or_one (x.toNat/2^n)with e | e<;>simp[e]
theorem yR (x:BitVec 64) (n:Nat):(bits .and .u64 ((x.toNat:Int)/2^n) 1==1)=x.getLsbD n:=by
 have h:((x.toNat:Int)/2^n)=((x.toNat/2^n:Nat):Int):=by simp
 rw[h,Cw _ (Nat.lt_of_le_of_lt (Nat.div_le_self _ _) x.isLt),OS];cases x.getLsbD n<;>rfl
theorem s9 (s:Nat->BitVec 64) (b p:Nat) (hp:p<448) (w:World) (h:aq w b (cE s) 140): ag 113 #[.pointer (some ⟨b,0,none⟩),.int .i64 p] w fun e w'=>e=.returned (.bool (rX s p))/\w'=w:=by
 obtain⟨q,hq⟩:=ah (p/64);obtain⟨r,hr⟩:=ah (p%64);have OT:q<7:=by omega
 have OU:r<64:=by omega
 have c1:w.cell? ⟨b,q,none⟩=some (.int .u64 (s q).toNat):=(h.cell q).trans (kQ s OT);have e1:(p:Int).tdiv 64=(q:Int):=by rw[Int.tdiv_eq_ediv_of_nonneg (by omega)];omega
 have e2:(p:Int).tmod 64=(r:Int):=by rw[Int.tmod_eq_emod_of_nonneg (by omega)];omega
 have w1:IntKind.i64.wrap (q:Int)=q:=IntWalk.i64_in _ (by omega);have w2:IntKind.i64.wrap (r:Int)=r:=IntWalk.i64_in _ (by omega);have q7i:(q:Int)<7:=by omega
 have r0i:¬ ((r:Int)<0):=by omega
 have l4:rX s p=(s q).getLsbD r:=by unfold rX;rw[<-hq, <-hr]
 rw[l4];clear l4 hq hr h;go_enter Tryz.func113,Tryz.ntmps113;go_wp2;go_ret;exact⟨congrArg (fun b=>Ending.returned (.bool b)) (yR (s q) r),rfl⟩
def jE (s:Nat->BitVec 64) (p:Nat):Nat->BitVec 64:=fun i=>if i=p/64 then s i ||| (1#64 <<< (p%64))else s i
theorem S8 (s:Nat->BitVec 64) (p:Nat) {x:Nat} :rX (jE s p) x=(rX s x || (x==p)):=by
 unfold rX jE;by_cases h:x/64=p/64
 ·rw[if_pos h,BitVec.getLsbD_or]
  congr 1
  rw[BitVec.getLsbD_shiftLeft];have hx:x%64<64:=by omega
  by_cases e:x=p
  ·subst e;simp[hx]
  ·have h1:x%64≠p%64:=by omega
   rw[show(x==p)=false from by simpa using e];simp only[hx,decide_true,Bool.true_and];by_cases h2:x%64<p%64
   ·simp[h2]
   ·simp[h2,show x%64-p%64≠0 by omega]
 ·rw[if_neg h,show(x==p)=false from by rw[beq_eq_false_iff_ne];intro e;subst e;exact h rfl,Bool.or_false]
theorem OX (s:Nat->BitVec 64) {p:Nat} (hp:p<448):(cE s).setIfInBounds (p/64) (.int .u64 (s (p/64) ||| (1#64 <<< (p%64))).toNat)=cE (jE s p):=by
 obtain⟨q,hq⟩:=ah (p/64);have h7:q<7:=by omega
 unfold jE;rw[<-hq];match q,h7 with
 | 0,_=>rfl
 | 1,_=>rfl
 | 2,_=>rfl
 | 3,_=>rfl
 | 4,_=>rfl
 | 5,_=>rfl
 | 6,_=>rfl
theorem GF (n:Nat):(1#64 <<< n)=BitVec.twoPow 64 n:=rfl
theorem ni (s:Nat->BitVec 64) (b p:Nat) (hp:p<448) (w:World) (h:aq w b (cE s) 140): ag 123 #[.pointer (some ⟨b,0,none⟩),.int .i64 p] w fun e w'=>(∃ u,e=.returned u)/\aq w' b (cE (jE s p)) 140/\ae (fun x=>x<w.heap.size/\x≠b) w w':=by
 have hput:=OX s hp;obtain⟨q,hq⟩:=ah (p/64);obtain⟨r,hr⟩:=ah (p%64);have OT:q<7:=by omega
 have OU:r<64:=by omega
 have c1:w.cell? ⟨b,q,none⟩=some (.int .u64 (s q).toNat):=(h.cell q).trans (kQ s OT);have z1:w.frozen? ⟨b,q,none⟩=false:=h.frozen q;have e1:(p:Int).tdiv 64=(q:Int):=by rw[Int.tdiv_eq_ediv_of_nonneg (by omega)];omega
 have e2:(p:Int).tmod 64=(r:Int):=by rw[Int.tmod_eq_emod_of_nonneg (by omega)];omega
 have w1:IntKind.i64.wrap (q:Int)=q:=IntWalk.i64_in _ (by omega);have w2:IntKind.i64.wrap (r:Int)=r:=IntWalk.i64_in _ (by omega);have q7i:(q:Int)<7:=by omega
 have r0i:¬ ((r:Int)<0):=by omega
 have q0i:¬ ((q:Int)<0):=by omega
 rw[<-hq, <-hr]at hput;rw[GF]at hput;have kh:=FU (s q) OU;have HP:=hid hput;have H:=hid h;clear hq hr h hput;go_enter Tryz.func123,Tryz.ntmps123;go_wp2;refine aM false (fun _=>False) (by kernel_rfl) 11 [0,0,2,1,15,31,0,64,192,511,1,2047,4095] (fun i=>i==12) (by kernel_rfl) (fun _=>aR.any _) ?_;intro C hC hne;have HC:=hid hC;have hbl:=H.lt;have f1:=aF hC (p:=⟨b,q,none⟩) hbl (fun h=>h) c1;clear hC c1
 repeat (refine ak (fun K hK=>?_);first | (refine cQ rfl ?_;try go_simp;refine hK _ _ ?_;clear hK K) | (refine bV rfl rfl ?_;unfold aB;go_simp;refine hK _ _ ?_;clear hK K))
 refine cg (fun W hW hH=>?_);have hM:=((HC W).1 hW);have HB:=hid (H.below hM.below H.lt);have HX:=hid hM.below;have c2:W.cell? ⟨b,q,none⟩=some (.int .u64 (s q).toNat):=(HB.cell q).trans (kQ s OT);have z2:W.frozen? ⟨b,q,none⟩=false:=HB.frozen q;clear hM hW hH HC hne f1 z1;go_wp2;have hval:((s q).toNat ||| 2^r%18446744073709551616)=(s q ||| BitVec.twoPow 64 r).toNat:=by rw[BitVec.toNat_or,BitVec.toNat_twoPow]
 refine bodyPost_end (v:=.tuple #[]) (by simp[results,Tryz.results123,go_sem]) rfl ⟨⟨_,rfl⟩,?_,?_⟩
 ·rw[hval]
  have hb:=HB.set q (.int .u64 (s q ||| BitVec.twoPow 64 r).toNat);rw[HP.out]at hb;exact hb
 ·exact(ae.ai HX fun _ hx=>hx.1:ae (fun x=>x<w.heap.size/\x≠b) w W).setCell (p:=⟨b,q,none⟩) (fun h=>h.2 rfl) _
attribute [local go_sem] cE
def setW (l:List Nat):Nat->BitVec 64:=l.foldl jE fun _=>0
theorem rY (l:List Nat) (p:Nat):setW (l++ [p])=jE (setW l) p:=by unfold setW;rw[List.foldl_append];rfl
theorem I9 (l:List Nat) (x:Nat):rX (setW l) x=l.contains x:=by
 have h:∀ (l:List Nat) (s:Nat->BitVec 64),rX (l.foldl jE s) x=(rX s x || l.contains x):=by
  intro l;induction l with
  | nil=>intro s;simp
  | cons p l ih=>
   intro s;rw[List.foldl_cons,ih,S8,List.contains_cons,Bool.or_assoc]
 unfold setW;rw[h];simp[rX]
theorem DC (v:Value) (l:List Nat) (w:World) (h:cR (fun p:Nat=>.int .i64 p) w v l) (hl:∀ p∈l,p<448) (hn:l.length<=1000000): ag 111 #[v] w fun e w'=>e=.returned (.agg (cE (setW l)))/\aa w w':=by
 obtain⟨a,cap,rfl⟩:=h.form;obtain⟨n,ot⟩:=ah l.length;rw[<-ot]at h hn ⊢;have H:=hid h;have HN:=hid ot;have HL:=hid hl;clear h ot hl;go_enter Tryz.func111,Tryz.ntmps111;go_wp2;refine ax ?_;intro V hV;have B1:Hid (aq V w.heap.size (cE fun _=>0) 140):=hid (by rw[hV];exact(aq.new w _ _).alloc _);have B2:Hid (aq V (w.heap.size+1) (cE fun _=>0) 140):=hid (by rw[hV];exact(aq.new _ _ _).at (by simp));have X1:Hid (aa w V):=hid (by rw[hV];exact(((Ext.refl w).alloc _).alloc _).below);clear hV;go_loopw [8] (fun iv wr=>∃ k:Nat,k<=n/\iv=.int .i64 k/\aq wr (w.heap.size+1) (cE (setW (l.take k))) 140/\ae (fun x=>x<V.heap.size/\x≠w.heap.size+1) V wr) (fun iv _=>n-(intOf iv).toNat);case atStart=>exact⟨0,by omega,rfl,B2,ae.refl _ _⟩
 case round=>
  obtain⟨k,hk,rfl,hb,hx⟩:=hrel;have HB:=hid hb;have HX:=hid hx;have XX:Hid (aa w wr):=hid (X1.trans (hx.mono fun x mX=>⟨aw mX X1.size,by have:x<w.heap.size:=mX;omega⟩:ae (· <w.heap.size) V wr).below);clear hb hx;by_cases hlt:k<n
  ·obtain⟨p,hp⟩:∃ p,l[k]? =some p:=⟨_,aC (by have:=HN.out;omega)⟩
   obtain⟨g,off,rfl,hg,c1⟩:=(H.below XX).elem hp;replace c1:wr.cell? ⟨g,off+k,none⟩=some (.int .i64 p):=c1;have eT:(k:Int)<n:=by omega
   have HP:=hid hp;have hp4:=HL.out p (aA hp);clear hp;go_wp2_with fail
   clear c1;refine(ni _ _ p hp4 wr HB).mono ?_;rintro e w2 ⟨⟨u,rfl⟩,hb2,hx2⟩;have fJ:=hid hb2;have eW:=hid (HX.trans hx2 fun x mX=>⟨aw mX.1 HX.size,mX.2⟩);clear hb2 hx2;go_wp2;exact⟨⟨k+1,by omega,by go_num,by rw[List.take_add_one,HP.out];show aq _ _ (cE (setW (l.take k++ [p]))) _;rw[rY];exact fJ,eW⟩,by simp[intOf];omega⟩
  ·have pT:k=n:=by omega
   have yQ:¬ ((k:Int)<n):=by omega
   have dT:l.take k=l:=by rw[pT,HN.out,List.take_length]
   rw[dT]at HB;obtain⟨S,hS⟩:=ah (setW l);rw[<-hS]at HB;have HS:=hid hS;have R0:=hid (B1.keeps HX ⟨B1.lt,by omega⟩);have c0:wr.cell? ⟨w.heap.size+1,0,none⟩=some (.int .u64 (S 0).toNat):=HB.cell 0;have r0:wr.cell? ⟨w.heap.size,0,none⟩=some (.int .u64 0):=R0.cell 0;have c1:wr.cell? ⟨w.heap.size+1,1,none⟩=some (.int .u64 (S 1).toNat):=HB.cell 1;have r1:wr.cell? ⟨w.heap.size,1,none⟩=some (.int .u64 0):=R0.cell 1;have c2:wr.cell? ⟨w.heap.size+1,2,none⟩=some (.int .u64 (S 2).toNat):=HB.cell 2;have r2:wr.cell? ⟨w.heap.size,2,none⟩=some (.int .u64 0):=R0.cell 2;have c3:wr.cell? ⟨w.heap.size+1,3,none⟩=some (.int .u64 (S 3).toNat):=HB.cell 3;have r3:wr.cell? ⟨w.heap.size,3,none⟩=some (.int .u64 0):=R0.cell 3;have c4:wr.cell? ⟨w.heap.size+1,4,none⟩=some (.int .u64 (S 4).toNat):=HB.cell 4;have r4:wr.cell? ⟨w.heap.size,4,none⟩=some (.int .u64 0):=R0.cell 4;have c5:wr.cell? ⟨w.heap.size+1,5,none⟩=some (.int .u64 (S 5).toNat):=HB.cell 5;have r5:wr.cell? ⟨w.heap.size,5,none⟩=some (.int .u64 0):=R0.cell 5;have c6:wr.cell? ⟨w.heap.size+1,6,none⟩=some (.int .u64 (S 6).toNat):=HB.cell 6;have r6:wr.cell? ⟨w.heap.size,6,none⟩=some (.int .u64 0):=R0.cell 6;have rf:=fun i=>R0.frozen i
   clear hS dT HL HN H;go_wp2;refine bodyPost_ret (v:=.agg (cE S)) ?_ rfl ⟨by rw[HS.out];rfl,?_⟩
   ·simp[results,Tryz.results111,go_sem,r0,r1,r2,r3,r4,r5,r6]
   ·refine XX.trans (ae.below (((((((ae.refl (· <w.heap.size) _).setCell ?_ _).setCell ?_ _).setCell ?_ _).setCell ?_ _).setCell ?_ _).setCell ?_ _ |>.setCell ?_ _))<;>(intro h;simp at h)
end
section
open Go Go.RowKit Go.Shelf Go.Maps
theorem Aq (x:Int) (em:Bool) (s:Nat->BitVec 64) (B b:Nat) (W:World) (hB:W.cell? ⟨B,4,none⟩=some (.bool em)) (hb:aq W b (cE s) 140) (hx:x= -1\/(0<=x/\x<448)): ag 112 #[.int .i64 x,.pointer (some ⟨B,0,none⟩),.pointer (some ⟨b,0,none⟩)] W fun e w'=>e=.returned (.bool (if x= -1 then em else rX s x.toNat))/\w'=W:=by
 by_cases h1:x= -1
 ·subst h1
  rw[if_pos rfl];cases em
  ·go_enter Tryz.func112,Tryz.ntmps112
   go_wp2;go_ret;exact⟨rfl,rfl⟩
  ·go_enter Tryz.func112,Tryz.ntmps112
   go_wp2;go_ret;exact⟨rfl,rfl⟩
 ·rw[if_neg h1]
  obtain⟨p,rfl⟩:∃ p:Nat,x=p:=⟨x.toNat,by omega⟩;have hp:p<448:=by omega
  have d1:((p:Int)== -1)=false:=by rw[beq_eq_false_iff_ne];omega
  have d2:((p:Int) != -1)=true:=by rw[bne_iff_ne];omega
  have CH:=hid (s9 s b p hp W hb);rw[Int.toNat_natCast];clear h1 hx hb;go_enter Tryz.func112,Tryz.ntmps112;go_wp2_with fail
  refine CH.mono ?_;rintro e w2 ⟨rfl,hw⟩;replace hw:=hw.symm;subst hw;go_wp2;go_ret;exact⟨rfl,rfl⟩
theorem vI (g:Nat) (lb:Array Value) (f:Int->Bool) (v:Value) (l:List Int) (w:World) (h:cR aV w v l) (hn:l.length<=1000000) (eg:∀ args w,(callFunc g args).run Tryz.prog w=.ok (.enter g args) w) (hf:∀ s∈l,∀ W,aa w W->ag g (#[.int .i64 s]++lb) W fun e w'=>e=.returned (.bool (f s))/\w'=W): ag 109 #[v,.func (.func g) #[] lb] w fun e w'=>e=.returned (.int .i64 (dW f l))/\w'=w:=by
 obtain⟨a,cap,rfl⟩:=h.form;obtain⟨n,ot⟩:=ah l.length;rw[<-ot]at h hn ⊢;have H:=hid h;have HN:=hid ot;have HF:=hid fun s hs=>hf s hs w (Below.refl _ _)
 obtain⟨r,hr⟩:=ah (dW f l);rw[<-hr];have HR:=hid hr;clear h ot hf hr;go_enter Tryz.func109,Tryz.ntmps109;go_wp2
 go_loop [8] (fun i=>∃ k:Nat,k<=n/\i=.int .i64 k/\(∀ s∈l.take k,f s=false)) (fun i=>n-(intOf i).toNat)
 case atStart=>exact⟨0,by omega,rfl,fun s hs=>by simp at hs⟩
 case round=>
  obtain⟨k,hk,rfl,ha⟩:=hrel;by_cases hlt:k<n
  ·obtain⟨s,hs⟩:∃ s,l[k]? =some s:=⟨_,aC (by have:=HN.out;omega)⟩
   obtain⟨b,off,rfl,hb,d0⟩:=H.elem hs;have d0':w.cell? ⟨b,off+k,none⟩=some (.int .i64 s):=d0;have Mv:=hid (HF.out s (aA hs));have HA:=hid ha;have HS:=hid hs;clear ha hs d0;obtain⟨b1,hb1⟩:=ah (f s);rw[<-hb1]at Mv;have pV:=hid hb1;clear hb1;cases b1 with
   | true=>
    have gN:=hid (HR.trans (j4 HS pV.symm HA));go_wp2;refine Mv.mono ?_;rintro e w2 ⟨rfl,hw⟩;replace hw:=hw.symm;subst hw;go_wp2;go_ret;exact⟨by rw[gN.out];rfl,rfl⟩
   | false=>
    go_wp2;refine Mv.mono ?_;rintro e w2 ⟨rfl,hw⟩;replace hw:=hw.symm;subst hw;go_wp2
    go_round
    case rel=>exact⟨k+1,by omega,by go_num,nM HS pV.symm HA⟩
    case measure=>simp[intOf];omega
  ·obtain rfl:k=n:=by omega
   have gN:=hid (HR.trans (j5 fun y hy=>ha y (by rw[HN.out,List.take_length];exact hy)));clear ha;go_wp2;go_ret;exact⟨by rw[gN.out];rfl,rfl⟩
theorem qL (g:Nat) (lb:Array Value) (f:Int->Bool) (v:Value) (l:List Int) (w:World) (h:cR aV w v l) (hn:l.length<=1000000) (eg:∀ args w,(callFunc g args).run Tryz.prog w=.ok (.enter g args) w) (hf:∀ s∈l,∀ W,aa w W->ag g (#[.int .i64 s]++lb) W fun e w'=>e=.returned (.bool (f s))/\w'=W): ag 77 #[v,.func (.func g) #[] lb] w fun e w'=>e=.returned (.bool (l.any f))/\w'=w:=by have HI:=hid (vI g lb f v l w h hn eg hf);rw[<-lD];obtain⟨a,cap,rfl⟩:=h.form;clear h hf eg;generalize dW f l=z at HI ⊢;go_enter Tryz.func77,Tryz.ntmps77;go_wp2_with (go_at_call 109;refine HI.mono ?_;rintro e w2 ⟨rfl,hw⟩;replace hw:=hw.symm;subst hw);go_ret;exact⟨rfl,rfl⟩
def dN (s:Nat->BitVec 64) (n:Nat):List Nat:=(List.range n).filter (rX s)
theorem rZ (s:Nat->BitVec 64) (k:Nat):dN s (k+1)=dN s k++if rX s k then [k]else []:=by unfold dN;rw[List.range_succ,List.filter_append];by_cases h:rX s k=true<;>simp[h]
theorem td (s:Nat->BitVec 64) {k n:Nat} (h:k<=n):dN s k<+:dN s n:=by
 induction n with
 | zero=>rw[show k=0 from by omega];exact List.prefix_rfl
 | succ n ih=>
  by_cases hk:k=n+1
  ·subst hk;exact List.prefix_rfl
  ·exact(ih (by omega)).trans (by rw[rZ];exact List.prefix_append _ _)
theorem DD (s:Nat->BitVec 64) (n:Nat):(dN s n).length<=n:=by unfold dN;exact Nat.le_trans (List.length_filter_le _ _) (by simp)
def NF.on (a:NF) (c q:Nat):Bool:=(a.aL.getD q 0).getLsbD c
def lI (a:NF) (c:Nat) (l:List Int):List Nat:=(l.map Int.toNat).filter (a.on c)
theorem yS (a:NF) (c:Nat) (l:List Int) (q:Int):lI a c (l++ [q])=lI a c l++if a.on c q.toNat then [q.toNat]else []:=by unfold lI;rw[List.map_append,List.filter_append];by_cases h:a.on c q.toNat=true<;>simp[h]
def fG (a:NF) (c:Nat) (l:List Int):List Nat:=l.flatMap fun p=>lI a c (a.pq p)
theorem GG (a:NF) (c:Nat) (l:List Int) (p:Int):fG a c (l++ [p])=fG a c l++lI a c (a.pq p):=by unfold fG;rw[List.flatMap_append];simp
theorem Nt.OY {a:NF} (h:Nt a) {l:List Int} (hl:a.st l=true) {p:Int} (hp:p∈l):dX 0 ((a.aL.length:Int)-1) (a.pq p)=true:=by
 have h1:=(dY hl).2 p hp;unfold NF.pq;split
 ·exact h.fst
 ·exact h.row _ (by omega)
theorem KD {a:NF} (h:Nt a) {l:List Int} (hl:a.st l=true) (c:Nat):(dN (setW (fG a c l)) 448).map Int.ofNat=a.step l c:=by
 have l4:∀ q,rX (setW (fG a c l)) q=(decide (q<a.aL.length)&&a.hit l c q):=by
  intro q;rw[I9,Bool.eq_iff_iff,List.contains_iff_mem,Bool.and_eq_true,decide_eq_true_eq];unfold fG NF.hit lI;rw[List.mem_flatMap,List.any_eq_true];constructor
  ·rintro⟨p,hp,hq⟩
   rw[List.mem_filter,List.mem_map]at hq;obtain⟨⟨x,hx,rfl⟩,hon⟩:=hq;have h2:=(dY (h.OY hl hp)).2 x hx;refine⟨by omega,p,hp,?_⟩;rw[Bool.and_eq_true,List.contains_iff_mem,Int.toNat_of_nonneg h2.1];exact⟨hx,hon⟩
  ·rintro⟨hq,p,hp,h3⟩
   rw[Bool.and_eq_true,List.contains_iff_mem]at h3;exact⟨p,hp,List.mem_filter.2 ⟨List.mem_map.2 ⟨_,h3.1,by simp⟩,h3.2⟩⟩
 have hle:=h.le;unfold NF.step dN;congr 1;obtain⟨m,hm⟩:∃ m,448=a.aL.length+m:=⟨448-a.aL.length,by omega⟩;rw[hm,List.range_add,List.filter_append];have e2:(List.map (fun x=>a.aL.length+x) (List.range m)).filter (rX (setW (fG a c l)))=[]:=by rw[List.filter_eq_nil_iff];intro x hx;obtain⟨y,_,rfl⟩:=List.mem_map.1 hx;rw[l4,decide_eq_false (show ¬a.aL.length+y<a.aL.length by omega)];simp
 rw[e2,List.append_nil];refine List.filter_congr fun q hq=>?_
 rw[l4,decide_eq_true (List.mem_range.1 hq),Bool.true_and]
attribute [local go_sem] encS Oper.semAt_some eU cJ
def vJ (p:Nat):Value:=.int .i64 (p:Int)
theorem vK {d:Bool} {gf:Nat} {lb:Array Value} {R:Nat->Prop} (xs:List Nat) (w:World) (hseq:Seq d Tryz.prog gf lb (fun c:Nat=> #[.int .i64 (c:Int)]) R xs w) (eg:∀ args w,(callFunc gf args).run Tryz.prog w=.ok (.enter gf args) w) (hR:∀ k,R k->k<w.heap.size) (hn:xs.length<=1000000): ag 130 #[.slice none 0 0,.func (.func gf) #[] lb] w fun e w'=>∃ v,e=.returned v/\w'.ownsRow w.heap.size 3 1 v xs.length (xs.map vJ)/\aa w w':=by
 obtain⟨i0,hi,hz0,hz1,hz2⟩:=info_parts Tryz.qB;refine bG Tryz.func130 rfl ?_;simp only[Tryz.ntmps130,List.size_toArray,List.length_cons,List.length_nil,Nat.reduceAdd,Nat.reduceSub,Array.replicate_succ,Array.replicate_zero,List.push_toArray,List.append_toArray,List.nil_append,List.cons_append];go_wp2;refine ax ?_;intro W0 hW0;have h1:aq W0 w.heap.size #[.slice none 0 0] 51:=by rw[hW0];exact aq.new _ _ _
 have hx:Ext w W0:=by rw[hW0];exact(Ext.refl w).alloc _
 have hsz:W0.heap.size=w.heap.size+1:=by rw[hW0];simp
 refine ig (w:=W0) (hseq.at hx.keeps) (by rfl) eg (by intro _;rfl) (by intro k hk;have:=hR k hk;omega)
  (fun xs T W=>∃ v,aq W w.heap.size #[v] 51/\W.ownsRow (w.heap.size+1) 3 1 v xs.length (xs.map vJ)/\(∀ k,v.ownBlock=some k->¬T k)/\aa w W)
  (fun _ _ _ _=>False)
  ?_
  (fun c xs T T' W W' h=>h.elim)
  ⟨_,h1,World.ownsRow_nil _ _ _ _,fun _ _ h=>h,hx.below⟩
  (fun x=>⟨#[.slice none 0 0,.func (.func gf) #[] lb,.pointer (some ⟨w.heap.size,0,none⟩),undef,.slice none 0 0,.int .i64 (x:Int),.func (.func gf) #[] lb,.int .i64 (x:Int),undef,undef,undef,undef,undef],[]⟩) ?assign ?body ?done ?stop
 ·intro xs T T' W W' ⟨v,g1,g2,g3,g4⟩ hT Iy hs hn hk
  refine⟨v,g1.gT hT hk (by omega),au g2 hk.1 (fun k e=>⟨(g2.lt k e).2,g3 k e⟩),fun k e ht=>?_,dc g4 hT hk (aD _) (by omega)⟩;rcases hn k ht with h | h
  ·exact g3 k e h
  ·have:=(g2.lt k e).2;omega
 case assign=>
  intro l x W K hK
  gi_wp2
  exact hK
 case body=>
  rintro l pre x T W bF hT _ rE hl ⟨v,g1,g2,g3,g4⟩;have c1:W.cell? ⟨w.heap.size,0,none⟩=some v:=g1.cell 0;have f1:=g1.frozen 0;have hlen:pre.length<xs.length:=by obtain⟨r,hr⟩:=bF;rw[<-hr];simp
  have G1:=hid g1;have G3:=hid g3;have G4:=hid g4;have jV:=hid hsz;have HT:=hid hT;clear g1 g3 g4 hsz hW0 hT hl rE
  gi_wp2_with (gi_at_builtin;refine wpListIn_append_own_at _ rfl _ _ 51 rfl (w.heap.size+1) 3 i0 (.int .i64 0) 1 8 Tryz.underlying51 hi hz0 hz1 hz2 rfl (by decide) _ _ _ rfl (g2.alloc _) ⟨W.heap.size,0,none⟩ 1 1 [vJ x] rfl rfl (cell_one_new _ _ _) (by simp[Value.oneCell',vJ]) (by unfold maxLen;omega) (by omega) (by have h1:=G4.size;have h2:=jV.out;have h3:=G1.lt;simp;omega) ?_;intro v' w1 hown' hgrow hh hat;obtain⟨g',cap',rfl⟩:=ownsRow_succ hown';have hb1:=(G1.alloc (.cells #[.int .i64 (x:Int)] 3 (0,0))).grown hgrow (fun e=>by have:=(g2.lt _ e.symm).1;omega);have c2:=hb1.cell 0;have f2:=hb1.frozen 0;have HB:=hid hb1;have HO:=hid hown';have HG:=hid hgrow;have H2:=hid g2;have zN:=hid hat;clear hown' hgrow hb1 g2 hh hat)
  have hgT:¬T g':=fun ht=>by
   rcases zN.out with h | h
   ·exact G3 g' h.symm ht
   ·have h1:=(HT.out g' ht).2;simp[Value.ownBlock]at h;omega
  have VH:∀ k,(R k\/T k)->k<W.heap.size/\some k≠v.ownBlock:=fun k hk=>by
   refine⟨?_,fun e=>?_⟩
   ·rcases hk with hk | hk
    ·have h1:=hR k hk;have h2:=G4.size;omega
    ·exact(HT k hk).2
   ·rcases hk with hk | hk
    ·have h1:=hR k hk;have h2:=(H2.lt k e.symm).1;omega
    ·exact G3 k e.symm hk
  have sP:ae (fun k=>R k\/T k) W w1:=(((ae.refl _ W).alloc (fun k hk=>(VH k hk).1) _)).tr (ae.bA HG fun k hk=>⟨by have:=(VH k hk).1;simp;omega,(VH k hk).2⟩);have xF:∀ k,(R k\/T k)->k≠w.heap.size:=fun k hk=>by
   rcases hk with hk | hk
   ·have h1:=hR k hk;omega
   ·have h1:=(HT.out k hk).1;have h2:=jV.out;omega
  refine⟨sP.setCell (fun h=>xF _ h rfl) _,_,HB.set 0 _,?_,fun k e=>?_,?_⟩
  ·rw[aQ,List.map_append]
   exact au HO ((ae.refl (fun k=>k≠w.heap.size) _).setCell (by simp) _) (fun k e=>by have:=(HO.lt k e).1;omega)
  ·simp[Value.ownBlock]at e;subst e;exact hgT
  ·exact((G4.alloc (by exact G4.size) _).grown HG (by have:=G4.size;simp;omega) (fun k e=>by have:=(H2.lt k e).1;omega)).setCell (aD _) _
 case done=>
  rintro D T W hD rJ hT ⟨v,g1,g2,g3,g4⟩ jN;have c1:W.cell? ⟨w.heap.size,0,none⟩=some v:=g1.cell 0;have G2:=hid g2;have G4:=hid g4;have HD:=hid hD;have jV:=hid hsz;have oD:=hid jN;clear g1 g2 g3 g4 hsz hW0 hT rJ jN hD;dsimp only;go_wp2;refine cB rfl oD (results_tmp rfl _ _ _) ⟨v,rfl,ownsRow_putObj (aG G2 (by omega)) _ oD rfl,((ae.ai G4 (fun _ h=>h)).putObj (by have:=HD.out;have:=jV.out;omega) _).below⟩
 case stop=>rintro D c pre T W _ _ _ _ h _;exact h.elim
theorem qM {d:Bool} {gf:Nat} {lb:Array Value} {R:Nat->Prop} (xs:List Nat) (w:World) (hseq:Seq d Tryz.prog gf lb (fun c:Nat=> #[.int .i64 (c:Int)]) R xs w) (eg:∀ args w,(callFunc gf args).run Tryz.prog w=.ok (.enter gf args) w) (hR:∀ k,R k->k<w.heap.size) (hn:xs.length<=1000000): ag 94 #[.func (.func gf) #[] lb] w fun e w'=>∃ v,e=.returned v/\w'.ownsRow w.heap.size 3 1 v xs.length (xs.map vJ)/\aa w w':=by have H:=hid (vK xs w hseq eg hR hn);clear hseq eg;go_enter Tryz.func94,Tryz.ntmps94;go_wp2_with (go_at_call 130;refine H.mono ?_;rintro e w1 ⟨v,rfl,h1,h2⟩;have H1:=hid h1;have H2:=hid h2;clear h1 h2);go_ret;exact⟨v,rfl,H1,H2⟩
end
section
open Go Go.RowKit Go.Shelf Go.Maps
attribute [local go_sem] Oper.semAt_some eU cJ
theorem DG (s:Nat->BitVec 64) (B b:Nat) (w:World) (hB:aq w B #[.pointer (some ⟨b,0,none⟩)] 175) (hb0:aq w b (cE s) 140):Seq true Tryz.prog 131 #[.pointer (some ⟨B,0,none⟩)] (fun p:Nat=> #[.int .i64 (p:Int)]) (fun k=>k=B\/k=b) (dN s 448) w:=by
 intro l J Jx W hK hJ NC hY h0;have HY:=hid hY;have HH:=hid (s9 s b);clear hY;have B0:=hB.keeps hK hB.lt;have B1:=hb0.keeps hK hb0.lt;clear hB hb0;refine callsIn_wide (n:=0).1 ?_;refine callsIn_of_wp Tryz.func131 rfl trivial ?_ rfl;simp only[Tryz.ntmps131,List.size_toArray,List.length_cons,List.length_nil,Nat.reduceAdd,Nat.reduceSub,Array.replicate_succ,Array.replicate_zero,List.push_toArray,List.append_toArray,List.nil_append,List.cons_append]
 gi_wp2
 gi_loopw [4] (fun i wr=>∃ (k:Nat) (T:Nat->Prop),k<=448/\i=.int .i64 k/\aq wr B #[.pointer (some ⟨b,0,none⟩)] 175/\aq wr b (cE s) 140/\J (dN s k) T wr/\(∀ k,T k->W.heap.size<=k/\k<wr.heap.size)/\ae (fun k=>k=B\/k=b) W wr)
  (fun i _=>448-(intOf i).toNat)
 case atStart=>
  exact⟨0,fun _=>False,by omega,rfl,B0,B1,h0,fun _ h=>h.elim,ae.refl _ _⟩
 case round=>
  obtain⟨k,T,hk,rfl,hB,hb,hj,hT,hR⟩:=hrel;by_cases hlt:k<448
  ·have c0:wr.cell? ⟨B,0,none⟩=some (.pointer (some ⟨b,0,none⟩)):=hB.cell 0
   have Ta:=hid hB;have HB:=hid hb;have HJ:=hid hj;have HT:=hid hT;have HR:=hid hR;clear hB hb hj hT hR B0 B1;have bF:=rZ s k;by_cases kE:rX s k=true
   ·rw[if_pos kE]at bF
    have HP:=hid bF;have Mr:dN s k++ [k]<+:dN s 448:=by rw[<-bF];exact td s (by omega)
    have yw:=hid Mr;have h1:ag 113 #[.pointer (some ⟨b,0,none⟩),.int .i64 k] wr fun e w'=>e=.returned (.bool true)/\w'=wr:=by have:=HH.out k hlt wr HB;rwa[kE]at this
    have H1:=hid h1;clear bF Mr h1 kE HH
    gi_wp2_with (gi_at_call 113;refine(callsIn_wide.2 H1).mono ?_;rintro e w1 ⟨rfl,hw⟩;replace hw:=hw.symm;subst hw;obtain⟨fn,tm,ym,bd,hy,sN⟩:=HY.out (dN s k) k T _ yw HT HR HJ;have BQ:=hid sN;clear sN)
    refine BQ.mono ?_;rintro e W2 (⟨rfl,fC,hk2⟩ | ⟨rfl,fC,hk2⟩)
    ·have mD:=hid fC
     have jO:=hid hk2;clear fC hk2 hy
     gi_wp2
     go_roundw
     case rel=>
      refine⟨k+1,T,by omega,by go_num,?_,?_,?_,?_,?_⟩
      ·exact Ta.keeps jO (.inl (.inl rfl))
      ·exact HB.keeps jO (.inl (.inr rfl))
      ·rw[HP.out];exact mD
      ·exact fun j hj=>⟨(HT j hj).1,aw (HT j hj).2 jO.size⟩
      ·exact HR.tr (jO.mono fun j hj=>.inl hj)
     case measure=>simp[intOf];omega
    ·have mD:=hid fC
     have jO:=hid hk2;clear fC hk2 hy
     gi_wp2
     refine bodyPost_ret (results_none rfl _ _ _) rfl ?_;exact⟨⟨_,rfl⟩,T,fun j hj=>⟨(HT j hj).1,aw (HT j hj).2 jO.size⟩,.inr ⟨_,yw,mD⟩⟩
   ·have sO:rX s k=false:=by simpa using kE
    rw[if_neg kE,List.append_nil]at bF;have HP:=hid bF;have h1:ag 113 #[.pointer (some ⟨b,0,none⟩),.int .i64 k] wr fun e w'=>e=.returned (.bool false)/\w'=wr:=by have:=HH.out k hlt wr HB;rwa[sO]at this
    have H1:=hid h1;clear bF h1 kE sO HH
    gi_wp2_with (gi_at_call 113;refine(callsIn_wide.2 H1).mono ?_;rintro e w1 ⟨rfl,hw⟩;replace hw:=hw.symm;subst hw)
    go_roundw
    case rel=>
     refine⟨k+1,T,by omega,by go_num,Ta,HB,?_,HT,HR⟩;rw[HP.out];exact HJ
    case measure=>simp[intOf];omega
  ·obtain rfl:k=448:=by omega
   gi_wp2
   refine bodyPost_end (results_none rfl _ _ _) rfl ?_;exact⟨⟨_,rfl⟩,T,hT,.inl hj⟩
theorem Ar (b:Nat) (w:World):ag 95 #[.pointer (some ⟨b,0,none⟩)] w fun e w'=>e=.returned (.func (.func 131) #[] #[.pointer (some ⟨w.heap.size,0,none⟩)])/\w'=w.alloc (.cells #[.pointer (some ⟨b,0,none⟩)] 175 (0,0)):=by
 go_enter Tryz.func95,Tryz.ntmps95
 go_wp2;go_ret;exact⟨rfl,rfl⟩
theorem Au (s:Nat->BitVec 64) (b:Nat) (w:World) (hb:aq w b (cE s) 140): ag 64 #[.pointer (some ⟨b,0,none⟩)] w fun e w'=>∃ v,e=.returned v/\w'.ownsRow w.heap.size 3 1 v (dN s 448).length ((dN s 448).map vJ)/\aa w w':=by
 have eg:∀ args w,(callFunc 131 args).run Tryz.prog w=.ok (.enter 131 args) w:=enters_of Tryz.func131 (by kernel_rfl) rfl;have hlen:(dN s 448).length<=1000000:=Nat.le_trans (DD _ _) (by decide);have H:Hid (∀ (W:World) (B:Nat),aq W B #[.pointer (some ⟨b,0,none⟩)] 175->aq W b (cE s) 140->ag 94 #[.func (.func 131) #[] #[.pointer (some ⟨B,0,none⟩)]] W fun e w'=>∃ v,e=.returned v/\w'.ownsRow W.heap.size 3 1 v (dN s 448).length ((dN s 448).map vJ)/\aa W w'):=
  fun W B hB hb=>qM _ W (DG s B b W hB hb) eg (fun k hk=>hk.elim (fun e=>by rw[e];exact hB.lt) (fun e=>by rw[e];exact hb.lt)) hlen
 have HB:=hid hb;clear eg hlen hb;generalize dN s 448=xs at H ⊢;go_enter Tryz.func64,Tryz.ntmps64;go_wp2_with (first | (go_at_call 95;refine(Ar b _).mono ?_;rintro e w1 ⟨rfl,rfl⟩) | (go_at_call 94;refine(H _ _ ((aq.new _ _ _).at (by simp)) (HB.alloc _)).mono ?_;rintro e w1 ⟨v,rfl,h1,h2⟩;have H1:=hid h1;have H2:=hid h2;clear h1 h2));go_ret;refine⟨v,rfl,aG H1 (by simp),?_⟩;exact((Ext.refl w).alloc _).below.trans (H2.mono (by simp))
end
section
open Go Go.RowKit Go.Shelf Go.Maps
theorem cR.pos {w:World} {v:Value} {l:List Int} (h:cR aV w v l) (hp:∀ x∈l,0<=x):cR (fun p:Nat=>.int .i64 p) w v (l.map Int.toNat):=by
 rcases h with⟨rfl,rfl⟩ | ⟨b,off,cap,rfl,hb,hc,h⟩
 ·exact .inl ⟨rfl,rfl⟩
 ·refine .inr ⟨b,off,cap,by rw[bp],hb,by rw[bp];exact hc,fun i p hi=>?_⟩
  rw[bH]at hi;obtain⟨x,hx,rfl⟩:=Option.map_eq_some_iff.1 hi;have e:=Int.toNat_of_nonneg (hp x (aA hx));rw[h i x hx];show some (Value.int .i64 x)=some (Value.int .i64 (x.toNat:Int));rw[e]
theorem Tb:∀ args w,(callFunc 112 args).run Tryz.prog w=.ok (.enter 112 args) w:=fun args w=>by kernel_rfl
theorem qN (v u:Value) (a:NF) (rt:Nt a) (l:List Int) (hst:a.st l=true) (w:World) (h:iZ w v a) (sm:I8 a) (hu:cR aV w u l) (hl:l.length<=1000000): ag 82 #[v,u] w fun e w'=>e=.returned (.bool (a.acc l))/\aa w w':=by
 have Tc:=(dY rt.cS).2;have hle:=rt.le;have CS:Hid (∀ W v,cR aV W v a.cS->ag 111 #[v] W fun e w'=>e=.returned (.agg (cE (setW (a.cS.map Int.toNat))))/\aa W w'):=hid fun W v h=>DC v (a.cS.map Int.toNat) W (h.pos fun x hx=>(Tc x hx).1) (fun p hp=>by obtain⟨x,hx,rfl⟩:=List.mem_map.1 hp;have:=Tc x hx;omega) (by rw[bp];exact sm.cS)
 have rM:∀ x:Int,0<=x->rX (setW (a.cS.map Int.toNat)) x.toNat=a.cS.contains x:=fun x hx=>by
  rw[I9,Bool.eq_iff_iff,List.contains_iff_mem,List.contains_iff_mem,List.mem_map];constructor
  ·rintro⟨y,hy,e⟩
   have:=(Tc y hy).1;obtain rfl:y=x:=by omega
   exact hy
  ·exact fun h=>⟨x,h,rfl⟩
 have CC:Hid (∀ W v' B b,cR aV W v' l->W.cell? ⟨B,4,none⟩=some (.bool a.emp)->B<W.heap.size->aq W b (cE (setW (a.cS.map Int.toNat))) 140->ag 77 #[v',.func (.func 112) #[] #[.pointer (some ⟨B,0,none⟩),.pointer (some ⟨b,0,none⟩)]] W fun e w'=>e=.returned (.bool (a.acc l))/\w'=W):=hid fun W v' B b hv' hB hBl hb=>by
  refine qL 112 #[.pointer (some ⟨B,0,none⟩),.pointer (some ⟨b,0,none⟩)] a.SY v' l W hv' hl Tb fun x hx W' hk=>?_
  have Kt:=(dY hst).2 x hx
  have:=Aq x a.emp (setW (a.cS.map Int.toNat)) B b W' ((ae.ai hk (R:=(· <W.heap.size)) fun _ h=>h).cell (p:=⟨B,4,none⟩) hBl |>.trans hB) (hb.below hk hb.lt) (by
   rcases Int.lt_or_le x 0 with h1 | h1
   ·exact .inl (by omega)
   ·exact .inr ⟨h1,by omega⟩)
  have e:(if x= -1 then a.emp else rX (setW (a.cS.map Int.toNat)) x.toNat)=a.SY x:=by
   unfold NF.SY;split
   ·rfl
   ·exact rM x (by omega)
  rw[e]at this;exact this
 obtain⟨v0,v1,v2,v3,rfl,h0,h1,h2,h3⟩:=h;obtain⟨a3,c3,rfl⟩:=h3.form;obtain⟨ua,uc,rfl⟩:=hu.form;obtain⟨R,hR⟩:=ah (a.acc l);obtain⟨S,hS⟩:=ah (setW (a.cS.map Int.toNat));obtain⟨n3,KC⟩:=ah a.cS.length;obtain⟨m,hm⟩:=ah l.length;rw[<-hS]at CS CC;rw[<-hR]at CC ⊢;rw[<-KC]at h3 ⊢;rw[<-hm]at hu ⊢;have H3:=hid h3;have HU:=hid hu;clear h0 h1 h2 h3 hu hR hS KC hm sm rt Tc rM hst hle;go_enter Tryz.func82,Tryz.ntmps82;go_wp2_with fail
 refine aK ?_;intro V hV;have B1:Hid (aq V w.heap.size #[v0,v1,v2,.slice a3 n3 c3,.bool a.emp] 99):=hid (by rw[hV];exact aq.new w _ _);have X1:Hid (aa w V):=hid (by rw[hV];exact((Ext.refl w).alloc _).below);clear hV;refine(CS V _ (H3.below X1)).mono ?_;rintro e w1 ⟨rfl,hx⟩;have B2:=hid (B1.below hx B1.lt);have X2:=hid (X1.trans (hx.mono X1.size));clear hx B1 X1 CS;have hst:=run_storeCells_new (P:=Tryz.prog) w1 140 #[.int .u64 0,.int .u64 0,.int .u64 0,.int .u64 0,.int .u64 0,.int .u64 0,.int .u64 0] (cE S) (by kernel_rfl) rfl (by simp[cE,Value.oneCell']);go_wp2_with fail
 refine aK ?_;intro V2 hV2;have b6:Hid (aq V2 w1.heap.size (cE S) 140):=hid (by rw[hV2];exact aq.new _ _ _);have XV:Hid (aa w1 V2):=hid (by rw[hV2];exact((Ext.refl w1).alloc _).below);clear hV2 hst;have i4:=(B2.below XV B2.lt).five.2.2.2.2;have hl:=(B2.below XV B2.lt).lt;refine(CC V2 _ _ _ (HU.below (X2.trans (XV.mono X2.size))) i4 hl b6).mono ?_;rintro e w' ⟨rfl,hw⟩;replace hw:=hw.symm;subst hw;go_wp2;go_ret;exact⟨rfl,X2.trans (XV.mono X2.size)⟩
theorem Av (v u:Value) (a:NF) (rt:Nt a) (l:List Int) (hst:a.st l=true) (w:World) (h:iZ w v a) (sm:I8 a) (hu:cR aV w u l) (hl:l.length<=1000000): ag 134 #[v,u] w fun e w'=>e=.returned (.tuple #[.bool (a.acc l),.int .i64 0])/\aa w w':=by
 have CK:Hid (∀ W,aa w W->ag 156 #[v,u] W fun e w'=>e=.returned (.int .i64 0)/\aa W w'):=hid fun W hW=>by
  have:=vH v u a l W (h.below hW) sm (hu.below hW) hl;have e:a.WG l=0:=by unfold NF.WG;rw[(fk a).2 rt,hst];rfl
  rwa[e]at this
 have CA:Hid (∀ W,aa w W->ag 82 #[v,u] W fun e w'=>e=.returned (.bool (a.acc l))/\aa W w'):=hid fun W hW=>qN v u a rt l hst W (h.below hW) sm (hu.below hW) hl
 obtain⟨a0,c0,a1,n1,c1,a2,n2,c2,a3,n3,c3,rfl⟩:=h.OQ;generalize a.aL.length=n0 at*;generalize a.acc l=R at*;obtain⟨ua,uc,rfl⟩:=hu.form;generalize l.length=m at*;clear h hu sm rt hst hl;go_enter Tryz.func134,Tryz.ntmps134;go_wp2_with fail
 refine aK ?_;intro V hV;have B1:Hid (aq V w.heap.size #[.slice a0 n0 c0,.slice a1 n1 c1,.slice a2 n2 c2,.slice a3 n3 c3,.bool a.emp] 99):=hid (by rw[hV];exact aq.new w _ _);have X1:Hid (aa w V):=hid (by rw[hV];exact((Ext.refl w).alloc _).below);clear hV;refine(CK V X1).mono ?_;rintro e w1 ⟨rfl,hx⟩;have B2:=hid (B1.below hx B1.lt);have X2:=hid (X1.trans (hx.mono X1.size));clear hx B1 X1;obtain⟨i0,i1,i2,i3,i4⟩:=B2.five;go_wp2_with fail
 refine(CA w1 X2).mono ?_;rintro e w2 ⟨rfl,hx⟩;have X3:=hid (X2.trans (hx.mono X2.size));clear hx i0 i1 i2 i3 i4;go_wp2;refine bodyPost_ret (v:=.tuple #[.bool R,.int .i64 0]) (by simp[results,Tryz.results134,go_sem]) rfl ⟨rfl,X3⟩
attribute [local go_sem] encS
theorem yT (v u:Value) (a:NF) (rt:Nt a) (l:List Int) (hst:a.st l=true) (c:Nat) (hc:c<256) (w:World) (h:iZ w v a) (sm:I8 a) (hu:cR aV w u l) (hl:l.length<=1000000): ag 114 #[v,u,.int .u8 c] w fun e w'=>∃ r,e=.returned r/\w'.ownsRow w.heap.size 3 1 r (a.step l c).length ((a.step l c).map aV)/\aa w w':=by
 have HSt:=hid (KD rt hst c);have FR:Hid (∀ p∈l,∀ q∈a.pq p,0<=q/\q<a.aL.length):=hid fun p hp q hq=>by have:=(dY (rt.OY hst hp)).2 q hq;omega
 have FL:Hid (∀ p,(a.pq p).length<=1000000):=hid fun p=>by
  unfold NF.pq;split
  ·exact sm.fst
  ·rcases Nat.lt_or_ge p.toNat a.cG.length with h1 | h1
   ·exact sm.row _ (aA (bB [] h1))
   ·rw[cq,dD h1];exact Nat.zero_le _
 have ST:Hid (∀ p∈l, -1<=p/\p<a.aL.length):=hid fun p hp=>by have:=(dY hst).2 p hp;omega
 have hle:=rt.le;have Td:=rt.cG;obtain⟨v0,v1,v2,v3,rfl,h0,h1,h2,h3⟩:=h;obtain⟨a0,c0,rfl⟩:=h0.1.form;obtain⟨a1,c1,rfl⟩:=h1.form;obtain⟨a2,c2,rfl⟩:=h2.form;obtain⟨ua,uc,rfl⟩:=hu.form;obtain⟨n0,eZ⟩:=ah a.aL.length;obtain⟨n2,sX⟩:=ah a.fst.length;obtain⟨m,hm⟩:=ah l.length;rw[Td]at h1;rw[<-eZ]at h0 h1 hle ST FR ⊢;rw[<-sX]at h2 ⊢;rw[<-hm]at hu hl ⊢;rw[Td, <-eZ];have yE:=hid eZ;have tS:=hid sX;have HM:=hid hm;have afA:=hid Td;have H0:=hid h0;have H1:=hid h1;have H2:=hid h2;have HU:=hid hu;have CH:Hid (∀ s W,ag 145 #[.agg (encS s),.int .u8 c] W fun e w'=>e=.returned (.bool (s.getLsbD c))/\Ext W w'):=hid fun s W=>qq s c hc W
 clear h0 h1 h2 h3 hu eZ sX hm Td sm rt hst;go_enter Tryz.func114,Tryz.ntmps114;go_wp2;refine ax ?_;intro V hV;have B1:Hid (aq V w.heap.size #[.slice a0 n0 c0,.slice a1 n0 c1,.slice a2 n2 c2,v3,.bool a.emp] 99):=hid (by rw[hV];exact(aq.new w _ _).alloc _);have B2:Hid (aq V (w.heap.size+1) (cE fun _=>0) 140):=hid (by rw[hV];exact(aq.new _ _ _).at (by simp));have X1:Hid (aa w V):=hid (by rw[hV];exact(((Ext.refl w).alloc _).alloc _).below);have uH:V.heap.size=w.heap.size+2:=by rw[hV];simp
 have rA:=hid uH;clear hV uH;go_loopw [15] (fun iv wr=>∃ k:Nat,k<=m/\iv=.int .i64 k/\aq wr (w.heap.size+1) (cE (setW (fG a c (l.take k)))) 140/\ae (fun x=>x<w.heap.size+1) V wr) (fun iv _=>m-(intOf iv).toNat);case atStart=>exact⟨0,by omega,rfl,B2,ae.refl _ _⟩
 case round=>
  obtain⟨k,hk,rfl,hb,hx⟩:=hrel;obtain⟨wo,rfl⟩:=ah (wr:World);have HB:=hid hb;have HX:=hid hx;have XX:Hid (aa w wo):=hid (X1.trans (hx.mono fun x mX=>by have:x<w.heap.size:=mX;show x<w.heap.size+1;omega:ae (· <w.heap.size) V wo).below);have BN:=hid (B1.keeps hx (by show w.heap.size<w.heap.size+1;omega));clear hb hx;by_cases hlt:k<m
  ·obtain⟨p,hp⟩:∃ p,l[k]? =some p:=⟨_,aC (by have:=HM.out;omega)⟩
   obtain⟨g,off,rfl,hg,q1⟩:=(HU.below XX).elem hp;replace q1:wo.cell? ⟨g,off+k,none⟩=some (.int .i64 p):=q1;have NS:=aA hp;have Ja:=ST.out p NS;have FRp:=hid (FR.out p NS);have HP:=hid hp;have eT:(k:Int)<m:=by omega
   clear hp NS;obtain⟨fl,BP⟩:=ah ((a.pq p).length);have flm:fl<=1000000:=by rw[BP];exact FL p
   have jg:Hid (fG a c (l.take (k+1))=fG a c (l.take k)++lI a c (a.pq p)):=hid (by
    rw[List.take_add_one,HP.out]
    exact GG a c _ p)
   have Jb:=hid BP;clear BP;rcases Decidable.em (p= -1)with h1 | h1
   ·subst h1
    obtain rfl:fl=n2:=by rw[Jb.out,show a.pq (-1)=a.fst from rfl,tS.out]
    have HF:Hid (∀ W,aa w W->cR aV W (.slice a2 fl c2) (a.pq (-1))):=hid fun W hW=>H2.below hW
    obtain⟨i0,i1,i2,i3,i4⟩:=BN.five;go_wp2;clear Ja q1 i0 i1 i2 i3 i4;go_loopw [30] (fun iv wi=>∃ j:Nat,j<=fl/\iv=.int .i64 j/\aq wi (w.heap.size+1) (cE (setW (fG a c (l.take k)++lI a c ((a.pq (-1)).take j)))) 140/\ae (fun x=>x<w.heap.size+1) wo wi) (fun iv _=>fl-(intOf iv).toNat);case atStart=>exact⟨0,by omega,rfl,by rw[List.take_zero];simp only[lI,List.map_nil,List.filter_nil,List.append_nil];exact HB,ae.refl _ _⟩
    case round=>
     obtain⟨j,hj,rfl,hb,hx⟩:=hrel;have fJ:=hid hb;have eW:=hid hx;have XI:Hid (aa w wr):=hid (XX.trans (hx.mono fun x mX=>by have:x<w.heap.size:=mX;show x<w.heap.size+1;omega:ae (· <w.heap.size) wo wr).below);have BI:=hid (BN.keeps hx (by show w.heap.size<w.heap.size+1;omega));clear hb hx;by_cases fC:j<fl
     ·obtain⟨q,hq⟩:∃ q,(a.pq (-1))[j]? =some q:=⟨_,aC (by have:=Jb.out;omega)⟩
      have hqr:=FRp.out q (aA hq);obtain⟨qn,rfl⟩:∃ qn:Nat,q=qn:=⟨q.toNat,by omega⟩;have UB:(qn:Int)<n0:=by omega
      have lY:(j:Int)<fl:=by omega
      obtain⟨s,hs⟩:∃ s,a.aL[qn]? =some s:=⟨_,aC (by have:=yE.out;omega)⟩;obtain⟨g2,o2,rfl,_,q2⟩:=(HF.out wr XI).elem hq;replace q2:wr.cell? ⟨g2,o2+j,none⟩=some (.int .i64 (qn:Int)):=q2;obtain⟨b3,o3,rfl,hb3,s0,s1,s2,s3⟩:=(H0.1.below XI).elem hs;obtain⟨i0,i1,i2,i3,i4⟩:=BI.five
      have HQ:Hid (fG a c (l.take k)++lI a c ((a.pq (-1)).take (j+1))=if s.getLsbD c then(fG a c (l.take k)++lI a c ((a.pq (-1)).take j))++ [qn]else fG a c (l.take k)++lI a c ((a.pq (-1)).take j)):=hid (by
       rw[List.take_add_one,hq];show fG a c (l.take k)++lI a c ((a.pq (-1)).take j++ [(qn:Int)])=_;rw[yS,Int.toNat_natCast,show a.on c qn=s.getLsbD c from by unfold NF.on;rw[getD_some hs]];split
       ·rw[List.append_assoc]
       ·rw[List.append_nil])
      obtain⟨bt,hbt⟩:=ah (s.getLsbD c);have WH:=hid (CH.out s);rw[<-hbt]at HQ WH;clear hq hs hbt;cases bt
      ·go_wp2_with fail
       refine(WH _).mono ?_;rintro e w1 ⟨rfl,hx⟩;have oZ:=hid hx;clear hx;go_wp2;exact⟨⟨j+1,by omega,by go_num,by rw[HQ.out];exact fJ.ext oZ,eW.tr (oZ.mono fun x hx=>by have:x<w.heap.size+1:=hx;have:=fJ.lt;omega)⟩,by simp[intOf];omega⟩
      ·go_wp2_with fail
       refine(WH _).mono ?_;rintro e w1 ⟨rfl,hx⟩;have oZ:=hid hx;clear hx;go_wp2_with fail
       refine(ni _ _ qn (by omega) w1 (fJ.ext oZ)).mono ?_;rintro e w2 ⟨⟨u,rfl⟩,hb4,hx4⟩;have WI:=hid hb4;have Cz:=hid hx4;clear hb4 hx4;go_wp2;exact⟨⟨j+1,by omega,by go_num,by rw[HQ.out,if_pos trivial,rY];exact WI,(eW.tr (oZ.mono fun x hx=>by have:x<w.heap.size+1:=hx;have:=fJ.lt;omega)).tr (Cz.mono fun x hx=>by have h5:x<w.heap.size+1:=hx;have:=fJ.lt;have:=oZ.size;exact⟨by omega,by omega⟩)⟩,by simp[intOf];omega⟩
     ·obtain rfl:j=fl:=by omega
      have lY:¬ ((j:Int)<j):=by omega
      have dT:(a.pq (-1)).take j=a.pq (-1):=by rw[Jb.out,List.take_length]
      rw[dT, <-jg.out]at fJ;go_wp2;exact⟨⟨k+1,by omega,by go_num,fJ,HX.tr eW⟩,by simp[intOf];omega⟩
   ·obtain⟨pn,rfl⟩:∃ pn:Nat,p=pn:=⟨p.toNat,by omega⟩
    have d1:((pn:Int) != -1)=true:=by rw[bne_iff_ne];omega
    have Jc:(pn:Int)<n0:=by omega
    obtain⟨b1,o1,fa,fc,ea1,hb1,cl1,h4⟩:=H1.elem (bB (l:=a.cG) [] (by rw[afA.out, <-yE.out];omega:pn<a.cG.length));have e:a.pq (pn:Int)=a.cG.getD pn []:=by unfold NF.pq;rw[if_neg h1,Int.toNat_natCast]
    rw[<-e, <-Jb.out]at cl1 h4;have HF:Hid (∀ W,aa w W->cR aV W (.slice fa fl fc) (a.pq (pn:Int))):=hid fun W hW=>h4.below hW
    have OZ:wo.cell? ⟨b1,o1+pn,none⟩=some (.slice fa fl fc):=((ae.ai XX fun _ h=>h:ae (· <w.heap.size) w wo).cell (p:=⟨b1,o1+pn,none⟩) hb1).trans cl1;subst ea1;clear cl1 h4 e;obtain⟨i0,i1,i2,i3,i4⟩:=BN.five;go_wp2;clear Ja q1 i0 i1 i2 i3 i4;go_loopw [30] (fun iv wi=>∃ j:Nat,j<=fl/\iv=.int .i64 j/\aq wi (w.heap.size+1) (cE (setW (fG a c (l.take k)++lI a c ((a.pq (pn:Int)).take j)))) 140/\ae (fun x=>x<w.heap.size+1) wo wi) (fun iv _=>fl-(intOf iv).toNat);case atStart=>exact⟨0,by omega,rfl,by rw[List.take_zero];simp only[lI,List.map_nil,List.filter_nil,List.append_nil];exact HB,ae.refl _ _⟩
    case round=>
     obtain⟨j,hj,rfl,hb,hx⟩:=hrel;have fJ:=hid hb;have eW:=hid hx;have XI:Hid (aa w wr):=hid (XX.trans (hx.mono fun x mX=>by have:x<w.heap.size:=mX;show x<w.heap.size+1;omega:ae (· <w.heap.size) wo wr).below);have BI:=hid (BN.keeps hx (by show w.heap.size<w.heap.size+1;omega));clear hb hx;by_cases fC:j<fl
     ·obtain⟨q,hq⟩:∃ q,(a.pq (pn:Int))[j]? =some q:=⟨_,aC (by have:=Jb.out;omega)⟩
      have hqr:=FRp.out q (aA hq);obtain⟨qn,rfl⟩:∃ qn:Nat,q=qn:=⟨q.toNat,by omega⟩;have UB:(qn:Int)<n0:=by omega
      have lY:(j:Int)<fl:=by omega
      obtain⟨s,hs⟩:∃ s,a.aL[qn]? =some s:=⟨_,aC (by have:=yE.out;omega)⟩;obtain⟨g2,o2,rfl,_,q2⟩:=(HF.out wr XI).elem hq;replace q2:wr.cell? ⟨g2,o2+j,none⟩=some (.int .i64 (qn:Int)):=q2;obtain⟨b3,o3,rfl,hb3,s0,s1,s2,s3⟩:=(H0.1.below XI).elem hs;obtain⟨i0,i1,i2,i3,i4⟩:=BI.five
      have HQ:Hid (fG a c (l.take k)++lI a c ((a.pq (pn:Int)).take (j+1))=if s.getLsbD c then(fG a c (l.take k)++lI a c ((a.pq (pn:Int)).take j))++ [qn]else fG a c (l.take k)++lI a c ((a.pq (pn:Int)).take j)):=hid (by
       rw[List.take_add_one,hq];show fG a c (l.take k)++lI a c ((a.pq (pn:Int)).take j++ [(qn:Int)])=_;rw[yS,Int.toNat_natCast,show a.on c qn=s.getLsbD c from by unfold NF.on;rw[getD_some hs]];split
       ·rw[List.append_assoc]
       ·rw[List.append_nil])
      obtain⟨bt,hbt⟩:=ah (s.getLsbD c);have WH:=hid (CH.out s);rw[<-hbt]at HQ WH;clear hq hs hbt;cases bt
      ·go_wp2_with fail
       refine(WH _).mono ?_;rintro e w1 ⟨rfl,hx⟩;have oZ:=hid hx;clear hx;go_wp2;exact⟨⟨j+1,by omega,by go_num,by rw[HQ.out];exact fJ.ext oZ,eW.tr (oZ.mono fun x hx=>by have:x<w.heap.size+1:=hx;have:=fJ.lt;omega)⟩,by simp[intOf];omega⟩
      ·go_wp2_with fail
       refine(WH _).mono ?_;rintro e w1 ⟨rfl,hx⟩;have oZ:=hid hx;clear hx;go_wp2_with fail
       refine(ni _ _ qn (by omega) w1 (fJ.ext oZ)).mono ?_;rintro e w2 ⟨⟨u,rfl⟩,hb4,hx4⟩;have WI:=hid hb4;have Cz:=hid hx4;clear hb4 hx4;go_wp2;exact⟨⟨j+1,by omega,by go_num,by rw[HQ.out,if_pos trivial,rY];exact WI,(eW.tr (oZ.mono fun x hx=>by have:x<w.heap.size+1:=hx;have:=fJ.lt;omega)).tr (Cz.mono fun x hx=>by have h5:x<w.heap.size+1:=hx;have:=fJ.lt;have:=oZ.size;exact⟨by omega,by omega⟩)⟩,by simp[intOf];omega⟩
     ·obtain rfl:j=fl:=by omega
      have lY:¬ ((j:Int)<j):=by omega
      have dT:(a.pq (pn:Int)).take j=a.pq (pn:Int):=by rw[Jb.out,List.take_length]
      rw[dT, <-jg.out]at fJ;go_wp2;exact⟨⟨k+1,by omega,by go_num,fJ,HX.tr eW⟩,by simp[intOf];omega⟩
  ·obtain rfl:k=m:=by omega
   have yQ:¬ ((k:Int)<k):=by omega
   have dT:l.take k=l:=by rw[HM.out,List.take_length]
   rw[dT]at HB;go_wp2_with fail
   refine(Au _ _ wo HB).mono ?_;rintro e w2 ⟨v,rfl,ho,hx⟩;have HO:=hid ho;have eW:=hid hx;clear ho hx;go_wp2;go_ret;refine⟨_,rfl,?_,XX.trans (eW.mono XX.size)⟩;have h:=aG HO XX.size;have e:(dN (setW (fG a c l)) 448).map vJ=(a.step l c).map aV:=by rw[<-HSt.out,List.map_map];rfl
   have e2:(dN (setW (fG a c l)) 448).length=(a.step l c).length:=by rw[<-HSt.out,bp]
   rwa[e,e2]at h
theorem KH (v u:Value) (a:NF) (rt:Nt a) (l:List Int) (hst:a.st l=true) (c:Nat) (hc:c<256) (w:World) (h:iZ w v a) (sm:I8 a) (hu:cR aV w u l) (hl:l.length<=1000000): ag 137 #[v,u,.int .u8 c] w fun e w'=>∃ r,e=.returned (.tuple #[r,.int .i64 0])/\w'.ownsRow w.heap.size 3 1 r (a.step l c).length ((a.step l c).map aV)/\aa w w':=by
 have CK:Hid (∀ W,aa w W->ag 156 #[v,u] W fun e w'=>e=.returned (.int .i64 0)/\aa W w'):=hid fun W hW=>by
  have:=vH v u a l W (h.below hW) sm (hu.below hW) hl;have e:a.WG l=0:=by unfold NF.WG;rw[(fk a).2 rt,hst];rfl
  rwa[e]at this
 have CA:Hid (∀ W,aa w W->ag 114 #[v,u,.int .u8 c] W fun e w'=>∃ r,e=.returned r/\w'.ownsRow W.heap.size 3 1 r (a.step l c).length ((a.step l c).map aV)/\aa W w'):=hid fun W hW=>yT v u a rt l hst c hc W (h.below hW) sm (hu.below hW) hl
 obtain⟨a0,c0,a1,n1,c1,a2,n2,c2,a3,n3,c3,rfl⟩:=h.OQ;generalize a.aL.length=n0 at*;generalize a.step l c=R at*;obtain⟨ua,uc,rfl⟩:=hu.form;generalize l.length=m at*;clear h hu sm rt hst hl;go_enter Tryz.func137,Tryz.ntmps137;go_wp2_with fail
 refine aK ?_;intro V hV;have B1:Hid (aq V w.heap.size #[.slice a0 n0 c0,.slice a1 n1 c1,.slice a2 n2 c2,.slice a3 n3 c3,.bool a.emp] 99):=hid (by rw[hV];exact aq.new w _ _);have X1:Hid (aa w V):=hid (by rw[hV];exact((Ext.refl w).alloc _).below);clear hV;refine(CK V X1).mono ?_;rintro e w1 ⟨rfl,hx⟩;have B2:=hid (B1.below hx B1.lt);have X2:=hid (X1.trans (hx.mono X1.size));clear hx B1 X1;obtain⟨i0,i1,i2,i3,i4⟩:=B2.five;go_wp2_with fail
 refine(CA w1 X2).mono ?_;rintro e w2 ⟨r,rfl,ho,hx⟩;have X3:=hid (X2.trans (hx.mono X2.size));have HO:=hid (aG ho X2.size);clear ho hx i0 i1 i2 i3 i4;go_wp2;refine bodyPost_ret (v:=.tuple #[r,.int .i64 0]) (by simp[results,Tryz.results137,go_sem]) rfl ⟨_,rfl,HO,X3⟩
end
section
open Go Go.RowKit Go.Shelf Go.Maps
theorem r8 (u:Nat):∀ c∈Lib.decDigits u,48<=c.toNat/\c.toNat<=57:=by
 induction u using Nat.strongRecOn with
 | _ u ih=>
  intro c hc;rw[Lib.decDigits]at hc;split at hc
  ·rename_i h
   simp at hc;subst hc;simp;omega
  ·rename_i h
   rcases List.mem_append.1 hc with hc | hc
   ·exact ih (u/10) (by omega) c hc
   ·simp at hc
    subst hc;have:u%10<10:=Nat.mod_lt _ (by decide);simp;omega
def numOf (l:List UInt8):Nat:=l.foldl (fun a c=>a*10+(c.toNat-48)) 0
theorem yU (u:Nat):numOf (Lib.decDigits u)=u:=by
 induction u using Nat.strongRecOn with
 | _ u ih=>
  rw[Lib.decDigits];split
  ·rename_i h
   simp[numOf];omega
  ·rename_i h
   unfold numOf at ih ⊢;rw[List.foldl_append,ih (u/10) (by omega)];have:u%10<10:=Nat.mod_lt _ (by decide);simp;omega
theorem Jd {u v:Nat} (h:Lib.decDigits u=Lib.decDigits v):u=v:=by rw[<-yU u, <-yU v,h]
theorem pA (x:Int):∀ c∈Lib.itoa x,c≠44/\c≠59:=by
 have key:∀ c:UInt8,(48<=c.toNat/\c.toNat<=57)->c≠44/\c≠59:=fun c h=>⟨fun e=>by subst e;simp at h,fun e=>by subst e;simp at h⟩
 intro c hc;rw[Lib.itoa]at hc;split at hc
 ·rcases List.mem_cons.1 hc with rfl | hc
  ·decide
  ·exact key c (r8 _ c hc)
 ·exact key c (r8 _ c hc)
theorem Pb {x y:Int} (h:Lib.itoa x=Lib.itoa y):x=y:=by
 have hne:∀ u (t:List UInt8),Lib.decDigits u≠45::t:=fun u t e=>by
  have:=r8 u 45 (by rw[e];exact bL ..);simp at this
 unfold Lib.itoa at h;split at h<;>split at h
 ·have:=Jd (List.cons.inj h).2
  omega
 ·exact absurd h.symm (hne _ _)
 ·exact absurd h (hne _ _)
 ·have:=Jd h
  omega
theorem GH {α:Type} {s:α} :∀ {a b c d:List α},(∀ x∈a,x≠s)->(∀ x∈b,x≠s)->a++s::c=b++s::d->a=b/\c=d
 | [],[],c,d,_,_,h=>⟨rfl,by simpa using h⟩
 | [],y::b,c,d,_,hb,h=>by
  have:s=y:=by simpa using(List.cons.inj (by simpa using h)).1
  exact absurd this.symm (hb y (bL ..))
 | x::a,[],c,d,ha,_,h=>by
  have:x=s:=by simpa using(List.cons.inj (by simpa using h)).1
  exact absurd this (ha x (bL ..))
 | x::a,y::b,c,d,ha,hb,h=>by
  have h':=List.cons.inj (by simpa using h:x::(a++s::c)=y::(b++s::d));obtain⟨e1,e2⟩:=GH (fun z hz=>ha z (cd _ hz)) (fun z hz=>hb z (cd _ hz)) h'.2;exact⟨by rw[h'.1,e1],e2⟩
def r9 (p:Int):List UInt8:=Lib.itoa p++ [44]
def eX (l:List Int):List UInt8:=l.flatMap r9
def th (l:List Int):List UInt8:=eX l++ [59]
def fA (row:List (List Int)):List UInt8:=row.flatMap th
theorem jF (p:Int) (l:List Int):eX (p::l)=r9 p++eX l:=rfl
theorem DI (l:List Int):∀ c∈eX l,c≠59:=by
 intro c hc;obtain⟨p,_,hp⟩:=List.mem_flatMap.1 hc;rcases List.mem_append.1 hp with h | h
 ·exact(pA p c h).2
 ·simp at h;subst h;decide
theorem yV:∀ {l m:List Int},eX l=eX m->l=m
 | [],[],_=>rfl
 | [],y::m,h=>by
  have:(eX (y::m)).length=0:=by rw[<-h];rfl
  rw[jF]at this;simp[r9]at this
 | x::l,[],h=>by
  have:(eX (x::l)).length=0:=by rw[h];rfl
  rw[jF]at this;simp[r9]at this
 | x::l,y::m,h=>by
  rw[jF,jF]at h;unfold r9 at h;simp only[List.append_assoc,List.cons_append,List.nil_append]at h;obtain⟨e1,e2⟩:=GH (fun c hc=>(pA x c hc).1) (fun c hc=>(pA y c hc).1) h;rw[Pb e1,yV e2]
theorem kR (l:List Int) (row:List (List Int)):fA (l::row)=th l++fA row:=rfl
theorem qO:∀ {r s:List (List Int)},fA r=fA s->r=s
 | [],[],_=>rfl
 | [],y::s,h=>by
  have:(fA (y::s)).length=0:=by rw[<-h];rfl
  rw[kR]at this;simp[th]at this
 | x::r,[],h=>by
  have:(fA (x::r)).length=0:=by rw[h];rfl
  rw[kR]at this;simp[th]at this
 | x::r,y::s,h=>by
  rw[kR,kR]at h;unfold th at h;simp only[List.append_assoc,List.cons_append,List.nil_append]at h;obtain⟨e1,e2⟩:=GH (DI x) (DI y) h;rw[yV e1,qO e2]
open Go.ChangeMaps (setBlock heap_setBlock_same)
open Go.WideMaps (keyOf_string_mk)
def vL (l:List UInt8):Value:=.string ⟨l.toArray⟩
theorem DJ {a b:List UInt8} (h:vL a=vL b):a=b:=by
 unfold vL at h;injection h with h
 injection h with h
 simpa using h
def ou:Nat->List (List UInt8)->List MapEntry
 | _,[]=>[]
 | n,p::l=>⟨vL p,.int .i64 n,n⟩::ou (n+1) l
theorem nk:∀ (l:List (List UInt8)) (n i:Nat),(ou n l)[i]? =(l[i]?).map fun p=>⟨vL p,.int .i64 (n+i:Nat),n+i⟩
 | [],_,_=>by simp[ou]
 | p::l,n,0=>by simp[ou]
 | p::l,n,i+1=>by
  simp only[ou,List.getElem?_cons_succ,nk l];rw[show n+1+i=n+(i+1) by omega]
theorem tj:∀ (l:List (List UInt8)) (n:Nat) (q:List UInt8),ou n (l++ [q])=ou n l++ [⟨vL q,.int .i64 (n+l.length:Nat),n+l.length⟩]
 | [],n,q=>by simp[ou]
 | p::l,n,q=>by
  simp only[List.cons_append,ou,tj l,List.length_cons];rw[show n+1+l.length=n+(l.length+1) by omega]
def pB (w:World) (b:Nat) (l:List (List UInt8)):Prop:=w.heap[b]? =some (.map (ou 0 l).toArray l.length)
theorem pB.keeps {w w':World} {b:Nat} {l:List (List UInt8)} (h:pB w b l) {R:Nat->Prop} (hk:ae R w w') (hb:R b):pB w' b l:=(hk.keep b hb).trans h
theorem pB.lt {w:World} {b:Nat} {l:List (List UInt8)} (h:pB w b l):b<w.heap.size:=(Array.getElem?_eq_some_iff.1 h).1
theorem pB.below {w w':World} {b:Nat} {l:List (List UInt8)} (h:pB w b l) (hk:aa w w'):pB w' b l:=(hk.block b h.lt).trans h
def KJ (r:List UInt8):Prop:=r.length<=maxLen
theorem Tryz.DK:Keyed Tryz.prog 9:=string_keyed Tryz.underlying9
theorem Aw (r:List UInt8) (h:KJ r):∃ l,keyOf Tryz.prog 9 (vL r)=some l:=⟨_,keyOf_string_mk Tryz.underlying9 (by show r.toArray.size<=maxLen;rw[List.size_toArray];exact h)⟩
theorem DL {l:List (List UInt8)} (hl:∀ p∈l,KJ p):∀ e∈ou 0 l,∃ k,keyOf Tryz.prog 9 e.key=some k:=fun e he=>by
 obtain⟨i,hi⟩:=List.mem_iff_getElem?.1 he;rw[nk]at hi;obtain⟨p,hp,rfl⟩:=Option.map_eq_some_iff.1 hi;exact Aw p (hl p (aA hp))
theorem pC {α:Type} [DecidableEq α] {l:List α} (hn:l.Nodup) {i:Nat} {q:α} (h:l[i]? =some q):l.idxOf q=i:=by obtain⟨h1,h2⟩:=List.getElem?_eq_some_iff.1 h;subst h2;exact List.Nodup.idxOf_getElem hn i h1
def ixU (l:List (List UInt8)) (q:List UInt8):Nat:= @List.idxOf _ instBEqOfDecidableEq q l
theorem Te {w:World} {b:Nat} {l:List (List UInt8)} (h:pB w b l) (hn:l.Nodup) (hl:∀ p∈l,KJ p) (q:List UInt8) (hq:KJ q): (q∉l/\(Instr.lookup 149 (.map (some b)) (vL q) true).run Tryz.prog w=.ok (.tuple #[.int .i64 0,.bool false]) w)\/ (q∈l/\(Instr.lookup 149 (.map (some b)) (vL q) true).run Tryz.prog w=.ok (.tuple #[.int .i64 (ixU l q),.bool true]) w):=by
 have K:=Tryz.DK;obtain⟨kl,hk⟩:=Aw q hq;have hz:(zeroValue 3).run Tryz.prog w=.ok (.int .i64 0) w:=by kernel_rfl
 have hb:w.heap[b]? =some (.map (ou 0 l).toArray l.length):=h;rcases K.find w hk (ou 0 l) (DL hl)with⟨f1,f2⟩ | ⟨j,e0,f1,f2,f3⟩
 ·refine .inl ⟨fun hm=>?_,?_⟩
  ·obtain⟨i,hi⟩:=List.mem_iff_getElem?.1 hm
   have:=nk l 0 i;rw[hi]at this;exact f2 _ (aA this) rfl
  ·simp[Instr.lookup,run_underlying Tryz.underlying149,MapKept.run_getObj_map hb,K.check w _ hk,f1,hz,Result.andThen]
 ·rw[nk]at f2
  obtain⟨p,hp,rfl⟩:=Option.map_eq_some_iff.1 f2;have e:p=q:=DJ f3;subst e;refine .inr ⟨aA hp,?_⟩;rw[show ixU l p=j from pC hn hp];simp[Instr.lookup,run_underlying Tryz.underlying149,MapKept.run_getObj_map hb,K.check w _ hk,f1,Result.andThen]
theorem WJ {w:World} {b:Nat} {l:List (List UInt8)} (h:pB w b l) (hl:∀ p∈l,KJ p) (q:List UInt8) (hqk:KJ q) (hq:q∉l): ∃ w',(Instr.mapUpdate 149 (.map (some b)) (vL q) (.int .i64 l.length)).run Tryz.prog w=.ok () w'/\pB w' b (l++ [q])/\ae (· ≠b) w w'/\w'.heap.size=w.heap.size:=by
 have K:=Tryz.DK;obtain⟨kl,hk⟩:=Aw q hqk;have hb:w.heap[b]? =some (.map (ou 0 l).toArray l.length):=h;rcases K.find w hk (ou 0 l) (DL hl)with⟨f1,f2⟩ | ⟨j,e0,f1,f2,f3⟩
 ·refine⟨setBlock w b (.map (ou 0 (l++ [q])).toArray (l++ [q]).length),?_,heap_setBlock_same hb _,⟨rfl,rfl,rfl,by simp[setBlock],fun i hi=>by show(w.heap.setIfInBounds b _)[i]? =_;exact Array.getElem?_setIfInBounds_ne (Ne.symm hi)⟩,by simp[setBlock]⟩
  rw[tj];simp[Instr.mapUpdate,run_underlying Tryz.underlying149,MapKept.run_getObj_map hb,K.check w false hk,f1,MapKept.run_setObj_map _ hb,Result.andThen,setBlock]
 ·rw[nk]at f2
  obtain⟨p,hp,rfl⟩:=Option.map_eq_some_iff.1 f2;have e:p=q:=DJ f3;subst e;exact absurd (aA hp) hq
end
section
open Go Go.RowKit Go.Shelf Go.Maps
def GI (r:List (List Int)):Value:=vL (fA r)
def kS (w:World) (b:Nat) (l:List (List (List Int))):Prop:=pB w b (l.map fA)
theorem kS.keeps {w w':World} {b:Nat} {l:List (List (List Int))} (h:kS w b l) {R:Nat->Prop} (hk:ae R w w') (hb:R b):kS w' b l:=pB.keeps h hk hb
theorem kS.lt {w:World} {b:Nat} {l:List (List (List Int))} (h:kS w b l):b<w.heap.size:=pB.lt h
theorem kS.below {w w':World} {b:Nat} {l:List (List (List Int))} (h:kS w b l) (hk:aa w w'):kS w' b l:=pB.below h hk
def tu (r:List (List Int)):Prop:=(fA r).length<=maxLen
def WK (l:List (List (List Int))) (q:List (List Int)):Nat:= @List.idxOf _ instBEqOfDecidableEq q l
theorem DN:∀ {l:List (List (List Int))},l.Nodup->(l.map fA).Nodup
 | [],_=>List.nodup_nil
 | a::l,h=>by
  rw[List.nodup_cons]at h;rw[List.map_cons,List.nodup_cons];refine⟨fun hm=>?_,DN (l:=l) h.2⟩;obtain⟨b,hb,e⟩:=List.mem_map.1 hm;exact h.1 (qO e▸hb)
theorem Tf {w:World} {b:Nat} {l:List (List (List Int))} (h:kS w b l) (hn:l.Nodup) (hl:∀ p∈l,tu p) (q:List (List Int)) (hq:tu q): (q∉l/\(Instr.lookup 149 (.map (some b)) (GI q) true).run Tryz.prog w=.ok (.tuple #[.int .i64 0,.bool false]) w)\/ (q∈l/\(Instr.lookup 149 (.map (some b)) (GI q) true).run Tryz.prog w=.ok (.tuple #[.int .i64 (WK l q),.bool true]) w):=by
 have hN:=DN (l:=l) hn;rcases Te h hN (fun p hp=>by obtain⟨x,hx,rfl⟩:=List.mem_map.1 hp;exact hl x hx) (fA q) hq with⟨h1,h2⟩ | ⟨h1,h2⟩
 ·exact .inl ⟨fun hm=>h1 (List.mem_map.2 ⟨q,hm,rfl⟩),h2⟩
 ·obtain⟨x,hx,e⟩:=List.mem_map.1 h1
  obtain rfl:=qO e;obtain⟨i,hi⟩:=List.mem_iff_getElem?.1 hx;have e1:WK l x=i:=pC hn hi;have e2:ixU (l.map fA) (fA x)=i:=pC hN (by rw[bH,hi];rfl);rw[e2]at h2;rw[e1];exact .inr ⟨hx,h2⟩
theorem WL {w:World} {b:Nat} {l:List (List (List Int))} (h:kS w b l) (hl:∀ p∈l,tu p) (q:List (List Int)) (hqk:tu q) (hq:q∉l): ∃ w',(Instr.mapUpdate 149 (.map (some b)) (GI q) (.int .i64 l.length)).run Tryz.prog w=.ok () w'/\kS w' b (l++ [q])/\ae (· ≠b) w w'/\w'.heap.size=w.heap.size:=by obtain⟨w',h1,h2,h3,h4⟩:=WJ h (fun p hp=>by obtain⟨x,hx,rfl⟩:=List.mem_map.1 hp;exact hl x hx) (fA q) hqk (fun hm=>by obtain⟨x,hx,e⟩:=List.mem_map.1 hm;exact hq (qO e▸hx));rw[bp]at h1;refine⟨w',h1,?_,h3,h4⟩;unfold kS;rw[List.map_append];exact h2
end
end Go.Proofs.YtpcmhjbehdgdbaaGreatDoor
namespace Go.Proofs
open Go.Shelf
def Tryz.yX:Go.Shelf.Ren:=⟨fun | 169=>155 | n=>n,fun | 70=>226 | 9=>9 | 0=>0 | 72=>228 | 37=>55 | 127=>249 | 3=>3 | 5=>5 | n=>n,fun | n=>n⟩
theorem Tryz.aaT:Go.Proofs.Lays.n169 Tryz.prog Tryz.yX:= {
 mixed:=by kernel_rfl
 f169:=Tryz.func155.trans (congrArg some (by kernel_rfl))
 t0:=Tryz.underlying0
 a0:=Tryz.isAgg0
 z0:=Tryz.sizeOf0
 v0:=Tryz.zeroValue0
 t3:=Tryz.underlying3
 a3:=Tryz.isAgg3
 z3:=Tryz.sizeOf3
 v3:=Tryz.zeroValue3
 t9:=Tryz.underlying9
 a9:=Tryz.isAgg9
 z9:=Tryz.sizeOf9
 v9:=Tryz.zeroValue9
 t37:=Tryz.underlying55
 a37:=Tryz.isAgg55
 z37:=Tryz.sizeOf55
 v37:=Tryz.zeroValue55
 t70:=Tryz.underlying226
 a70:=Tryz.isAgg226
 z70:=Tryz.sizeOf226
 v70:=Tryz.zeroValue226
 t72:=Tryz.underlying228
 a72:=Tryz.isAgg228
 z72:=Tryz.sizeOf228
 v72:=Tryz.zeroValue228
 t127:=Tryz.underlying249
 a127:=Tryz.isAgg249
 z127:=Tryz.sizeOf249
 v127:=Tryz.zeroValue249}
theorem Tryz.aaU:Builder.Extra Tryz.prog Tryz.yX:= {
 sizeBuilder:=by kernel_rfl
 liesBuilder:=by kernel_rfl
 t5:=Tryz.underlying5
 a5:=Tryz.isAgg5
 z5:=Tryz.sizeOf5
 v5:=Tryz.zeroValue5
 infoByte:=by kernel_rfl
 cellsByte:=by kernel_rfl
 sizeByte:=by kernel_rfl
 neB5:=by decide}
def Tryz.KM:Go.Shelf.Ren:=⟨fun | 171=>153 | 243=>173 | 246=>190 | 283=>196 | 284=>197 | 285=>198 | 286=>199 | 129=>168 | 317=>201 | 318=>202 | 319=>203 | 320=>204 | 337=>205 | 338=>206 | n=>n,fun | 3=>3 | 9=>9 | 2=>2 | 4=>4 | 171=>269 | 0=>0 | 53=>35 | 37=>55 | 5=>5 | 173=>271 | 212=>276 | 51=>120 | 20=>20 | 213=>277 | 46=>82 | 232=>278 | 233=>279 | n=>n,fun | 17=>0 | 18=>1 | 19=>2 | n=>n⟩
theorem Tryz.aaV:Go.Proofs.LaysM.n171 Tryz.prog Tryz.KM:= {
 mixed:=by kernel_rfl
 f129:=Tryz.func168.trans (congrArg some (by kernel_rfl))
 f171:=Tryz.func153.trans (congrArg some (by kernel_rfl))
 f243:=Tryz.func173.trans (congrArg some (by kernel_rfl))
 f246:=Tryz.func190.trans (congrArg some (by kernel_rfl))
 f283:=Tryz.func196.trans (congrArg some (by kernel_rfl))
 f284:=Tryz.func197.trans (congrArg some (by kernel_rfl))
 f285:=Tryz.func198.trans (congrArg some (by kernel_rfl))
 f286:=Tryz.func199.trans (congrArg some (by kernel_rfl))
 f317:=Tryz.func201.trans (congrArg some (by kernel_rfl))
 f318:=Tryz.func202.trans (congrArg some (by kernel_rfl))
 f319:=Tryz.func203.trans (congrArg some (by kernel_rfl))
 f320:=Tryz.func204.trans (congrArg some (by kernel_rfl))
 f337:=Tryz.func205.trans (congrArg some (by kernel_rfl))
 f338:=Tryz.func206.trans (congrArg some (by kernel_rfl))
 t0:=Tryz.underlying0
 a0:=Tryz.isAgg0
 z0:=Tryz.sizeOf0
 v0:=Tryz.zeroValue0
 t2:=Tryz.underlying2
 a2:=Tryz.isAgg2
 z2:=Tryz.sizeOf2
 v2:=Tryz.zeroValue2
 t3:=Tryz.underlying3
 a3:=Tryz.isAgg3
 z3:=Tryz.sizeOf3
 v3:=Tryz.zeroValue3
 t4:=Tryz.underlying4
 a4:=Tryz.isAgg4
 z4:=Tryz.sizeOf4
 v4:=Tryz.zeroValue4
 t5:=Tryz.underlying5
 a5:=Tryz.isAgg5
 z5:=Tryz.sizeOf5
 v5:=Tryz.zeroValue5
 t9:=Tryz.underlying9
 a9:=Tryz.isAgg9
 z9:=Tryz.sizeOf9
 v9:=Tryz.zeroValue9
 t20:=Tryz.underlying20
 a20:=Tryz.isAgg20
 z20:=Tryz.sizeOf20
 v20:=Tryz.zeroValue20
 t37:=Tryz.underlying55
 a37:=Tryz.isAgg55
 z37:=Tryz.sizeOf55
 v37:=Tryz.zeroValue55
 t46:=Tryz.underlying82
 a46:=Tryz.isAgg82
 z46:=Tryz.sizeOf82
 v46:=Tryz.zeroValue82
 t51:=Tryz.underlying120
 a51:=Tryz.isAgg120
 z51:=Tryz.sizeOf120
 v51:=Tryz.zeroValue120
 t53:=Tryz.underlying35
 a53:=Tryz.isAgg35
 z53:=Tryz.sizeOf35
 v53:=Tryz.zeroValue35
 t171:=Tryz.underlying269
 a171:=Tryz.isAgg269
 z171:=Tryz.sizeOf269
 v171:=Tryz.zeroValue269
 t173:=Tryz.underlying271
 a173:=Tryz.isAgg271
 z173:=Tryz.sizeOf271
 v173:=Tryz.zeroValue271
 t212:=Tryz.underlying276
 a212:=Tryz.isAgg276
 z212:=Tryz.sizeOf276
 v212:=Tryz.zeroValue276
 t213:=Tryz.underlying277
 a213:=Tryz.isAgg277
 z213:=Tryz.sizeOf277
 t232:=Tryz.underlying278
 a232:=Tryz.isAgg278
 z232:=Tryz.sizeOf278
 v232:=Tryz.zeroValue278
 t233:=Tryz.underlying279
 a233:=Tryz.isAgg279
 z233:=Tryz.sizeOf279
 v233:=Tryz.zeroValue279
 g17:=by kernel_rfl
 g18:=by kernel_rfl
 g19:=by kernel_rfl
 i0:=by kernel_rfl
 i2:=by kernel_rfl
 i3:=by kernel_rfl
 i4:=by kernel_rfl
 i5:=by kernel_rfl
 i9:=by kernel_rfl
 i20:=by kernel_rfl
 i37:=by kernel_rfl
 i46:=by kernel_rfl
 i51:=by kernel_rfl
 i53:=by kernel_rfl
 i171:=by kernel_rfl
 i173:=by kernel_rfl
 i212:=by kernel_rfl
 i232:=by kernel_rfl
 i233:=by kernel_rfl
 m17:=by kernel_rfl
 m18:=by kernel_rfl
 m19:=by kernel_rfl}
def Tryz.yY:Go.Shelf.Ren:=⟨fun | 166=>152 | 240=>172 | 276=>189 | n=>n,fun | 0=>0 | 3=>3 | 4=>4 | 5=>5 | 9=>9 | 20=>20 | 37=>55 | 70=>226 | 72=>228 | 75=>230 | 80=>235 | 164=>261 | n=>n,fun | n=>n⟩
theorem Tryz.aaW:Go.Proofs.Lays.n166 Tryz.prog Tryz.yY:= {
 mixed:=by kernel_rfl
 f166:=Tryz.func152.trans (congrArg some (by kernel_rfl))
 f240:=Tryz.func172.trans (congrArg some (by kernel_rfl))
 f276:=Tryz.func189.trans (congrArg some (by kernel_rfl))
 t0:=Tryz.underlying0
 a0:=Tryz.isAgg0
 z0:=Tryz.sizeOf0
 v0:=Tryz.zeroValue0
 t3:=Tryz.underlying3
 a3:=Tryz.isAgg3
 z3:=Tryz.sizeOf3
 v3:=Tryz.zeroValue3
 t4:=Tryz.underlying4
 a4:=Tryz.isAgg4
 z4:=Tryz.sizeOf4
 v4:=Tryz.zeroValue4
 t9:=Tryz.underlying9
 a9:=Tryz.isAgg9
 z9:=Tryz.sizeOf9
 v9:=Tryz.zeroValue9
 t20:=Tryz.underlying20
 a20:=Tryz.isAgg20
 z20:=Tryz.sizeOf20
 v20:=Tryz.zeroValue20
 t37:=Tryz.underlying55
 a37:=Tryz.isAgg55
 z37:=Tryz.sizeOf55
 v37:=Tryz.zeroValue55
 t70:=Tryz.underlying226
 a70:=Tryz.isAgg226
 z70:=Tryz.sizeOf226
 v70:=Tryz.zeroValue226
 t72:=Tryz.underlying228
 a72:=Tryz.isAgg228
 z72:=Tryz.sizeOf228
 v72:=Tryz.zeroValue228
 t75:=Tryz.underlying230
 a75:=Tryz.isAgg230
 z75:=Tryz.sizeOf230
 v75:=Tryz.zeroValue230
 t164:=Tryz.underlying261
 a164:=Tryz.isAgg261
 z164:=Tryz.sizeOf261
 v164:=Tryz.zeroValue261}
theorem Tryz.aaX:Builder.Extra Tryz.prog Tryz.yY:= {
 sizeBuilder:=by kernel_rfl
 liesBuilder:=by kernel_rfl
 t5:=Tryz.underlying5
 a5:=Tryz.isAgg5
 z5:=Tryz.sizeOf5
 v5:=Tryz.zeroValue5
 infoByte:=by kernel_rfl
 cellsByte:=by kernel_rfl
 sizeByte:=by kernel_rfl
 neB5:=by decide}
def Tryz.yZ:Go.Shelf.Ren:=⟨fun | 167=>154 | 240=>172 | 276=>189 | n=>n,fun | 0=>0 | 3=>3 | 4=>4 | 5=>5 | 9=>9 | 20=>20 | 37=>55 | 70=>226 | 72=>228 | 75=>230 | 80=>235 | 164=>261 | n=>n,fun | n=>n⟩
theorem Tryz.aaY:Go.Proofs.Lays.n167 Tryz.prog Tryz.yZ:= {
 mixed:=by kernel_rfl
 f167:=Tryz.func154.trans (congrArg some (by kernel_rfl))
 f240:=Tryz.func172.trans (congrArg some (by kernel_rfl))
 f276:=Tryz.func189.trans (congrArg some (by kernel_rfl))
 t0:=Tryz.underlying0
 a0:=Tryz.isAgg0
 z0:=Tryz.sizeOf0
 v0:=Tryz.zeroValue0
 t4:=Tryz.underlying4
 a4:=Tryz.isAgg4
 z4:=Tryz.sizeOf4
 v4:=Tryz.zeroValue4
 t5:=Tryz.underlying5
 a5:=Tryz.isAgg5
 z5:=Tryz.sizeOf5
 v5:=Tryz.zeroValue5
 t9:=Tryz.underlying9
 a9:=Tryz.isAgg9
 z9:=Tryz.sizeOf9
 v9:=Tryz.zeroValue9
 t20:=Tryz.underlying20
 a20:=Tryz.isAgg20
 z20:=Tryz.sizeOf20
 v20:=Tryz.zeroValue20
 t37:=Tryz.underlying55
 a37:=Tryz.isAgg55
 z37:=Tryz.sizeOf55
 v37:=Tryz.zeroValue55
 t70:=Tryz.underlying226
 a70:=Tryz.isAgg226
 z70:=Tryz.sizeOf226
 v70:=Tryz.zeroValue226
 t72:=Tryz.underlying228
 a72:=Tryz.isAgg228
 z72:=Tryz.sizeOf228
 v72:=Tryz.zeroValue228
 t75:=Tryz.underlying230
 a75:=Tryz.isAgg230
 z75:=Tryz.sizeOf230
 v75:=Tryz.zeroValue230
 t164:=Tryz.underlying261
 a164:=Tryz.isAgg261
 z164:=Tryz.sizeOf261
 v164:=Tryz.zeroValue261}
theorem Tryz.aaZ:Builder.Extra Tryz.prog Tryz.yZ:= {
 sizeBuilder:=by kernel_rfl
 liesBuilder:=by kernel_rfl
 t5:=Tryz.underlying5
 a5:=Tryz.isAgg5
 z5:=Tryz.sizeOf5
 v5:=Tryz.zeroValue5
 infoByte:=by kernel_rfl
 cellsByte:=by kernel_rfl
 sizeByte:=by kernel_rfl
 neB5:=by decide}
end Go.Proofs
namespace Go.Proofs.YtpcmhjbehdgdbaaGreatDoor
open Go Go.RowKit Go.Shelf Go.Maps
def mB (W:World):Prop:=Lib.TabIs Tryz.prog W "internal/strconv.uint64pow10" .u64 Lib.pow10Tab
theorem KN {P:Program} {w w':World} {name:String} (hk:∀ b,b<w.heap.size->w'.heap[b]? =w.heap[b]?) {x:Array Value} (h:w.var? P name=some x):w'.var? P name=some x:=by
 unfold World.var? at*;cases hg:P.globalNamed name with
 | none=>rw[hg]at h;cases h
 | some g=>
  rw[hg]at h;simp only[Option.bind_some]at h ⊢;rcases Nat.lt_or_ge g w.heap.size with h1 | h1
  ·rw[hk g h1];exact h
  ·rw[Array.getElem?_eq_none h1]at h;cases h
theorem mB.below {w w':World} (h:mB w) (hk:aa w w'):mB w':=KN (fun b hb=>hk.block b hb) h
theorem DO (x:Int) (h0: -9223372036854775808<=x) (h1:x<=9223372036854775807):(r9 x).length<=22:=by unfold r9;rw[aQ];have:=Lib.itoa_length_le x h0 h1;simp;omega
def RowK (row:List (List Int)):Prop:=row.length<=64/\∀ l∈row,l.length<=401/\∀ x∈l, -1<=x/\x<=400
theorem KQ {l:List Int} (h:∀ x∈l, -1<=x/\x<=400):(eX l).length<=22*l.length:=by
 induction l with
 | nil=>simp[eX]
 | cons p l ih=>
  rw[jF,aQ,List.length_cons];have h1:=DO p (by have:=(h p (bL ..)).1;omega) (by have:=(h p (bL ..)).2;omega);have h2:=ih fun x hx=>h x (cd _ hx)
  omega
theorem Pc {row:List (List Int)} {N:Nat} (h:∀ l∈row,l.length<=N/\∀ x∈l, -1<=x/\x<=400):(fA row).length<=(22*N+1)*row.length:=by
 induction row with
 | nil=>simp[fA]
 | cons l row ih=>
  rw[kR,aQ,List.length_cons];have h1:=h l (bL ..);have h2:=KQ h1.2;have h3:=ih fun x hx=>h x (cd _ hx)
  have h4:(th l).length=(eX l).length+1:=by unfold th;simp
  have h5:22*l.length<=22*N:=Nat.mul_le_mul_left _ h1.1;rw[Nat.mul_add,Nat.mul_one];omega
theorem RowK.len {row:List (List Int)} (h:RowK row):(fA row).length<=564672:=by have h1:=Pc h.2;have h2:(22*401+1)*row.length<=(22*401+1)*64:=Nat.mul_le_mul_left _ h.1;omega
theorem RowK.in {row:List (List Int)} (h:RowK row):tu row:=by have:=h.len;unfold tu maxLen;omega
theorem qP (row:List (List Int)) (k:Nat):(fA (row.take k)).length<=(fA row).length:=by
 conv=>rhs;rw[<-List.take_append_drop k row]
 unfold fA;rw[List.flatMap_append,aQ];omega
theorem KS (row:List (List Int)) (l:List Int):fA (row++ [l])=fA row++eX l++ [59]:=by unfold fA;rw[List.flatMap_append];simp[th]
theorem GJ (l:List Int) (p:Int):eX (l++ [p])=eX l++r9 p:=by unfold eX;rw[List.flatMap_append];simp
theorem GK (n:Nat) (w:World) (k:Nat) (os:Array Obj) (hn:n<=w.heap.size):Below n w (Sort.grow (w.drewN k) os) where
 os:=rfl
 tape:=rfl
 output:=rfl
 size:=by unfold Sort.grow;simp[World.drewN]
 block:=fun b hb=>by unfold Sort.grow;show((w.drewN k).heap++os)[b]? =_;rw[Array.getElem?_append_left (by show b<w.heap.size;omega)];rfl
theorem tX {T e:TypeId} {B b:Nat} {bs:List Value} {w w':World} (h:Lib.IsBuilderF T e B b bs w) (hk:aa w w'):Lib.IsBuilderF T e B b bs w':=by
 have key:∀ p,Lib.BuilderAtF T e B b p bs w->Lib.BuilderAtF T e B b p bs w':=fun p h=>by
  have hlt:=h.lt;obtain⟨h1,v,h2,⟨h3,h4⟩,h5⟩:=h;refine⟨h1,v,(hk.block b hlt).trans h2,⟨h3,?_⟩,h5⟩;rcases h4 with h4 | ⟨g,cap,cur,fz,e1,e2,e3,rest⟩
  ·exact .inl h4
  ·exact .inr ⟨g,cap,cur,fz,e1,e2,(hk.block g (Array.getElem?_eq_some_iff.1 e3).1).trans e3,rest⟩
 exact h.imp (key _) (key _)
theorem xV (l m:List UInt8):Lib.byteCells l++Lib.strCells ⟨m.toArray⟩=Lib.byteCells (l++m):=by unfold Lib.byteCells Lib.strCells;simp
theorem byteCells_one (l:List UInt8) (c:UInt8):Lib.byteCells l++ [.int .u8 c.toNat]=Lib.byteCells (l++ [c]):=by unfold Lib.byteCells;simp
theorem Tg (v:Value) (row:List (List Int)) (rk:RowK row) (w:World) (h:lC w v row) (WM:∀ W,aa w W->mB W): ag 133 #[v] w fun e w'=>e=.returned (GI row)/\aa w w':=by
 obtain⟨a,c,rfl⟩:=h.form;obtain⟨n,hn⟩:=ah row.length;obtain⟨R,hR⟩:=ah (GI row);rw[<-hn]at h ⊢;rw[<-hR];have pD:n<=64:=by rw[hn];exact rk.1
 have KL:=hid rk.len;have H:=hid h;have HN:=hid hn;have HR:=hid hR;have HT:=hid WM;have RK:=hid rk.2;have CI:Hid (∀ (x:Int) (W:World), -1<=x->x<=400->aa w W->ag 153 #[.int .i64 x] W fun e w'=>e=.returned (.string ⟨(Lib.itoa x).toArray⟩)/\aa W w'):=hid fun x W h0 h1 hW=>(Any.strconv_Itoa Tryz.aaV x (by omega) (by omega) W (WM W hW)).mono fun e w' ⟨he,k,os,hw⟩=>⟨he,by rw[hw];exact GK _ _ _ _ (aD _)⟩
 have CW:Hid (∀ (B b:Nat) (bs:List Value) (s:ByteArray) (W:World),Lib.IsBuilderF 228 5 B b bs W->bs.length+s.size<=140737488355328->B<=W.heap.size->ag 152 #[.pointer (some ⟨b,0,none⟩),.string s] W fun e w'=>e=.returned (.tuple #[.int .i64 s.size,.nilIface])/\(Lib.BuilderAtF 228 5 B b (.pointer (some ⟨b,0,none⟩)) (bs++Lib.strCells s) w'/\Below B W w')):=hid fun B b bs s W h1 h2 h3=>(Any.Builder_WriteString_k Tryz.aaW Tryz.aaX B b bs s W h1 h2 h3).mono fun e w' ⟨he,h4,h5,_⟩=>⟨he,h4,h5⟩
 have CB:Hid (∀ (B b:Nat) (bs:List Value) (x:Int) (W:World),Lib.IsBuilderF 228 5 B b bs W->bs.length+1<=140737488355328->B<=W.heap.size->ag 154 #[.pointer (some ⟨b,0,none⟩),.int .u8 x] W fun e w'=>e=.returned .nilIface/\(Lib.BuilderAtF 228 5 B b (.pointer (some ⟨b,0,none⟩)) (bs++ [.int .u8 x]) w'/\Below B W w')):=hid fun B b bs x W h1 h2 h3=>(Any.Builder_WriteByte_k Tryz.aaY Tryz.aaZ B b bs x W h1 h2 h3).mono fun e w' ⟨he,h4,h5,_⟩=>⟨he,h4,h5⟩
 have CS:Hid (∀ (B b:Nat) (l:List UInt8) (W:World),Lib.IsBuilderF 228 5 B b (Lib.byteCells l) W->B<=W.heap.size->ag 155 #[.pointer (some ⟨b,0,none⟩)] W fun e w'=>e=.returned (.string ⟨l.toArray⟩)/\Below B W w'):=hid fun B b l W h1 h3=>(Any.Builder_String_any_k Tryz.aaT Tryz.aaU B b l W h1 h3).mono fun e w' ⟨he,_,h5,_⟩=>⟨he,h5⟩
 clear h hn hR WM rk;go_enter Tryz.func133,Tryz.ntmps133;go_wp2;go_loopw [10] (fun iv wr=>∃ k:Nat,k<=n/\iv=.int .i64 k/\Lib.IsBuilderF 228 5 w.heap.size w.heap.size (Lib.byteCells (fA (row.take k))) wr/\aa w wr) (fun iv _=>n-(intOf iv).toNat);case atStart=>
  exact⟨0,by omega,rfl,Lib.IsBuilderF.of (Lib.fresh_isBuilder 228 5 w),((Ext.refl w).alloc _).below⟩
 case round=>
  obtain⟨k,hk,rfl,hb,hx⟩:=hrel;have HB:=hid hb;have HX:=hid hx;have hle:=qP row k;have HLE:=hid hle;clear hb hx hle;obtain⟨wo,rfl⟩:=ah (wr:World);by_cases hlt:k<n
  ·have eT:(k:Int)<n:=by omega
   obtain⟨l,hl⟩:∃ l,row[k]? =some l:=⟨_,aC (by have:=HN.out;omega)⟩;obtain⟨b,off,a',c',rfl,hbl,cl,l8⟩:=H.elem hl;have OZ:wo.cell? ⟨b,off+k,none⟩=some (.slice a' l.length c'):=((ae.ai HX fun _ h=>h:ae (· <w.heap.size) w wo).cell (p:=⟨b,off+k,none⟩) hbl).trans cl;have SZ:=hid l8;have RL:=hid (RK.out l (aA hl));have jg:Hid (fA (row.take (k+1))=fA (row.take k)++eX l++ [59]):=hid (by rw[List.take_add_one,hl];exact KS _ _);have LEN:Hid ((fA (row.take (k+1))).length<=564672):=hid (Nat.le_trans (qP row (k+1)) KL);obtain⟨m,hm⟩:=ah l.length;have aiJ:m<=401:=by rw[hm];exact RL.out.1
   have HM:=hid hm;rw[<-hm]at OZ SZ;clear l8 hl hm cl;go_wp2;clear OZ;go_loopw [16] (fun iv wi=>∃ j:Nat,j<=m/\iv=.int .i64 j/\Lib.IsBuilderF 228 5 w.heap.size w.heap.size (Lib.byteCells (fA (row.take k)++eX (l.take j))) wi/\aa w wi) (fun iv _=>m-(intOf iv).toNat);case atStart=>
    exact⟨0,by omega,rfl,by rw[List.take_zero];show Lib.IsBuilderF _ _ _ _ (Lib.byteCells (fA (row.take k)++ [])) _;rw[List.append_nil];exact HB,HX⟩
   case round=>
    obtain⟨j,hj,rfl,hb,hx⟩:=hrel;have fJ:=hid hb;have eW:=hid hx;clear hb hx;have gW:(eX (l.take j)).length<=(eX l).length:=by
     conv=>rhs;rw[<-List.take_append_drop j l]
     unfold eX;rw[List.flatMap_append,aQ];omega
    have WN:Hid ((fA (row.take k)++eX (l.take j)).length<=564672):=hid (by have h5:=LEN.out;rw[jg.out,aQ,aQ]at h5;rw[aQ];omega);clear gW;by_cases fC:j<m
    ·have lY:(j:Int)<m:=by omega
     obtain⟨x,MH⟩:∃ x,l[j]? =some x:=⟨_,aC (by have:=HM.out;omega)⟩;obtain⟨g2,o2,rfl,_,q2⟩:=(SZ.below eW).elem MH;replace q2:wr.cell? ⟨g2,o2+j,none⟩=some (.int .i64 x):=q2;have Kt:=RL.out.2 x (aA MH);have HTJ:Hid (fA (row.take k)++eX (l.take (j+1))=fA (row.take k)++eX (l.take j)++r9 x):=hid (by rw[List.take_add_one,MH];show fA (row.take k)++eX (l.take j++ [x])=_;rw[GJ,List.append_assoc]);clear MH;go_wp2_with fail
     clear q2;refine(CI x wr Kt.1 Kt.2 eW).mono ?_;rintro e w1 ⟨rfl,hx⟩;have HB3:=hid (tX fJ hx);have oZ:=hid (eW.trans (hx.mono eW.size));clear hx;have hlen:=Lib.itoa_length_le x (by have:=Kt.1;omega) (by have:=Kt.2;omega);have pU:(Lib.itoa x).length+1<=9223372036854775807:=by omega
     have Vp:∀ W,(Op.stringOp .add ⟨(Lib.itoa x).toArray⟩ ⟨#[44]⟩).run Tryz.prog W=.ok (.string ⟨(r9 x).toArray⟩) W:=fun W=>by
      rw[run_string_add_lists (P:=Tryz.prog) W (Lib.itoa x) [44] (by omega) (by decide)];rfl
     have hnk:(r9 x).length<=22:=DO x (by have:=Kt.1;omega) (by have:=Kt.2;omega);go_wp2_with fail
     clear Vp;refine(CW _ _ _ _ _ HB3 (by rw[Lib.byteCells_length];have h6:=WN.out;have:(⟨(r9 x).toArray⟩:ByteArray).size=(r9 x).length:=(by simp[ByteArray.size]);omega) oZ.size).mono ?_;rintro e w2 ⟨rfl,hb,hx⟩;rw[xV, <-HTJ.out]at hb;have WI:=hid hb;have Cz:=hid (oZ.trans hx);clear hb hx;go_wp2;exact⟨⟨j+1,by omega,by go_num,.inr WI,Cz⟩,by simp[intOf];omega⟩
    ·obtain rfl:j=m:=by omega
     have lY:¬ ((j:Int)<j):=by omega
     have dT:l.take j=l:=by rw[HM.out,List.take_length]
     rw[dT]at fJ WN;go_wp2_with fail
     refine(CB _ _ _ _ _ fJ (by rw[Lib.byteCells_length];have h6:=WN.out;omega) eW.size).mono ?_;rintro e w2 ⟨rfl,hb,hx⟩;have hb2:Lib.BuilderAtF 228 5 w.heap.size w.heap.size (.pointer (some ⟨w.heap.size,0,none⟩)) (Lib.byteCells (fA (row.take (k+1)))) w2:=by rw[jg.out, <-byteCells_one];exact hb
     have WI:=hid hb2;have Cz:=hid (eW.trans hx);clear hb hb2 hx;go_wp2;exact⟨⟨k+1,by omega,by go_num,.inr WI,Cz⟩,by simp[intOf];omega⟩
  ·obtain rfl:k=n:=by omega
   have lY:¬ ((k:Int)<k):=by omega
   have dT:row.take k=row:=by rw[HN.out,List.take_length]
   rw[dT]at HB;go_wp2_with fail
   refine(CS _ _ _ _ HB HX.size).mono ?_;rintro e w2 ⟨rfl,hx⟩;have Cz:=hid (HX.trans hx);clear hx;go_wp2;go_ret;exact⟨by rw[HR.out];rfl,Cz⟩
theorem iZ.za {w:World} {v0 v1 v2 v3 e:Value} {a:NF} (h:iZ w (.agg #[v0,v1,v2,v3,e]) a):∃ a0 n0 c0 a1 n1 c1 a2 n2 c2 a3 n3 c3,v0=.slice a0 n0 c0/\v1=.slice a1 n1 c1/\v2=.slice a2 n2 c2/\v3=.slice a3 n3 c3:=by obtain⟨u0,u1,u2,u3,e,h0,h1,h2,h3⟩:=h;obtain⟨a0,c0,rfl⟩:=h0.1.form;obtain⟨a1,c1,rfl⟩:=h1.form;obtain⟨a2,c2,rfl⟩:=h2.form;obtain⟨a3,c3,rfl⟩:=h3.form;cases e;exact⟨_,_,_,_,_,_,_,_,_,_,_,_,rfl,rfl,rfl,rfl⟩
def jG (w:World) (v:Value) (ps:List PT):Prop:=(v=.slice none 0 0/\ps=[])\/∃ b off cap,v=.slice (some ⟨b,off,none⟩) ps.length cap/\b<w.heap.size/\∀ (i:Nat) (x:PT),ps[i]? =some x->
 ∃ v0 v1 v2 v3,iZ w (.agg #[v0,v1,v2,v3,.bool x.nf.emp]) x.nf/\w.cell? ⟨b,off+i*7,none⟩=some v0/\w.cell? ⟨b,off+i*7+1,none⟩=some v1/\w.cell? ⟨b,off+i*7+2,none⟩=some v2/\w.cell? ⟨b,off+i*7+3,none⟩=some v3/\
  w.cell? ⟨b,off+i*7+4,none⟩=some (.bool x.nf.emp)/\w.cell? ⟨b,off+i*7+5,none⟩=some (.bool x.OP)/\w.cell? ⟨b,off+i*7+6,none⟩=some (.int .i64 x.mark)
theorem jG.below {w w':World} {v:Value} {ps:List PT} (h:jG w v ps) (hk:aa w w'):jG w' v ps:=by
 rcases h with h | ⟨b,off,cap,hv,hb,h⟩
 ·exact .inl h
 ·have hc:∀ j,w'.cell? ⟨b,j,none⟩=w.cell? ⟨b,j,none⟩:=fun j=>(ae.ai hk fun _ h=>h:ae (· <w.heap.size) w w').cell (p:=⟨b,j,none⟩) hb
  refine .inr ⟨b,off,cap,hv,aw hb hk.size,fun i x hx=>?_⟩;obtain⟨v0,v1,v2,v3,h0,h1,h2,h3,h4,h5,h6,h7⟩:=h i x hx;exact⟨v0,v1,v2,v3,h0.below hk,(hc _).trans h1,(hc _).trans h2,(hc _).trans h3,(hc _).trans h4,(hc _).trans h5,(hc _).trans h6,(hc _).trans h7⟩
theorem jG.form {w:World} {v:Value} {ps:List PT} (h:jG w v ps):∃ a cap,v=.slice a ps.length cap:=by
 rcases h with⟨rfl,rfl⟩ | ⟨b,off,cap,rfl,_⟩
 ·exact⟨_,_,rfl⟩
 ·exact⟨_,_,rfl⟩
theorem jG.elem {w:World} {a:Option Addr} {n cap:Nat} {ps:List PT} (h:jG w (.slice a n cap) ps) {i:Nat} {x:PT} (hi:ps[i]? =some x): ∃ b off v0 v1 v2 v3,a=some ⟨b,off,none⟩/\b<w.heap.size/\iZ w (.agg #[v0,v1,v2,v3,.bool x.nf.emp]) x.nf/\w.cell? ⟨b,off+i*7,none⟩=some v0/\w.cell? ⟨b,off+i*7+1,none⟩=some v1/\w.cell? ⟨b,off+i*7+2,none⟩=some v2/\w.cell? ⟨b,off+i*7+3,none⟩=some v3/\ w.cell? ⟨b,off+i*7+4,none⟩=some (.bool x.nf.emp)/\w.cell? ⟨b,off+i*7+5,none⟩=some (.bool x.OP)/\w.cell? ⟨b,off+i*7+6,none⟩=some (.int .i64 x.mark):=by
 rcases h with⟨_,rfl⟩ | ⟨b,off,c,hv,hb,h⟩
 ·simp at hi
 ·cases hv
  obtain⟨v0,v1,v2,v3,h0,rest⟩:=h i x hi;exact⟨b,off,v0,v1,v2,v3,rfl,hb,h0,rest⟩
def Th (ps:List PT):Prop:=ps.length<=64/\∀ x∈ps,Nt x.nf/\I8 x.nf/\0<=x.mark/\x.mark<=255
theorem aq.seven {w:World} {b:Nat} {x y z u t p q:Value} {ty:TypeId} (h:aq w b #[x,y,z,u,t,p,q] ty):w.cell? ⟨b,0,none⟩=some x/\w.cell? ⟨b,1,none⟩=some y/\w.cell? ⟨b,2,none⟩=some z/\w.cell? ⟨b,3,none⟩=some u/\w.cell? ⟨b,4,none⟩=some t/\w.cell? ⟨b,5,none⟩=some p/\w.cell? ⟨b,6,none⟩=some q:=
 ⟨h.cell 0,h.cell 1,h.cell 2,h.cell 3,h.cell 4,h.cell 5,h.cell 6⟩
def aR.aa0 (base:Nat) (e:TypeId) (size n:Nat) (xs:List Value) (x:Value):aR (Move false (fun _=>False)) where
 P:=fun v=>∃ a c,v=.tuple #[.slice a n c,x]
 H:=fun v W=>∀ u,v=.tuple #[u,x]->W.ownsRow base e size u n xs
 mo:=.tuple #[.slice none n 0,x]
 pw:=⟨none,0,rfl⟩
 st:=fun _ _ _ hm _ h u hu=>ay (h u hu) hm.below
theorem KT {base:Nat} {e:TypeId} {size n:Nat} {xs:List Value} {x u:Value} {W:World} (h:W.ownsRow base e size u n xs):∃ a c,(Value.tuple #[u,x])=.tuple #[.slice a n c,x]:=by obtain⟨a,c,rfl⟩:=ownsRow_form h;exact⟨a,c,rfl⟩
theorem KU {base:Nat} {e:TypeId} {size n:Nat} {xs:List Value} {x u:Value} {W:World} (h:W.ownsRow base e size u n xs):∀ u',(Value.tuple #[u,x])=.tuple #[u',x]->W.ownsRow base e size u' n xs:=fun u' e=>by cases e;exact h
theorem KY {ps:List PT} {row:List (List Int)} {c i:Nat} {x:PT} {l:List Int} (hx:ps[i]? =some x) (hl:row[i]? =some l):(dZ ps row c)[i]? =some (x.step l c):=by unfold dZ;rw[List.getElem?_zipWith,hx,hl]
theorem KZ {ps:List PT} {row:List (List Int)} (h:row.length=ps.length) (c:Nat):(dZ ps row c).length=ps.length:=by simp[dZ,h]
theorem se {a:NF} (rt:Nt a) {l:List Int} (h:a.st l=true):l.length<=401:=by
 obtain⟨h1,h2⟩:=dY h;have hle:=rt.le;have hn:(l.map fun x=>(x+1).toNat).Nodup:=by rw[List.nodup_iff_pairwise_ne,List.pairwise_map];exact h1.imp_of_mem fun {a b} ha hb hab=>by have:=h2 a ha;have:=h2 b hb;omega
 have:=List.Nodup.length_le_of_subset hn (l₂:=List.range 401) fun x hx=>by
  obtain⟨y,hy,rfl⟩:=List.mem_map.1 hx;have:=h2 y hy;exact List.mem_range.2 (by omega)
 simpa using this
theorem Ax {ps:List PT} (ok:Th ps) {row:List (List Int)} (h:nh ps row):RowK row:=by refine⟨by rw[h.1];exact ok.1,fun l hl=>?_⟩;obtain⟨i,hi⟩:=List.getElem?_of_mem hl;have iR:=(List.getElem?_eq_some_iff.1 hi).1;have hx:ps[i]? =some (ps[i]'(by rw[<-h.1];exact iR)):=aC _;have rt:=(ok.2 _ (aA hx)).1;have hst:=h.2 i _ l hx hi;refine⟨se rt hst,fun x hx=>?_⟩;have:=(dY hst).2 x hx;have:=rt.le;omega
theorem K1 (mb:Nat) (pv lv:Value) (ps:List PT) (ok:Th ps) (row:List (List Int)) (hr:nh ps row) (c:Nat) (hc:c<256) (w:World) (hm:w.cell? ⟨mb,0,none⟩=some pv) (h:jG w pv ps) (hl:lC w lv row): ag 103 #[.pointer (some ⟨mb,0,none⟩),lv,.int .u8 c] w fun e w'=>∃ u,e=.returned u/\bI w.heap.size w' u (dZ ps row c)/\aa w w':=by
 obtain⟨iL,Ki,rQ,rR,rS⟩:=info_parts Tryz.yD;obtain⟨iI,Cb,my,mz,mA⟩:=info_parts Tryz.qB;obtain⟨pa,pc,rfl⟩:=h.form;obtain⟨la,lc,rfl⟩:=hl.form;obtain⟨n,hn⟩:=ah ps.length;have Io:=hr.1;rw[<-hn]at h hm Io;rw[Io]at hl ⊢;have pD:n<=64:=by rw[hn];exact ok.1
 have CS:Hid (∀ (i:Nat) (x:PT) (l:List Int) (v u:Value) (W:World),ps[i]? =some x->row[i]? =some l->iZ W v x.nf->cR aV W u l->ag 137 #[v,u,.int .u8 c] W fun e w'=>∃ r,e=.returned (.tuple #[r,.int .i64 0])/\w'.ownsRow W.heap.size 3 1 r (x.nf.step l c).length ((x.nf.step l c).map aV)/\aa W w'):=hid fun i x l v u W hx hl hv hu=>by
  have h2:=ok.2 x (aA hx);have hst:=hr.2 i x l hx hl;exact KH v u x.nf h2.1 l hst c hc W hv h2.2.1 hu (Nat.le_trans (se h2.1 hst) (by decide))
 have SL:Hid (∀ (i:Nat) (x:PT) (l:List Int),ps[i]? =some x->(x.nf.step l c).length<=400):=hid fun i x l hx=>by
  have h2:=(ok.2 x (aA hx)).1.le;unfold NF.step;rw[bp];exact Nat.le_trans (List.length_filter_le _ _) (by simpa using h2)
 have H:=hid h;have HL:=hid hl;have HN:=hid hn;have Zg:=hid Io;have SLn:Hid ((dZ ps row c).length=n):=hid (by rw[KZ hr.1, <-hn]);have tY:mb<w.heap.size:=World.block_lt_of_cell? _ _ hm;clear h hl hr hn Io ok;go_enter Tryz.func103,Tryz.ntmps103;go_wp2;clear hm;go_loopw [7,17] (fun ov iv wr=>∃ k:Nat,k<=n/\iv=.int .i64 k/\bI w.heap.size wr ov ((dZ ps row c).take k)/\aa w wr) (fun _ iv _=>n-(intOf iv).toNat);case atStart=>exact⟨0,by omega,rfl,bI.nil _ _,Below.refl _ _⟩
 case round=>
  obtain⟨k,hk,rfl,ho,hx⟩:=hrel;obtain⟨wo,rfl⟩:=ah (wr:World);have HO:=hid ho;have HX:=hid hx;clear ho hx;by_cases hlt:k<n
  ·have eT:(k:Int)<n:=by omega
   obtain⟨x,hx⟩:∃ x,ps[k]? =some x:=⟨_,aC (by have:=HN.out;omega)⟩;obtain⟨l,hl⟩:∃ l,row[k]? =some l:=⟨_,aC (by have:=Zg.out;omega)⟩;obtain⟨b,off,v0,v1,v2,v3,rfl,hb,ox,q0,q1,q2,q3,q4,q5,q6⟩:=(H.below HX).elem hx;obtain⟨b2,tW,a',c',rfl,hb2,cl,l8⟩:=(HL.below HX).elem hl;have OG:=hid hx;have HLL:=hid hl;obtain⟨x0,n0,c0,x1,n1,c1,x2,n2,c2,x3,n3,c3,rfl,rfl,rfl,rfl⟩:=ox.za;have Je:=hid ox;have SZ:=hid l8;have jg:Hid ((dZ ps row c).take (k+1)=(dZ ps row c).take k++ [x.step l c]):=hid (by rw[List.take_add_one,KY hx hl];rfl);clear hx hl ox l8;obtain⟨sn,Kl⟩:=ah ((x.nf.step l c).length);obtain⟨sx,xn⟩:=ah ((x.nf.step l c).map aV);have VY:Hid (∀ (v u:Value) (W:World),iZ W v x.nf->cR aV W u l->ag 137 #[v,u,.int .u8 c] W fun e w'=>∃ r,e=.returned (.tuple #[r,.int .i64 0])/\w'.ownsRow W.heap.size 3 1 r sn sx/\aa W w'):=hid fun v u W hv hu=>by rw[Kl,xn];exact CS k x l v u W OG HLL hv hu
   have aiL:sn<=400:=by rw[Kl];exact SL k x l OG
   have Rp:=hid Kl;have Pd:=hid xn;obtain⟨ln,hln⟩:=ah l.length;rw[<-hln]at cl SZ;clear Kl xn hln;go_wp2;refine ax ?_;intro V hV;have BX:Hid (aq V wo.heap.size #[.slice x0 n0 c0,.slice x1 n1 c1,.slice x2 n2 c2,.slice x3 n3 c3,.bool x.nf.emp,.bool x.OP,.int .i64 x.mark] 101):=hid (by rw[hV];exact aq.new wo _ _);have XV:Hid (aa wo V):=hid (by rw[hV];exact((Ext.refl wo).alloc _).below);have OZ:V.cell? ⟨b2,tW+k,none⟩=some (.slice a' ln c'):=((ae.ai XV fun _ h=>h:ae (· <wo.heap.size) wo V).cell (p:=⟨b2,tW+k,none⟩) hb2).trans cl;clear hV q0 q1 q2 q3 q4 q5 q6 cl;refine aM false (fun _=>False) (by kernel_rfl) 12 [0,1,0,0,12,28,0,127,255,511,511,1023,4095] (fun i=>i==7) (by kernel_rfl) (fun i=>if i=7 then aR.aa0 V.heap.size 3 1 sn sx (.int .i64 0)else aR.any _) ?_;intro C hC hne;have HC:=hid hC;have f0:=aF hC (p:=⟨wo.heap.size,0,none⟩) BX.lt (fun h=>h) (BX.cell 0);have f1:=aF hC (p:=⟨wo.heap.size,1,none⟩) BX.lt (fun h=>h) (BX.cell 1);have f2:=aF hC (p:=⟨wo.heap.size,2,none⟩) BX.lt (fun h=>h) (BX.cell 2);have f3:=aF hC (p:=⟨wo.heap.size,3,none⟩) BX.lt (fun h=>h) (BX.cell 3);have f4:=aF hC (p:=⟨wo.heap.size,4,none⟩) BX.lt (fun h=>h) (BX.cell 4);have f5:=aF hC (p:=⟨b2,tW+k,none⟩) (World.block_lt_of_cell? _ _ OZ) (fun h=>h) OZ;clear hC OZ
   repeat (refine ak (fun K hK=>?_);first | (refine cQ rfl ?_;try go_simp;refine hK _ _ ?_;clear hK K) | (refine bV rfl rfl ?_;unfold aB;go_simp;refine hK _ _ ?_;clear hK K))
   refine ak (fun K hK=>?_);refine bS rfl rfl (aR.aa0 V.heap.size 3 1 sn sx (.int .i64 0)) rfl (fun W hW hN=>?_) (fun v hv=>?_)
   ·have hM:=(HC.out W).1 hW
    clear hW;go_simp;refine bu ((VY _ _ _ ((Je.below XV).below hM.below) ((SZ.below XV).below hM.below)).mono ?_);rintro e w2 ⟨vp,rfl,ho,hx⟩;exact⟨_,rfl,Move.ai hx,KT ho,KU (aG ho hM.size)⟩
   obtain⟨ra,rc,rfl⟩:=hv;go_simp;refine hK _ _ ?_;clear hK K
   repeat (refine ak (fun K hK=>?_);first | (refine cQ rfl ?_;try go_simp;refine hK _ _ ?_;clear hK K) | (refine bV rfl rfl ?_;unfold aB;go_simp;refine hK _ _ ?_;clear hK K))
   refine cg (fun W hW hH=>?_);have hM:=(HC.out W).1 hW;have R0:Hid (W.ownsRow V.heap.size 3 1 (.slice ra sn rc) sn sx):=hid ((hH _ (aA (show _=some _ from rfl:_[0]? =some _))) _ rfl);have BW:=hid (BX.below hM.below BX.lt);have XW:=hid (XV.trans (hM.below.mono XV.size));have hVW:=hM.size;clear hM hW hH HC hne f0 f1 f2 f3 f4 f5;obtain⟨i0,i1,i2,i3,i4,i5,i6⟩:=BW.seven;have Pe:w.heap.size<=wo.heap.size:=HX.size;have aa1:wo.heap.size<W.heap.size:=BW.lt;obtain⟨us,u1,u2,u3⟩:=HO.out;obtain⟨m,hm⟩:=ah us.length;have afE:m<=64:=by rw[hm,u1,List.length_take,SLn.out];omega
   rw[<-hm]at u2;have HM:=hid hm;obtain⟨a5,c5,rfl⟩:=ownsRow_form u2;have U1:=hid u1;have V2:=hid (ay u2 XW);have V3:=hid fun i u l hu hl=>ay (u3 i u l hu hl) XW
   clear u1 u2 u3 hm;cases hbg:x.OP with
   | true=>
    rw[hbg]at i5;have HE:Hid (x.step l c=x.nf.step l c):=hid (by unfold PT.step;rw[hbg];rfl);clear hbg
    have RN:Hid (W.ownsRow w.heap.size 3 1 (.slice ra sn rc) (x.step l c).length ((x.step l c).map aV)):=hid (by
     rw[HE.out, <-Rp.out, <-Pd.out]
     exact aG R0 (Nat.le_trans Pe XV.size))
    go_wp2_with (at_builtin;refine wpList_append_own_at _ rfl (.tmp 39) (.tmp 41) 71 rfl w.heap.size 51 iL (.slice none 0 0) 1 24 Tryz.underlying71 Ki rQ rR rS rfl (by decide) _ _ _ rfl (V2.alloc _) ⟨W.heap.size,0,none⟩ 1 1 [.slice ra sn rc] rfl rfl (jx _ _ _) (by simp[Value.oneCell']) (by unfold maxLen;omega) (by omega) (by simp;omega) ?_;intro v' w2 hown' hgrow hh hat;have kA:=hid hown';have HG:=hid hgrow;clear hown' hgrow hh hat)
    go_roundw
    case rel=>
     refine⟨k+1,by omega,by go_num,?_,?_⟩
     ·rw[jg.out]
      refine bI.snoc (w:=W.alloc (.cells #[.slice ra sn rc] 51)) (v:=.slice a5 m c5) (by rw[<-HM.out];exact HM.trans U1) (by rw[<-HM.out];exact V2.alloc _) (fun i u l hu hl=>(V3 i u l hu hl).alloc _) (RN.alloc _) HG (by rw[<-HM.out];exact kA)
     ·have XX:=HX.trans (XW.mono HX.size)
      exact(XX.alloc XX.size _).grown HG (by have:=XX.size;simp;omega) (fun c e=>(V2.lt c e).1)
    case measure=>simp[intOf];omega
   | false=>
    rw[hbg]at i5;have HE:Hid (x.step l c= -1::x.nf.step l c):=hid (by unfold PT.step;rw[hbg];rfl);clear hbg;have O1:Hid ((W.alloc (.cells #[.int .i64 (-1)] 3)).ownsRow W.heap.size 3 1 (.slice (some ⟨W.heap.size,0,none⟩) 1 1) 1 [.int .i64 (-1)]):=hid ⟨rfl,.inr ⟨W.heap.size,1, #[.int .i64 (-1)],rfl,aD _,World.alloc_heap_new _ _,aD _,by unfold maxLen;omega,rfl,rfl⟩⟩;go_wp2_with (at_builtin;refine Hid.out ?_);refine hid ?_;refine ju rfl (.tmp 36) (.tmp 37) 51 rfl W.heap.size 3 iI (.int .i64 0) 1 8 Tryz.underlying51 Cb my mz mA rfl (by decide) _ 1 _ rfl O1 _ sn sx rfl (uX.own (R0.alloc _)) (by rw[Pd.out,bp,Nat.mul_one];exact Rp.symm) (fun u hu=>by rw[Pd.out]at hu;obtain⟨y,_,rfl⟩:=List.mem_map.1 hu;rfl) (by unfold maxLen;omega) (by omega) (by simp) ?_;intro v1 w1 hown1 vM;have XB:Hid (aa W w1):=hid (((Below.refl _ W).alloc (aD _) _).grown vM (by simp) (fun c e=>by have e2:some W.heap.size=some c:=e;injection e2 with e2;omega));have hN:1+sn=(x.step l c).length:=by rw[HE.out,List.length_cons, <-Rp.out];omega
    have hX:[.int .i64 (-1)]++sx=(x.step l c).map aV:=by rw[HE.out,Pd.out];rfl
    rw[hN,hX]at hown1;obtain⟨sm,hsm⟩:=ah ((x.step l c).length);rw[<-hsm]at hown1;obtain⟨a6,c6,rfl⟩:=ownsRow_form hown1;have RN:Hid (w1.ownsRow w.heap.size 3 1 (.slice a6 sm c6) (x.step l c).length ((x.step l c).map aV)):=hid (by rw[<-hsm];exact aG hown1 (by omega));have Z2:=hid (ay V2 XB);have Z3:=hid fun i u l hu hl=>ay (V3 i u l hu hl) XB
    have GN:=XB.size;clear hown1 vM hN hX hsm V2 V3 O1;go_wp2_with (at_builtin;refine wpList_append_own_at _ rfl (.tmp 39) (.tmp 41) 71 rfl w.heap.size 51 iL (.slice none 0 0) 1 24 Tryz.underlying71 Ki rQ rR rS rfl (by decide) _ _ _ rfl (Z2.alloc _) ⟨w1.heap.size,0,none⟩ 1 1 [.slice a6 sm c6] rfl rfl (jx _ _ _) (by simp[Value.oneCell']) (by unfold maxLen;omega) (by omega) (by simp;omega) ?_;intro v' w2 hown' hgrow hh hat;have kA:=hid hown';have HG:=hid hgrow;clear hown' hgrow hh hat);go_roundw;case rel=>
     refine⟨k+1,by omega,by go_num,?_,?_⟩
     ·rw[jg.out]
      refine bI.snoc (w:=w1.alloc (.cells #[.slice a6 sm c6] 51)) (v:=.slice a5 m c5) (by rw[<-HM.out];exact HM.trans U1) (by rw[<-HM.out];exact Z2.alloc _) (fun i u l hu hl=>(Z3 i u l hu hl).alloc _) (RN.alloc _) HG (by rw[<-HM.out];exact kA)
     ·have XX:=(HX.trans (XW.mono HX.size)).trans (XB.mono (Nat.le_trans HX.size XW.size))
      exact(XX.alloc XX.size _).grown HG (by have:=XX.size;simp;omega) (fun c e=>(Z2.lt c e).1)
    case measure=>simp[intOf];omega
  ·obtain rfl:k=n:=by omega
   have yQ:¬ ((k:Int)<k):=by omega
   have dT:(dZ ps row c).take k=dZ ps row c:=by rw[<-SLn.out];exact List.take_length
   rw[dT]at HO;go_wp2;go_ret;exact⟨_,rfl,HO,HX⟩
end Go.Proofs.YtpcmhjbehdgdbaaGreatDoor
