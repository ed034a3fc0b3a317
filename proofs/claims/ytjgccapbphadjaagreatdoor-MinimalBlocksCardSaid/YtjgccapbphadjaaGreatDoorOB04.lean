/- nfa.step, nfa.Step: the state set behind a byte. -/
import Derived.Test.YtjgccapbphadjaaGreatDoorOB03
import Derived.Test.YtjgccapbphadjaaGreatDoorRows
import Derived.Shelf.Sort.Plain
import Derived.Shelf.Slices.In.SortNone
import Derived.Shelf.Slices.Turned
import Derived.Shelf.Slices.Cells
import Derived.Laws.AppendOwnNone
set_option maxRecDepth 100000
set_option maxHeartbeats 16000000
open Go.Lib (hid)
namespace Go.Proofs.YtjgccapbphadjaaGreatDoor
section
open Go Go.RowKit Go.Shelf Go.Maps
attribute [local go_sem] encS
def nJ (l:List (Nat×Nat)):List Value:=l.flatMap fun p=>[.int .i64 p.1,.int .i64 p.2]
theorem Bp (l:List (Nat×Nat)) (p:Nat×Nat):nJ (l++ [p])=nJ l++ [.int .i64 p.1,.int .i64 p.2]:=by simp[nJ]
theorem zO:∀ (l:List (Nat×Nat)) (i:Nat) (p:Nat×Nat),l[i]? =some p->(nJ l)[i*2]? =some (.int .i64 p.1)/\(nJ l)[i*2+1]? =some (.int .i64 p.2)
 | [],_,_,h=>by simp at h
 | q::l,0,p,h=>by
  simp at h;subst h;exact⟨rfl,rfl⟩
 | q::l,i+1,p,h=>by
  have:=zO l i p (by simpa using h);rw[show(i+1)*2=i*2+2 by omega];exact⟨by simpa[nJ]using this.1,by simpa[nJ]using this.2⟩
theorem Ep {P:Program} {fn:Func} {R:Ending->World->Prop} {x:Exit} {a:Act} {w:World} (h:∀ W,W=w->bodyPost P fn R x a W):bodyPost P fn R x a w:=h w rfl
section
variable {α:Type} [DecidableEq α]
theorem Qo {fuel:Nat} {st:List α×List Nat} {q:α} (hq:q∉st.1) (hf:st.1.length≠fuel):uP fuel st q=some (st.1++ [q],st.2++ [st.1.length]):=by unfold uP;rw[if_pos (List.idxOf_eq_length hq),if_neg hf]
theorem Mp {fuel:Nat} {st:List α×List Nat} {q:α} (hq:q∉st.1) (hf:st.1.length=fuel):uP fuel st q=none:=by unfold uP;rw[if_pos (List.idxOf_eq_length hq),if_pos hf]
theorem Qp {fuel:Nat} {st:List α×List Nat} {q:α} (hq:q∈st.1):uP fuel st q=some (st.1,st.2++ [st.1.idxOf q]):=by unfold uP;rw[if_neg (Nat.ne_of_lt (List.idxOf_lt_length_of_mem hq))]
end
end
section
open Go Go.RowKit Go.Shelf Go.Maps
attribute [local go_sem] encS
def jh (lo:Nat) (v:Value) (n:Nat) (us:List Value) (x:Value):ij.App:=⟨39,1,v,n,us,1,lo,fun ns _=>ns=[x],fun _ _ _ _ h=>h⟩
def mkApp (lo:Nat) (v:Value) (n:Nat) (us:List Value) (ml:Nat) (mx:List Value):ij.App:=⟨39,1,v,n,us,1,lo,fun ns W=>∃ u,ns=[u]/\u.oneCell'=true/\W.ownsRow lo 3 1 u ml mx,fun _ _ _ hk ⟨u,h1,h2,h3⟩=>⟨u,h1,h2,aj h3 hk fun x hx=>h3.lt x hx⟩⟩
theorem bw.more {base:Nat} {W:World} {v:Value} {ll:List (List Int)} {l:List Int} {us:List Value} {u:Value} {n:Nat} (h1:us.length=ll.length) (hn:us.length=n) (ho:W.ownsRow base 39 1 v (n+1) (us++ [u])) (h3:∀ (i:Nat) (u:Value) (l:List Int),us[i]? =some u->ll[i]? =some l->W.ownsRow base 3 1 u l.length (l.map aM)) (hu:W.ownsRow base 3 1 u l.length (l.map aM)):bw base W v (ll++ [l]):=by
 subst hn;refine⟨us++ [u],by simp[h1],by simpa using ho,fun i x y hx hy=>?_⟩;by_cases hi:i<us.length
 ·rw[bK hi]at hx
  rw[bK (by omega)]at hy;exact h3 i x y hx hy
 ·have gJ:=(List.getElem?_eq_some_iff.1 hx).1
  simp at gJ;obtain rfl:i=us.length:=by omega
  simp at hx;subst hx;rw[h1]at hy;simp at hy;subst hy;exact hu
end
section
open Go Go.RowKit
/-! The reference: distances. -/
def ab8 (d:DF) (far:List Int) (s k:Nat):List Int:=if far.getD (en d s k) 0+1<far.getD s 0 then far.set s (far.getD (en d s k) 0+1)else far
def agE (d:DF):List Int:=(List.range d.nx.length).map fun s=>if acc d s then 0 else(d.nx.length:Int)
def Er (d:DF) (far:List Int) (s:Nat):Nat->List Int
 | 0=>far
 | k+1=>ab8 d (Er d far s k) s k
def Es (d:DF) (far:List Int):Nat->List Int
 | 0=>far
 | s+1=>Er d (Es d far s) s d.cl.length
def WD (d:DF):Nat->List Int
 | 0=>agE d
 | r+1=>Es d (WD d r) d.nx.length
def ab9 (d:DF):List Int:=WD d d.nx.length
def WE (d:DF) (s:Nat):Int:=(ab9 d).getD s 0
def Yz (d:DF) (s c:Nat):Bool:=WE d (en d s (cls d.cl c))==WE d s-1
def Wk (d:DF) (s:Nat):Nat:=((List.range 256).find? (Yz d s)).getD 0
theorem kz {d:DF} (h:Rt d) {k:Nat} (hk:k<d.cl.length):lb d.cl k<256/\cls d.cl (lb d.cl k)=k/\∀ c,c<256->cls d.cl c=k->lb d.cl k<=c:=by
 have e:=h.cl;have tI:k<(partsOf d.cl).length:=by rw[e];exact hk
 have h1:=aW (l:=partsOf d.cl) 0 tI;obtain⟨_,h2,h3,h4⟩:=et (iz d.cl (aw h1));rw[e]at h1 h2 h3 h4;refine⟨h2,(h.part.iJ h2).2 ⟨_,h1,h3⟩,fun c hc Yx=>?_⟩;obtain⟨q,hq,hb⟩:=(h.part.iJ hc).1 Yx;rw[h1]at hq;cases hq;show(aT _).1<=c;by_cases hlt:c<(aT (d.cl.getD k 0)).1
 ·have:=h4 c hlt;rw[this]at hb;cases hb
 ·omega
theorem Bq {d:DF} (h:Rt d) {i j:Nat} (mF:i<j) (hj:j<d.cl.length):lb d.cl i<lb d.cl j:=by have:=pI d.cl (i:=i) (j:=j) (x:=d.cl.getD i 0) (y:=d.cl.getD j 0) (by rw[h.cl];exact aW _ (by omega)) (by rw[h.cl];exact aW _ (by omega)) mF;exact this
/-! The program: breadth first. -/
structure Bst where
 todo:List Nat
 keys:List Nat
 fr:List Int
 TQ:List Nat
structure BOk (d:DF) (x:Nat) (st:Bst):Prop where
 keys:st.keys.length=st.todo.length
 fr:st.fr.length=d.nx.length
 TQ:st.TQ.length=d.nx.length
 head:st.todo[0]? =some 0
 root:st.fr.getD 0 0= -1
 nodup:st.todo.Nodup
 lt:∀ t∈st.todo,t<d.nx.length
 mem:∀ t,t<d.nx.length->(st.fr.getD t 0≠0↔t∈st.todo)
 par:∀ j t,0<j->st.todo[j]? =some t->∃ y s,st.keys[j]? =some y/\y<x/\y/d.cl.length<j/\st.todo[y/d.cl.length]? =some s/\en d s (y%d.cl.length)=t/\st.fr.getD t 0=s+1/\st.TQ.getD t 0=lb d.cl (y%d.cl.length)
 mono:∀ i j y z,0<i->i<j->st.keys[i]? =some y->st.keys[j]? =some z->y<z
 done:∀ y s,y<x->st.todo[y/d.cl.length]? =some s->∃ j:Nat,st.todo[j]? =some (en d s (y%d.cl.length))/\(j=0\/∃ z,st.keys[j]? =some z/\z<=y)
theorem lj:∀ (n:Nat) (l:List Nat),l.Nodup->(∀ t∈l,t<n)->l.length<=n
 | 0,l,_,h=>by
  cases l with
  | nil=>simp
  | cons x r=>have:=h x (by simp);omega
 | n+1,l,hd,h=>by
  have h1:=lj n (l.erase n) (hd.erase n) (fun t ht=>by
   have h2:=(hd.mem_erase_iff).1 ht;have:=h t h2.2;have:=h2.1
   omega)
  by_cases hm:n∈l
  ·rw[List.length_erase_of_mem hm]at h1;omega
  ·rw[List.erase_of_not_mem hm]at h1;omega
structure aca (d:DF) (st:Bst) (m i:Nat) (q:Nat->Nat):Prop where
 zero:q 0=0
 last:q m=i
 step:∀ l,l<m->q l<q (l+1)/\∃ y,st.keys[q (l+1)]? =some y/\y/d.cl.length=q l
section
variable {d:DF} (h:Rt d) {i:Nat} {st:Bst} (I:BOk d (i*d.cl.length) st) (hi:i<st.todo.length) (ha:∀ (j t:Nat),j<i→st.todo[j]? =some t→acc d t=false) {m:Nat} {q:Nat→Nat} (c:aca d st m i q)
include h I c hi
include ha
variable {s:Nat} (hs:st.todo[i]? =some s) (agG:acc d s=true)
include hs agG
end
end
section
open Go Go.ChangeShapes Go.WideShapes Go.ChangeAt Go.RowKit Go.Deep
section
variable {H:Type} {enc:TypeId×Value→H} {W:World}
theorem zP {P:Program} {ts:List TypeId} {ds:List (DataW H)} (h:(DataW.weightsEach P ts ds).all (· <=reachBytes)=true) {j:Nat} {t:TypeId} {d:DataW H} (ht:ts[j]? =some t) (hd:ds[j]? =some d):∀ n∈d.weights P t,n<=reachBytes:=fun n hn=>by
 simpa using List.all_eq_true.1 h _ (DataW.weights_mem_each ht hd n hn)
theorem pL {P:Program} {e:TypeId} :∀ {l:List (DataW H)} {d:DataW H},d∈l->∀ n∈d.weights P e,n∈DataW.weightsAll P e l
 | x::l,d,h,n,hn=>by
  simp only[DataW.weightsAll,List.mem_append];rcases List.mem_cons.1 h with rfl | h
  ·exact .inl hn
  ·exact .inr (pL h n hn)
end
end
section
open Go Go.RowKit Go.Shelf Go.Maps
attribute [local go_sem] encS
theorem js {P:Program} {l:List Oper} {ops:Array Oper} {Q:Exit->Act->World->Prop} {a:Act} {w:World} (h:∀ W,W=w->wpList P ops Q l a W):wpList P ops Q l a w:=h w rfl
end
section
open Go Go.RowKit Go.Shelf Go.Maps
theorem pK.step {u v v':Value} {N:Nat} (h:pK u v) (ho:v'.ownBlock=v.ownBlock\/∀ x,v'.ownBlock=some x->N<=x) (hu:∀ b,u.ownBlock=some b->b<N):pK u v':=by
 rcases h with h | h
 ·exact .inl h
 ·by_cases e:u.ownBlock=none
  ·exact .inl e
  ·right
   intro e2;rcases ho with h2 | h2
   ·exact h (by rw[e2,h2])
   ·cases hb:u.ownBlock with
    | none=>exact e hb
    | some b=>have h3:=hu b hb;have h4:=h2 b (by rw[<-e2,hb]);omega
def RowsIn (W:World) (base:Nat) (us:List Value) (ll:List (List Int)):Prop:=∀ (i:Nat) (u:Value) (l:List Int),us[i]? =some u->ll[i]? =some l->W.ownsRow base 3 1 u l.length (l.map aM)
theorem RowsIn.keeps {W W':World} {base:Nat} {us:List Value} {ll:List (List Int)} (h:RowsIn W base us ll) {R:Nat->Prop} (hk:ae R W W') (hr:∀ u x,u∈us->u.ownBlock=some x->x<W.heap.size->R x):RowsIn W' base us ll:=fun i u l hu hl=>
 aj (h i u l hu hl) hk fun x hx=>hr u x (aw hu) hx ((h i u l hu hl).lt x hx).2
theorem RowsIn.lt {W:World} {base n:Nat} {us:List Value} {ll:List (List Int)} (h:RowsIn W base us ll) (h1:us.length=n) (h2:ll.length=n) {u:Value} (hu:u∈us):∀ b,u.ownBlock=some b->base<=b/\b<W.heap.size:=fun b e=>by
 obtain⟨i,hi⟩:=List.getElem?_of_mem hu;have gJ:=(List.getElem?_eq_some_iff.1 hi).1;exact(h i u _ hi (az (by omega))).lt b e
theorem RowsIn.ll {W:World} {base n:Nat} {us:List Value} {ll:List (List Int)} {v:Value} (h:RowsIn W base us ll) (h1:us.length=n) (h2:ll.length=n) (ho:W.ownsRow base 39 1 v n us):bw base W v ll:=⟨us,by omega,by rw[h1];exact ho,h⟩
theorem RowsIn.below {W W':World} {base:Nat} {us:List Value} {ll:List (List Int)} (h:RowsIn W base us ll) (hk:aa W W'):RowsIn W' base us ll:=fun i u l hu hl=>ak (h i u l hu hl) hk
theorem bN.form {base:Nat} {w:World} {v:Value} {d:DF} (h:bN base w v d):∃ a0 c0 a1 c1 a2 c2,v=.agg #[.slice a0 d.cl.length c0,.slice a1 d.nx.length c1,.slice a2 d.mr.length c2]:=by obtain⟨v0,v1,v2,rfl,h0,h1,h2⟩:=h;obtain⟨a0,c0,rfl⟩:=ownsRow_form h0;obtain⟨a1,c1,rfl⟩:=h1.form;obtain⟨a2,c2,rfl⟩:=h2.form;exact⟨_,_,_,_,_,_,rfl⟩
theorem cy {w:World} {b base size n:Nat} {c:Array Value} {t e:TypeId} {v:Value} {xs:List Value} (h:ar w b c t) (ho:w.ownsRow base e size v n xs) (hne:t≠e):∀ x,v.ownBlock=some x->x≠b:=fun x hx e2=>by
 subst e2;rcases ho.2 with⟨h1,_⟩ | ⟨g',c',cur,h1,_,h3,_⟩
 ·rw[h1]at hx;cases hx
 ·subst h1
  have hg:g'=x:=by simpa[Value.ownBlock]using hx
  subst hg;have h4:w.heap[g']? =some (.cells c t (0,0)):=h;rw[h3]at h4;injection h4 with h4
  injection h4 with _ h5 _
  exact hne h5.symm
attribute [local go_sem] encS
def aX.uQ (lo:Nat) (cs:Array Value) (t:TypeId):aX (Move false (fun _=>False)) where
 P:=fun v=>∃ b,v=.pointer (some ⟨b,0,none⟩)
 H:=fun v W=>∀ b,v=.pointer (some ⟨b,0,none⟩)->ar W b cs t/\lo<=b
 ot:=.pointer (some ⟨0,0,none⟩)
 pw:=⟨_,rfl⟩
 st:=fun _ _ _ hm _ h b e=>⟨(h b e).1.below hm.below (h b e).1.lt,(h b e).2⟩
end
section
open Go Go.RowKit Go.Shelf Go.Maps
structure NF where
 aN:List BS
 cK:List (List Int)
 fst:List Int
 cW:List Int
 emp:Bool
def kA (low:Int) (l:List Int) (k:Nat):Int:=if k=0 then low-1 else l.getD (k-1) 0
def gU (low high:Int) (l:List Int) (k:Nat):Bool:=decide (kA low l k<l.getD k 0)&&decide (l.getD k 0<=high)
def dV (low high:Int) (l:List Int):Bool:=(List.range l.length).all (gU low high l)
theorem Ih {low:Int} {l:List Int} {k:Nat} {x:Int} (hx:l[k]? =some x):kA low l (k+1)=x:=by unfold kA;rw[if_neg (by omega),Nat.add_sub_cancel];exact getD_some hx
theorem sT {low high:Int} {l:List Int} {k:Nat} {x:Int} (hx:l[k]? =some x):gU low high l k=(decide (kA low l k<x)&&decide (x<=high)):=by unfold gU;rw[getD_some hx]
theorem Ks {low high:Int} {l:List Int} {k:Nat} (hk:k<l.length) (h:gU low high l k=false):dV low high l=false:=by unfold dV;rw[List.all_eq_false];exact⟨k,List.mem_range.2 hk,by rw[h];decide⟩
theorem Et {low high:Int} {l:List Int} (h:∀ k,k<l.length->gU low high l k=true):dV low high l=true:=by unfold dV;rw[List.all_eq_true];exact fun k hk=>h k (List.mem_range.1 hk)
theorem Br {low high:Int} {l:List Int} (h:dV low high l=true) {k:Nat} (hk:k<l.length):gU low high l k=true:=by unfold dV at h;rw[List.all_eq_true]at h;exact h k (List.mem_range.2 hk)
def Ii (low n:Int) (l:List Int) (k:Nat):Bool:=decide (low<=l.getD k 0)&&decide (l.getD k 0<n)&&(decide (k=0) || decide (l.getD (k-1) 0<l.getD k 0))
theorem aeL (low n:Int) (l:List Int):((List.range l.length).all (Ii low n l))=dV low (n-1) l:=by
 rw[Bool.eq_iff_iff];unfold dV;rw[List.all_eq_true,List.all_eq_true];constructor
 ·intro h k hk
  have h1:=h k hk;unfold Ii at h1;unfold gU kA;simp only[Bool.and_eq_true,Bool.or_eq_true,decide_eq_true_eq]at h1 ⊢;obtain⟨⟨a,b⟩,c⟩:=h1;refine⟨?_,by omega⟩;split
  ·omega
  ·rcases c with c | c
   ·omega
   ·exact c
 ·intro h
  have YA:∀ k,k<l.length->low<=l.getD k 0:=by
   intro k;induction k with
   | zero=>
    intro hk;have h1:=h 0 (List.mem_range.2 hk);unfold gU kA at h1;simp only[Bool.and_eq_true,decide_eq_true_eq,if_true]at h1;omega
   | succ k ih=>
    intro hk;have h1:=h (k+1) (List.mem_range.2 hk);have h2:=ih (by omega);unfold gU kA at h1;simp only[Bool.and_eq_true,decide_eq_true_eq]at h1;rw[if_neg (by omega),Nat.add_sub_cancel]at h1;omega
  intro k hk;have h1:=h k hk;have h2:=YA k (List.mem_range.1 hk);unfold gU kA at h1;unfold Ii;simp only[Bool.and_eq_true,Bool.or_eq_true,decide_eq_true_eq]at h1 ⊢;refine⟨⟨h2,by omega⟩,?_⟩;by_cases h0:k=0
  ·exact .inl h0
  ·rw[if_neg h0]at h1
   exact .inr h1.1
theorem dW {low high:Int} {l:List Int} (h:dV low high l=true):l.Pairwise (· < ·)/\∀ x∈l,low<=x/\x<=high:=by
 have hs:∀ k,k+1<l.length->l.getD k 0<l.getD (k+1) 0:=fun k hk=>by
  have h1:=Br h hk;unfold gU kA at h1;simp only[Bool.and_eq_true,decide_eq_true_eq]at h1;rw[if_neg (by omega),Nat.add_sub_cancel]at h1;exact h1.1
 have hm:∀ i j,i<j->j<l.length->l.getD i 0<l.getD j 0:=by
  intro i j mF;induction j with
  | zero=>omega
  | succ j ih=>
   intro hj;rcases Nat.lt_or_ge i j with h1 | h1
   ·have:=ih h1 (by omega);have:=hs j hj;omega
   ·obtain rfl:i=j:=by omega
    exact hs i hj
 refine⟨?_,fun x hx=>?_⟩
 ·rw[List.pairwise_iff_getElem]
  intro i j hi hj mF;have:=hm i j mF hj;simpa[bu,az hi,az hj]using this
 ·obtain⟨k,hk⟩:=List.getElem?_of_mem hx
  have AZ:=(List.getElem?_eq_some_iff.1 hk).1;have h1:=Br h AZ;rw[sT hk]at h1;simp only[Bool.and_eq_true,decide_eq_true_eq]at h1;refine⟨?_,h1.2⟩;have h0:=Br h (show 0<l.length by omega);unfold gU kA at h0;simp only[Bool.and_eq_true,decide_eq_true_eq,if_true]at h0;have e:l.getD k 0=x:=getD_some hk;rcases Nat.eq_zero_or_pos k with h2 | h2
  ·subst h2;omega
  ·have:=hm 0 k h2 AZ;omega
theorem oF {low high:Int} {l:List Int} (h:l.Pairwise (· < ·)) (hb:∀ x∈l,low<=x/\x<=high):dV low high l=true:=by
 refine Et fun k hk=>?_
 have hx:=az hk;rw[sT hx];have h1:=hb _ (List.getElem_mem hk);simp only[Bool.and_eq_true,decide_eq_true_eq];refine⟨?_,h1.2⟩;unfold kA;split
 ·omega
 ·rename_i h0
  have h2:=List.pairwise_iff_getElem.1 h (k-1) k (by omega) hk (by omega);rw[bu,az (show k-1<l.length by omega)];exact h2
def NF.right (a:NF):Bool:=decide (a.aN.length<=400)&&decide (a.cK.length=a.aN.length)&&dV 0 ((a.aN.length:Int)-1) a.fst&&dV 0 ((a.aN.length:Int)-1) a.cW&&(List.range a.aN.length).all fun p=>dV 0 ((a.aN.length:Int)-1) (a.cK.getD p [])&&(a.aN.getD p 0 != 0)
structure Nt (a:NF):Prop where
 le:a.aN.length<=400
 cK:a.cK.length=a.aN.length
 fst:dV 0 ((a.aN.length:Int)-1) a.fst=true
 cW:dV 0 ((a.aN.length:Int)-1) a.cW=true
 row:∀ p,p<a.aN.length->dV 0 ((a.aN.length:Int)-1) (a.cK.getD p [])=true
 ne:∀ p,p<a.aN.length->a.aN.getD p 0≠0
theorem eW (a:NF):a.right=true↔Nt a:=by
 unfold NF.right;simp only[Bool.and_eq_true,decide_eq_true_eq,List.all_eq_true,List.mem_range,bne_iff_ne];constructor
 ·rintro⟨⟨⟨⟨h1,h2⟩,h3⟩,h4⟩,h5⟩
  exact⟨h1,h2,h3,h4,fun p hp=>(h5 p hp).1,fun p hp=>(h5 p hp).2⟩
 ·rintro⟨h1,h2,h3,h4,h5,h6⟩
  exact⟨⟨⟨⟨h1,h2⟩,h3⟩,h4⟩,fun p hp=>⟨h5 p hp,h6 p hp⟩⟩
def NF.st (a:NF) (l:List Int):Bool:=dV (-1) ((a.aN.length:Int)-1) l
def NF.qi (a:NF) (p:Int):List Int:=if p= -1 then a.fst else a.cK.getD p.toNat []
def NF.hit (a:NF) (l:List Int) (c q:Nat):Bool:=l.any fun p=>(a.qi p).contains (q:Int)&&(a.aN.getD q 0).getLsbD c
def NF.step (a:NF) (l:List Int) (c:Nat):List Int:=((List.range a.aN.length).filter (a.hit l c)).map Int.ofNat
def NF.UO (a:NF) (p:Int):Bool:=if p= -1 then a.emp else a.cW.contains p
def NF.acc (a:NF) (l:List Int):Bool:=l.any a.UO
theorem nK (n:Nat) (f:Nat->Bool):(((List.range n).filter f).map Int.ofNat).Pairwise (· < ·):=by rw[List.pairwise_map];exact(List.pairwise_lt_range.filter _).imp fun h=>Int.ofNat_lt.2 h
theorem NF.Qq (a:NF) (l:List Int) (c:Nat):dV 0 ((a.aN.length:Int)-1) (a.step l c)=true:=by
 refine oF (nK _ _) fun x hx=>?_
 obtain⟨q,hq,rfl⟩:=List.mem_map.1 hx;have:=List.mem_range.1 (List.mem_filter.1 hq).1;show(0:Int)<=(q:Int)/\(q:Int)<=_;omega
theorem Mq {high:Int} {l:List Int} (hh: -1<=high) (h:dV 0 high l=true):dV (-1) high (-1::l)=true:=by
 obtain⟨h1,h2⟩:=dW h;refine oF (List.pairwise_cons.2 ⟨fun x hx=>?_,h1⟩) fun x hx=>?_
 ·have:=h2 x hx;omega
 ·rcases List.mem_cons.1 hx with rfl | hx
  ·omega
  ·have:=h2 x hx;omega
theorem Qr {low low' high:Int} {l:List Int} (hh:low'<=low) (h:dV low high l=true):dV low' high l=true:=by obtain⟨h1,h2⟩:=dW h;exact oF h1 fun x hx=>by have:=h2 x hx;omega
structure PT where
 nf:NF
 zQ:Bool
 mark:Int
def PT.ok (x:PT):Bool:=x.nf.right&&decide (0<=x.mark)&&decide (x.mark<=255)
def PT.step (x:PT) (l:List Int) (c:Nat):List Int:=if x.zQ then x.nf.step l c else-1::x.nf.step l c
def eX (ps:List PT) (row:List (List Int)) (c:Nat):List (List Int):=List.zipWith (fun x l=>x.step l c) ps row
def dP (ps:List PT) (row:List (List Int)):List Int:=((List.range 256).filter fun (m:Nat)=>(List.zip ps row).any fun y=>y.1.nf.acc y.2&&(y.1.mark==(m:Int))).map Int.ofNat
def lS (ps:List PT):List (List Int):=ps.map fun _=>[-1]
def cH (ps:List PT):List BS:=ps.flatMap fun x=>x.nf.aN
def sU (ps:List PT) (fuel:Nat):Option (List (List (List Int))×List (List Nat)):=
 if fuel=0 then none else jq fuel (fun row k=>eX ps row (lb (partsOf (cH ps)) k)) (partsOf (cH ps)).length (lS ps) fuel
def lp (ps:List PT) (fuel:Int):DF×Int:=
 if 64<ps.length then(⟨[],[],[]⟩,5)else if(ps.all PT.ok)=false then(⟨[],[],[]⟩,180)else if fuel<0\/4000<fuel then(⟨[],[],[]⟩,2)else
 match sU ps fuel.toNat with
 | none=>(⟨[],[],[]⟩,181)
 | some st=>(⟨partsOf (cH ps),st.2.map fun r=>r.map Int.ofNat,st.1.map (dP ps)⟩,0)
def pM (ps:List PT) (row:List (List Int)):Prop:=row.length=ps.length/\∀ (i:Nat) (x:PT) (l:List Int),ps[i]? =some x->row[i]? =some l->x.nf.st l=true
theorem Bt (ps:List PT):pM ps (lS ps):=by refine⟨by simp[lS],fun i x l hx hl=>?_⟩;unfold lS at hl;rw[aO,hx]at hl;cases hl;unfold NF.st;exact oF (by simp) fun y hy=>by simp at hy;omega
theorem rM {ps:List PT} {row:List (List Int)} (h:pM ps row) (c:Nat):pM ps (eX ps row c):=by
 refine⟨by simp[eX,h.1],fun i x l hx hl=>?_⟩;have hi:=(List.getElem?_eq_some_iff.1 hx).1;unfold eX at hl;rw[List.getElem?_zipWith,hx,az (by rw[h.1];exact hi)]at hl;cases hl;unfold PT.step NF.st;have hr:=x.nf.Qq (row[i]'(by rw[h.1];exact hi)) c;split
 ·exact Qr (by omega) hr
 ·exact Mq (by omega) hr
theorem Ij (ps:List PT) (row:List (List Int)):rG (dP ps row)=true:=by
 have h:dV 0 255 (dP ps row)=true:=by
  refine oF (nK _ _) fun x hx=>?_
  obtain⟨q,hq,rfl⟩:=List.mem_map.1 hx;have:=List.mem_range.1 (List.mem_filter.1 hq).1;show(0:Int)<=(q:Int)/\(q:Int)<=_;omega
 have e:rG (dP ps row)=dV 0 255 (dP ps row):=rfl;rw[e];exact h
theorem YC {b o j:Nat} {vs:List Value} {w:World} (h:∀ k,k<vs.length->(w.cell? ⟨b,o+k,none⟩).isSome=true) (hj:j<vs.length):(w.setCells b o vs).cell? ⟨b,o+j,none⟩=vs[j]? :=by rw[World.cell?_setCells_in b vs o w h j hj,az hj]
section
variable {g i n:Nat} {l:List Int} {z:Int} {w0:World}
end
end
end Go.Proofs.YtjgccapbphadjaaGreatDoor
namespace Go.Proofs
open Go.Shelf
def Tryz.Mr:Go.Shelf.Ren:=⟨fun | 189=>214 | 125=>75 | 257=>242 | 128=>134 | 129=>135 | 294=>250 | 295=>251 | 296=>252 | 297=>253 | 298=>254 | 299=>255 | 216=>256 | 300=>257 | 301=>258 | 328=>263 | 329=>179 | 330=>180 | 331=>264 | 332=>265 | 215=>266 | 343=>271 | n=>n,fun | 28=>39 | 3=>3 | 46=>122 | 0=>0 | 51=>221 | 53=>54 | 4=>4 | 183=>214 | 182=>213 | 131=>218 | 5=>5 | 9=>9 | 218=>272 | 222=>276 | 228=>302 | 229=>303 | n=>n,fun | n=>n⟩
theorem Tryz.WG:Go.Proofs.Lays.n189 Tryz.prog Tryz.Mr:= {
 mixed:=by kernel_rfl
 f125:=Tryz.func75.trans (congrArg some (by kernel_rfl))
 f128:=Tryz.func134.trans (congrArg some (by kernel_rfl))
 f129:=Tryz.func135.trans (congrArg some (by kernel_rfl))
 f189:=Tryz.func214.trans (congrArg some (by kernel_rfl))
 f215:=Tryz.func266.trans (congrArg some (by kernel_rfl))
 f216:=Tryz.func256.trans (congrArg some (by kernel_rfl))
 f257:=Tryz.func242.trans (congrArg some (by kernel_rfl))
 f294:=Tryz.func250.trans (congrArg some (by kernel_rfl))
 f295:=Tryz.func251.trans (congrArg some (by kernel_rfl))
 f296:=Tryz.func252.trans (congrArg some (by kernel_rfl))
 f297:=Tryz.func253.trans (congrArg some (by kernel_rfl))
 f298:=Tryz.func254.trans (congrArg some (by kernel_rfl))
 f299:=Tryz.func255.trans (congrArg some (by kernel_rfl))
 f300:=Tryz.func257.trans (congrArg some (by kernel_rfl))
 f301:=Tryz.func258.trans (congrArg some (by kernel_rfl))
 f328:=Tryz.func263.trans (congrArg some (by kernel_rfl))
 f329:=Tryz.func179.trans (congrArg some (by kernel_rfl))
 f330:=Tryz.func180.trans (congrArg some (by kernel_rfl))
 f331:=Tryz.func264.trans (congrArg some (by kernel_rfl))
 f332:=Tryz.func265.trans (congrArg some (by kernel_rfl))
 f343:=Tryz.func271.trans (congrArg some (by kernel_rfl))
 t0:=Tryz.underlying0
 a0:=Tryz.isAgg0
 z0:=Tryz.sizeOf0
 v0:=Tryz.zeroValue0
 t3:=Tryz.underlying3
 a3:=Tryz.isAgg3
 z3:=Tryz.sizeOf3
 v3:=Tryz.zeroValue3
 t4:=Tryz.underlying4
 a4:=Tryz.isAgg4
 z4:=Tryz.sizeOf4
 v4:=Tryz.zeroValue4
 t5:=Tryz.underlying5
 a5:=Tryz.isAgg5
 z5:=Tryz.sizeOf5
 v5:=Tryz.zeroValue5
 t9:=Tryz.underlying9
 a9:=Tryz.isAgg9
 z9:=Tryz.sizeOf9
 v9:=Tryz.zeroValue9
 t28:=Tryz.underlying39
 a28:=Tryz.isAgg39
 z28:=Tryz.sizeOf39
 v28:=Tryz.zeroValue39
 t46:=Tryz.underlying122
 a46:=Tryz.isAgg122
 z46:=Tryz.sizeOf122
 v46:=Tryz.zeroValue122
 t51:=Tryz.underlying221
 a51:=Tryz.isAgg221
 z51:=Tryz.sizeOf221
 v51:=Tryz.zeroValue221
 t53:=Tryz.underlying54
 a53:=Tryz.isAgg54
 z53:=Tryz.sizeOf54
 v53:=Tryz.zeroValue54
 t131:=Tryz.underlying218
 a131:=Tryz.isAgg218
 z131:=Tryz.sizeOf218
 v131:=Tryz.zeroValue218
 t182:=Tryz.underlying213
 a182:=Tryz.isAgg213
 z182:=Tryz.sizeOf213
 v182:=Tryz.zeroValue213
 t183:=Tryz.underlying214
 a183:=Tryz.isAgg214
 z183:=Tryz.sizeOf214
 v183:=Tryz.zeroValue214
 t218:=Tryz.underlying272
 a218:=Tryz.isAgg272
 z218:=Tryz.sizeOf272
 v218:=Tryz.zeroValue272
 t222:=Tryz.underlying276
 a222:=Tryz.isAgg276
 z222:=Tryz.sizeOf276
 v222:=Tryz.zeroValue276
 t228:=Tryz.underlying302
 a228:=Tryz.isAgg302
 z228:=Tryz.sizeOf302
 v228:=Tryz.zeroValue302
 t229:=Tryz.underlying303
 a229:=Tryz.isAgg303
 z229:=Tryz.sizeOf303
 v229:=Tryz.zeroValue303}
def Tryz.Bu:Go.Shelf.Ren:=⟨fun | 20=>215 | n=>n,fun | 22=>39 | 3=>3 | 4=>4 | 0=>0 | n=>n,fun | n=>n⟩
theorem Tryz.Eu:Go.Proofs.Lays2.n20 Tryz.prog Tryz.Bu:= {
 mixed:=by kernel_rfl
 f20:=Tryz.func215.trans (congrArg some (by kernel_rfl))
 t0:=Tryz.underlying0
 a0:=Tryz.isAgg0
 z0:=Tryz.sizeOf0
 v0:=Tryz.zeroValue0
 t3:=Tryz.underlying3
 a3:=Tryz.isAgg3
 z3:=Tryz.sizeOf3
 v3:=Tryz.zeroValue3
 t4:=Tryz.underlying4
 a4:=Tryz.isAgg4
 z4:=Tryz.sizeOf4
 v4:=Tryz.zeroValue4
 t22:=Tryz.underlying39
 a22:=Tryz.isAgg39
 z22:=Tryz.sizeOf39
 v22:=Tryz.zeroValue39
 i3:=by kernel_rfl}
end Go.Proofs
namespace Go.Proofs.YtjgccapbphadjaaGreatDoor
section
open Go Go.RowKit Go.Shelf Go.Maps
theorem Ik (R:Nat->Prop) (w:World) (os:Array Obj) (hR:∀ k,R k->k<w.heap.size):ae R w (Sort.grow w os) where
 os:=rfl
 tape:=rfl
 output:=rfl
 size:=by unfold Sort.grow;simp
 keep:=fun k hk=>by unfold Sort.grow;exact Array.getElem?_append_left (hR k hk)
theorem pN {base g n cap:Nat} {xs ys:List Value} {w:World} (h:w.ownsRow base 3 1 (.slice (some ⟨g,0,none⟩) n cap) n xs) (hy:ys.length=n): (w.setCells g 0 ys).ownsRow base 3 1 (.slice (some ⟨g,0,none⟩) n cap) n ys/\ae (· ≠g) w (w.setCells g 0 ys):=by
 obtain⟨zs,h1,h2⟩:=kZ 0 ys 0 w xs (aG _) h;have hl:zs.length=n:=by have:=h1.1;omega
 have hx:xs.length=n:=by have:=h.1;omega
 have:zs=ys:=by
  apply List.ext_getElem?;intro j;by_cases hj:j<n
  ·have e1:=h1.cellAt j (by omega)
   have e2:=YC (b:=g) (o:=0) (j:=j) (vs:=ys) (w:=w) (fun k hk=>by
    rw[h.cellAt _ (by omega),az (by omega)];rfl) (by omega)
   rw[Nat.zero_add]at e2;exact e1.symm.trans e2
  ·rw[aS (by omega),aS (by omega)]
 rw[this]at h1;exact⟨h1,h2⟩
theorem Ev {base g n cap m:Nat} {xs:List Value} {w:World} (h:w.ownsRow base 3 1 (.slice (some ⟨g,0,none⟩) n cap) n xs) (hm:m<=n): w.ownsRow base 3 1 (.slice (some ⟨g,0,none⟩) m cap) m (xs.take m):=by
 have hl:=h.1;refine⟨by rw[List.length_take];omega,?_⟩;rcases h.2 with⟨hv,_⟩ | ⟨g',cap',cur,hv,h1,h2,h3,h4,h5,h6⟩
 ·cases hv
 ·cases hv
  exact .inr ⟨g,cap,cur,rfl,h1,h2,by omega,h4,h5,by rw[<-h6,List.take_take];congr 1;omega⟩
def fF (l:List Int):List Int:=l.mergeSort fun x y=>decide (x<=y)
theorem lq (l:List Int):(fF l).length=l.length:=by unfold fF;exact List.length_mergeSort _
theorem Ms {base g n cap:Nat} {l:List Int} {w:World} (h:w.ownsRow base 3 1 (.slice (some ⟨g,0,none⟩) n cap) n (l.map aM)):Sort.Holds (Value.int .i64) w g 0 l.toArray:=by
 intro j hj;have hl:l.length=n:=by have:=h.1;simpa using this
 have hj':j<l.length:=by simpa using hj
 refine⟨?_,h.frozenAt _⟩;rw[Nat.zero_add,h.cellAt j (by omega),aO,az hj',Array.getElem!_eq_getD];simp[aM,hj']
theorem Mt (base:Nat) (v:Value) (n:Nat) (l:List Int) (w:World) (ho:w.ownsRow base 3 1 v n (l.map aM)) (hn:n<=1000000): ah 214 #[v] w fun e w'=>e=.returned (.tuple #[])/\w'.ownsRow base 3 1 v n ((fF l).map aM)/\ae (fun x=>x<w.heap.size/\v.ownBlock≠some x) w w':=by
 have hl:l.length=n:=by have:=ho.1;simpa using this
 rcases ho.2 with⟨rfl,rfl⟩ | ⟨g,cap,cur,rfl,hbg,hg,_⟩
 ·have hl0:l=[]:=List.eq_nil_of_length_eq_zero hl
  subst hl0;exact(Any.slices_Sort_int_none Tryz.WG none 0 w).mono fun e w' ⟨he,hw⟩=>⟨he,by rw[hw,show fF []=[] from List.eq_nil_of_length_eq_zero (lq _)];exact ho,by rw[hw];exact ae.refl _ _⟩
 ·have hH:=Ms ho
  have hblk:ar w g cur 3:=hg;have:=Any.slices_Sort_int Tryz.WG g 0 cap l w hH hblk.lt (by omega);rw[hl]at this;refine this.mono fun e w' ⟨he,q,os,hw⟩=>⟨he,?_⟩
  have e1:=Lib.putRow_eq_setCells (Value.int .i64) w g 0 l.toArray (fF l) q hH (by rw[lq];simp);have hw':w'=Sort.grow ((w.drewN q).setCells g 0 ((fF l).map (Value.int .i64))) os:=by rw[hw, <-e1];rfl
  have hd:(w.drewN q).ownsRow base 3 1 (.slice (some ⟨g,0,none⟩) n cap) n (l.map aM):=ho;obtain⟨a1,a2⟩:=pN hd (ys:=(fF l).map aM) (by rw[aQ,lq];exact hl);have YD:ae (· ≠g) w (w.drewN q):=⟨rfl,rfl,rfl,aG _,fun _ _=>rfl⟩;have hk:=YD.tr a2;rw[hw'];have hgk:∀ R:Nat->Prop,(∀ k,R k->k<((w.drewN q).setCells g 0 ((fF l).map (Value.int .i64))).heap.size)->ae R ((w.drewN q).setCells g 0 ((fF l).map (Value.int .i64))) (Sort.grow ((w.drewN q).setCells g 0 ((fF l).map (Value.int .i64))) os):=fun R hR=>Ik R _ os hR
  refine⟨aj a1 (hgk (· <_) fun _ h=>h) (fun k e=>(a1.lt k e).2),?_⟩;exact(hk.mono fun x hx e=>hx.2 (by rw[e];rfl)).tr (hgk _ fun x hx=>aD hx.1 hk.size)
/-! A list, sorted and compacted. -/
theorem Bv (l:List Int):(fF l).Pairwise (· <= ·):=by have:=List.pairwise_mergeSort (le:=fun x y:Int=>decide (x<=y)) (fun a b c h1 h2=>by simp at*;omega) (fun a b=>by simp;omega) l;exact this.imp fun h=>by simpa using h
theorem Mu {l:List Int} {x:Int} :x∈fF l↔x∈l:=(List.mergeSort_perm _ _).mem_iff
theorem gV (l:List Int) {i:Nat} (hi:i<l.length):l.toArray[i]! =l[i]:=by simp[hi]
theorem Ew {l:List Int} {x:Int} :x∈Lib.compact l↔x∈l:=by
 unfold Lib.compact Lib.compactUpTo;simp only[List.mem_map,List.mem_filter,List.mem_range];constructor
 ·rintro⟨i,⟨hi,_⟩,rfl⟩
  rw[gV l hi];exact List.getElem_mem _
 ·intro hx
  obtain⟨i,hi,rfl⟩:=List.getElem_of_mem hx;suffices ∀ i,(hi:i<l.length)->∃ j,(j<l.length/\Lib.keeps l.toArray j=true)/\l.toArray[j]! =l[i] from this i hi;intro i;induction i with
  | zero=>intro hi;exact⟨0,⟨hi,by simp[Lib.keeps]⟩,gV l hi⟩
  | succ i ih=>
   intro hi;by_cases h:l.toArray[i+1]! =l.toArray[i]!
   ·obtain⟨j,h1,h2⟩:=ih (by omega)
    refine⟨j,h1,?_⟩;rw[gV l hi,gV l (by omega)]at h;rw[h2,h]
   ·exact⟨i+1,⟨hi,by simp only[Lib.keeps,decide_eq_true_eq];exact .inr (by simpa using h)⟩,gV l hi⟩
theorem wB {l:List Int} (h:l.Pairwise (· <= ·)):(Lib.compact l).Pairwise (· < ·):=by
 unfold Lib.compact Lib.compactUpTo;rw[List.pairwise_map];have hr:((List.range l.length).filter (Lib.keeps l.toArray)).Pairwise (· < ·):=List.pairwise_lt_range.filter _;refine List.Pairwise.imp_of_mem (fun {i j} hi hj mF=>?_) hr;rw[List.mem_filter,List.mem_range]at hi hj;have hk:=hj.2;simp only[Lib.keeps,decide_eq_true_eq]at hk;rcases hk with hk | hk
 ·omega
 ·have h1:=List.pairwise_iff_getElem.1 h
  rw[gV l hj.1,gV l (by omega)]at hk;rw[gV l hi.1,gV l hj.1];have h2:=h1 (j-1) j (by omega) hj.1 (by omega);by_cases e:i=j-1
  ·subst e;omega
  ·have h3:=h1 i (j-1) hi.1 (by omega) (by omega)
   omega
theorem Bw {gn:List Nat} {n:Nat} (h:∀ k∈gn,k<n):Lib.compact (fF (gn.map Int.ofNat))=((List.range n).filter fun k=>gn.contains k).map Int.ofNat:=by
 obtain⟨C,hC⟩:=ag (Lib.compact (fF (gn.map Int.ofNat)));have hs:C.Pairwise (· < ·):=by rw[hC];exact wB (Bv _)
 have hm:∀ x,x∈C↔ ∃ k∈gn,(k:Int)=x:=fun x=>by
  rw[hC,Ew,Mu,List.mem_map];rfl
 rw[<-hC];have hp:∀ x∈C,0<=x:=fun x hx=>by obtain⟨k,_,rfl⟩:=(hm x).1 hx;omega
 have e1:(C.map Int.toNat).map Int.ofNat=C:=by rw[List.map_map];exact(List.map_congr_left fun x hx=>Int.toNat_of_nonneg (hp x hx)).trans (List.map_id _)
 rw[<-e1];congr 1;refine vZ _ _ ?_ (List.pairwise_lt_range.filter _) fun k=>?_
 ·rw[List.pairwise_map]
  exact List.Pairwise.imp_of_mem (fun {a b} ha hb hab=>by have:=hp a ha;have:=hp b hb;omega) hs
 ·rw[List.mem_filter,List.mem_range,List.contains_iff_mem,List.mem_map]
  constructor
  ·rintro⟨x,hx,rfl⟩
   obtain⟨k,hk,rfl⟩:=(hm x).1 hx;exact⟨h k hk,hk⟩
  ·rintro⟨_,hk⟩
   exact⟨k,(hm _).2 ⟨k,hk,rfl⟩,Int.toNat_natCast k⟩
section
variable {p:List BS} {R:Nat→Nat→Prop} (hp:bX p R)
include hp
end
def gW (ps:List PT) (row:List (List Int)):List Int:=(List.zip ps row).filterMap fun y=>if y.1.nf.acc y.2 then some y.1.mark else none
theorem lT {ps:List PT} {row:List (List Int)} {m:Int} :m∈gW ps row↔ ∃ y∈List.zip ps row,y.1.nf.acc y.2=true/\y.1.mark=m:=by
 unfold gW;rw[List.mem_filterMap];constructor
 ·rintro⟨y,hy,h⟩
  split at h
  ·rename_i ha
   exact⟨y,hy,ha,Option.some.inj h⟩
  ·cases h
 ·rintro⟨y,hy,ha,rfl⟩
  exact⟨y,hy,by rw[if_pos ha]⟩
theorem yV {ps:List PT} {row:List (List Int)} (h:∀ x∈ps,0<=x.mark/\x.mark<=255):Lib.compact (fF (gW ps row))=dP ps row:=by
 have hm:∀ m∈gW ps row,0<=m/\m<=255:=fun m hm=>by
  obtain⟨y,hy,_,rfl⟩:=lT.1 hm;exact h _ (List.of_mem_zip (a:=y.1) (b:=y.2) hy).1
 have e:gW ps row=((gW ps row).map Int.toNat).map Int.ofNat:=by rw[List.map_map];exact((List.map_congr_left fun x hx=>Int.toNat_of_nonneg (hm x hx).1).trans (List.map_id _)).symm
 rw[e,Bw (n:=256) (fun k hk=>by
  obtain⟨x,hx,rfl⟩:=List.mem_map.1 hk;have:=hm x hx
  omega)]
 unfold dP;congr 1;refine List.filter_congr fun m _=>?_
 rw[Bool.eq_iff_iff,List.contains_iff_mem,List.mem_map,List.any_eq_true];constructor
 ·rintro⟨x,hx,rfl⟩
  obtain⟨y,hy,ha,rfl⟩:=lT.1 hx;refine⟨y,hy,?_⟩;have:=hm _ hx;simp only[Bool.and_eq_true,beq_iff_eq];exact⟨ha,by omega⟩
 ·rintro⟨y,hy,h1⟩
  simp only[Bool.and_eq_true,beq_iff_eq]at h1;exact⟨y.1.mark,lT.2 ⟨y,hy,h1.1,rfl⟩,by omega⟩
attribute [local go_sem] encS
def rN (w:World) (v:Value) (ll:List (List Int)):Prop:=nG w v ll\/(ll=[]/\∃ a:Addr,v=.slice (some a) 0 0)
theorem rN.below {w w':World} {v:Value} {ll:List (List Int)} (h:rN w v ll) (hk:aa w w'):rN w' v ll:=h.imp (fun h=>h.below hk) id
theorem rN.form {w:World} {v:Value} {ll:List (List Int)} (h:rN w v ll):∃ a cap,v=.slice a ll.length cap:=by
 rcases h with h | ⟨rfl,a,rfl⟩
 ·exact h.form
 ·exact⟨_,_,rfl⟩
theorem rN.elem {w:World} {a:Option Addr} {n cap:Nat} {ll:List (List Int)} (h:rN w (.slice a n cap) ll) {i:Nat} {l:List Int} (hi:ll[i]? =some l): ∃ b off a' c',a=some ⟨b,off,none⟩/\b<w.heap.size/\w.cell? ⟨b,off+i,none⟩=some (.slice a' l.length c')/\jO aM w (.slice a' l.length c') l:=by
 rcases h with h | ⟨rfl,_⟩
 ·exact h.elem hi
 ·simp at hi
end
section
open Go Go.RowKit Go.Shelf Go.Maps
theorem tZ (v:Value) (l:List Int) (low high:Int) (am1:low=0\/low= -1) (w:World) (h:bQ aM w v l) (hn:l.length<=1000000): ah 166 #[v,.int .i64 low,.int .i64 high] w fun e w'=>e=.returned (.bool (dV low high l))/\w'=w:=by
 obtain⟨a,cap,rfl⟩:=h.form;obtain⟨n,jB⟩:=ag l.length;obtain⟨r,hr⟩:=ag (dV low high l);rw[<-jB]at h hn ⊢;rw[<-hr];have H:=hid h;have HN:=hid jB;have HR:=hid hr;have w0:IntKind.i64.wrap (low-1)=low-1:=IntWalk.i64_in _ (by omega);clear h jB hr;go_enter Tryz.func166,Tryz.ntmps166;go_wp2;clear w0;go_loopw [7,14] (fun lv iv wr=>∃ k:Nat,k<=n/\iv=.int .i64 k/\lv=.int .i64 (kA low l k)/\(∀ i,i<k->gU low high l i=true)/\wr=w) (fun _ iv _=>n-(intOf iv).toNat);case atStart=>exact⟨0,by omega,rfl,by simp[kA],fun i hi=>by omega,rfl⟩
 case round=>
  obtain⟨k,hk,rfl,rfl,ha,rfl⟩:=hrel;have HA:=hid ha;clear ha;obtain⟨q,hq⟩:=ag (kA low l k);rw[<-hq];have HQ:=hid hq;clear hq;by_cases hlt:k<n
  ·obtain⟨x,zI⟩:∃ x,l[k]? =some x:=⟨_,az (by have:=HN.out;omega)⟩
   obtain⟨g,off,rfl,hg,c1⟩:=H.elem zI;replace c1:wr.cell? ⟨g,off+k,none⟩=some (.int .i64 x):=c1;have eE:(k:Int)<n:=by omega
   have Hz:=hid zI;have WA:Hid (gU low high l k=(decide (q<x)&&decide (x<=high))):=hid (by rw[sT zI,HQ.out]);clear zI;by_cases h1:x<=q
   ·have d1:decide (x<=q)=true:=decide_eq_true h1
    have iH:=hid (HR.trans (Ks (by rw[<-HN.out];exact hlt) (by rw[WA.out,show decide (q<x)=false from decide_eq_false (by omega)];rfl)));go_wp2;go_ret;exact⟨by rw[iH.out];rfl,rfl⟩
   ·have d1:decide (x<=q)=false:=decide_eq_false h1
    by_cases h2:high<x
    ·have d2:decide (high<x)=true:=decide_eq_true h2
     have d3:decide (x>high)=true:=d2;have iH:=hid (HR.trans (Ks (by rw[<-HN.out];exact hlt) (by rw[WA.out,show decide (x<=high)=false from decide_eq_false (by omega)];simp)));go_wp2;go_ret;exact⟨by rw[iH.out];rfl,rfl⟩
    ·have d2:decide (high<x)=false:=decide_eq_false h2
     have d3:decide (x>high)=false:=d2;go_wp2
     exact⟨⟨k+1,by omega,by go_num,by rw[Ih Hz.out],fun i hi=>by
      rcases Nat.lt_or_ge i k with h3 | h3
      ·exact HA i h3
      ·obtain rfl:i=k:=by omega
       rw[WA.out];simp only[Bool.and_eq_true,decide_eq_true_eq]
       omega,by trivial⟩,by simp[intOf];omega⟩
  ·have tI:k=n:=by omega
   have iH:=hid (HR.trans (Et fun i hi=>HA i (by rw[tI,HN.out];exact hi)));have Il:¬ ((k:Int)<n):=by omega
   go_wp2;go_ret;exact⟨by rw[iH.out];rfl,rfl⟩
attribute [local go_sem] encS
def lx (w:World) (v:Value) (a:NF):Prop:=∃ v0 v1 v2 v3,v=.agg #[v0,v1,v2,v3,.bool a.emp]/\oB w v0 a.aN/\iZ w v1 a.cK/\bQ aM w v2 a.fst/\bQ aM w v3 a.cW
theorem lx.below {w w':World} {v:Value} {a:NF} (h:lx w v a) (hk:aa w w'):lx w' v a:=by obtain⟨v0,v1,v2,v3,e,h0,h1,h2,h3⟩:=h;exact⟨v0,v1,v2,v3,e,⟨h0.1.below hk,h0.2⟩,h1.below hk,h2.below hk,h3.below hk⟩
structure Qs (a:NF):Prop where
 aN:a.aN.length<=1000000
 cK:a.cK.length<=1000000
 fst:a.fst.length<=1000000
 cW:a.cW.length<=1000000
 row:∀ l∈a.cK,l.length<=1000000
theorem ar.five {w:World} {b:Nat} {x y z u t:Value} {ty:TypeId} (h:ar w b #[x,y,z,u,t] ty):w.cell? ⟨b,0,none⟩=some x/\w.cell? ⟨b,1,none⟩=some y/\w.cell? ⟨b,2,none⟩=some z/\w.cell? ⟨b,3,none⟩=some u/\w.cell? ⟨b,4,none⟩=some t:=
 ⟨h.cell 0,h.cell 1,h.cell 2,h.cell 3,h.cell 4⟩
theorem oG {a:NF} (h:400<a.aN.length\/a.cK.length≠a.aN.length\/dV 0 ((a.aN.length:Int)-1) a.fst=false\/dV 0 ((a.aN.length:Int)-1) a.cW=false):a.right=false:=by
 rw[Bool.eq_false_iff];intro hr;have h1:=(eW a).1 hr;rcases h with h | h | h | h
 ·have:=h1.le;omega
 ·exact h h1.cK
 ·rw[h1.fst]at h;cases h
 ·rw[h1.cW]at h;cases h
theorem wC {a:NF} {p:Nat} (hp:p<a.aN.length) (h:dV 0 ((a.aN.length:Int)-1) (a.cK.getD p [])=false\/a.aN.getD p 0=0):a.right=false:=by
 rw[Bool.eq_false_iff];intro hr;have h1:=(eW a).1 hr;rcases h with h | h
 ·rw[h1.row p hp]at h;cases h
 ·exact h1.ne p hp h
theorem Im {a:NF} (h1:a.aN.length<=400) (h2:a.cK.length=a.aN.length) (h3:dV 0 ((a.aN.length:Int)-1) a.fst=true) (h4:dV 0 ((a.aN.length:Int)-1) a.cW=true) (h5:∀ p,p<a.aN.length->dV 0 ((a.aN.length:Int)-1) (a.cK.getD p [])=true/\a.aN.getD p 0≠0):a.right=true:=(eW a).2 ⟨h1,h2,h3,h4,fun p hp=>(h5 p hp).1,fun p hp=>(h5 p hp).2⟩
theorem wD (v:Value) (a:NF) (w:World) (h:lx w v a) (sm:Qs a): ah 109 #[v] w fun e w'=>e=.returned (.bool a.right)/\aa w w':=by
 obtain⟨v0,v1,v2,v3,rfl,h0,h1,h2,h3⟩:=h;obtain⟨a0,c0,rfl⟩:=h0.1.form;obtain⟨a1,c1,rfl⟩:=h1.form;obtain⟨a2,c2,rfl⟩:=h2.form;obtain⟨a3,c3,rfl⟩:=h3.form;have CN:Hid (∀ (W:World) (v:Value) (l:List Int) (high:Int),bQ aM W v l->l.length<=1000000->ah 166 #[v,.int .i64 0,.int .i64 high] W fun e w'=>e=.returned (.bool (dV 0 high l))/\w'=W):=hid fun W v l high h hn=>tZ v l 0 high (.inl rfl) W h hn
 obtain⟨n0,dw⟩:=ag a.aN.length;obtain⟨n1,fH⟩:=ag a.cK.length;obtain⟨n2,jg⟩:=ag a.fst.length;obtain⟨n3,GV⟩:=ag a.cW.length;obtain⟨R,hR⟩:=ag a.right;have SM:=hid sm;have m0:n0<=1000000:=by rw[dw];exact sm.aN
 have m1:n1<=1000000:=by rw[fH];exact sm.cK
 rw[<-dw]at h0 ⊢;rw[<-fH]at h1 ⊢;rw[<-jg]at h2 ⊢;rw[<-GV]at h3 ⊢;rw[<-hR];have HR:=hid hR;have zM:=hid dw;have sH:=hid fH;have uN:=hid jg;have HN3:=hid GV;have H0:=hid h0;have H1:=hid h1;have H2:=hid h2;have H3:=hid h3;clear h0 h1 h2 h3 dw fH jg GV hR sm;by_cases g1:400<n0
 ·have RR:=hid (HR.trans (oG (.inl (by rw[<-zM.out];exact g1))))
  have g1i:(400:Int)<n0:=by omega
  go_enter Tryz.func109,Tryz.ntmps109
  go_wp2;go_ret;exact⟨by rw[RR.out];rfl,((Ext.refl _).alloc _).below⟩
 by_cases g2:n1≠n0
 ·have RR:=hid (HR.trans (oG (.inr (.inl (by rw[<-zM.out, <-sH.out];exact g2)))))
  have g1i:¬ ((400:Int)<n0):=by omega
  have g2i:((n1:Int) != (n0:Int))=true:=by rw[bne_iff_ne];omega
  go_enter Tryz.func109,Tryz.ntmps109
  go_wp2;go_ret;exact⟨by rw[RR.out];rfl,((Ext.refl _).alloc _).below⟩
 replace g2:n1=n0:=Decidable.not_not.1 g2;subst g2;have g1i:¬ ((400:Int)<n1):=by omega
 have wn:IntKind.i64.wrap ((n1:Int)-1)=(n1:Int)-1:=IntWalk.i64_in _ (by omega);go_enter Tryz.func109,Tryz.ntmps109;go_wp2_with fail
 refine aI ?_;intro V hV;have B1:Hid (ar V w.heap.size #[.slice a0 n1 c0,.slice a1 n1 c1,.slice a2 n2 c2,.slice a3 n3 c3,.bool a.emp] 118):=hid (by rw[hV];exact ar.new w _ _);have X1:Hid (aa w V):=hid (by rw[hV];exact((Ext.refl w).alloc _).below);clear hV;refine(CN V _ a.fst _ (H2.below X1) SM.fst).mono ?_;rintro e w1 ⟨rfl,hw⟩;replace hw:=hw.symm;subst hw;cases r1:dV 0 ((n1:Int)-1) a.fst
 ·have RR:=hid (HR.trans (oG (.inr (.inr (.inl (by rw[<-zM.out];exact r1))))))
  clear r1;go_wp2;go_ret;exact⟨by rw[RR.out];rfl,X1⟩
 have R1:=hid r1;clear r1;obtain⟨i0,i1,i2,i3,i4⟩:=B1.five;go_wp2_with fail
 clear i0 i1 i2 i3 i4;refine(CN V _ a.cW _ (H3.below X1) SM.cW).mono ?_;rintro e w2 ⟨rfl,hw⟩;replace hw:=hw.symm;subst hw;cases r2:dV 0 ((n1:Int)-1) a.cW
 ·have RR:=hid (HR.trans (oG (.inr (.inr (.inr (by rw[<-zM.out];exact r2))))))
  clear r2;go_wp2;go_ret;exact⟨by rw[RR.out];rfl,X1⟩
 have R2:=hid r2;clear r2;obtain⟨i0,i1,i2,i3,i4⟩:=B1.five;go_wp2;clear i0 i1 i2 i3 i4;go_loopw [37] (fun iv wr=>∃ k:Nat,k<=n1/\iv=.int .i64 k/\(∀ p,p<k->dV 0 ((n1:Int)-1) (a.cK.getD p [])=true/\a.aN.getD p 0≠0)/\wr=V) (fun iv _=>n1-(intOf iv).toNat);case atStart=>exact⟨0,by omega,rfl,fun p hp=>by omega,rfl⟩
 case round=>
  obtain⟨k,hk,rfl,ha,rfl⟩:=hrel;have HA:=hid ha;clear ha;by_cases hlt:k<n1
  ·have eE:(k:Int)<n1:=by omega
   obtain⟨l,hl⟩:∃ l,a.cK[k]? =some l:=⟨_,az (by have:=sH.out;omega)⟩;obtain⟨s,hs⟩:∃ s,a.aN[k]? =some s:=⟨_,az (by have:=zM.out;omega)⟩;obtain⟨b,off,a',c',rfl,hb,cl,j8⟩:=(H1.below X1).elem hl;have Ex:=hid j8;have HL:=hid hl;have HS:=hid hs;have Qt:l.length<=1000000:=SM.row l (aw hl);clear j8 hl hs;go_wp2_with fail
   clear cl;refine(CN wr _ l _ Ex Qt).mono ?_;rintro e w3 ⟨rfl,hw⟩;replace hw:=hw.symm;subst hw;cases r3:dV 0 ((n1:Int)-1) l
   ·have RR:=hid (HR.trans (wC (p:=k) (by rw[<-zM.out];exact hlt) (.inl (by rw[getD_some HL.out, <-zM.out];exact r3))))
    clear r3;go_wp2;go_ret;exact⟨by rw[RR.out];rfl,X1⟩
   have R3:=hid r3;clear r3;obtain⟨i0,i1,i2,i3,i4⟩:=B1.five;obtain⟨b2,fV,rfl,hb2,d0,d1,d2,d3⟩:=(H0.1.below X1).elem HS;by_cases hz:s=0#256
   ·have he:∀ W,(Op.equalIn 10000 56 (.agg #[.int .u64 (wd s 0).toNat,.int .u64 (wd s 1).toNat,.int .u64 (wd s 2).toNat,.int .u64 (wd s 3).toNat]) (.agg #[.int .u64 0,.int .u64 0,.int .u64 0,.int .u64 0])).run Tryz.prog W=.ok true W:=fun W=>by
     have h1:=iu s 0 W;rw[gh,hz]at h1;rw[hz];exact h1
    have RR:=hid (HR.trans (wC (p:=k) (by rw[<-zM.out];exact hlt) (.inr (by rw[getD_some HS.out];exact hz))));clear hz;go_wp2;go_ret;exact⟨by rw[RR.out];rfl,X1⟩
   ·have he:∀ W,(Op.equalIn 10000 56 (.agg #[.int .u64 (wd s 0).toNat,.int .u64 (wd s 1).toNat,.int .u64 (wd s 2).toNat,.int .u64 (wd s 3).toNat]) (.agg #[.int .u64 0,.int .u64 0,.int .u64 0,.int .u64 0])).run Tryz.prog W=.ok false W:=fun W=>by
     have h1:=iu s 0 W;rw[gh,show(s==0)=false from by simpa using hz]at h1;exact h1
    have HZ:=hid hz;clear hz;go_wp2
    exact⟨⟨k+1,by omega,by go_num,fun p hp=>by
     rcases Nat.lt_or_ge p k with h3 | h3
     ·exact HA p h3
     ·obtain rfl:p=k:=by omega
      rw[getD_some HL.out,getD_some HS.out]
      exact⟨R3,HZ⟩,by trivial⟩,by simp[intOf];omega⟩
  ·have tI:k=n1:=by omega
   have RR:=hid (HR.trans (Im (by rw[<-zM.out];omega) (by rw[<-zM.out, <-sH.out]) (by rw[<-zM.out];exact R1) (by rw[<-zM.out];exact R2) (by rw[<-zM.out];exact fun p hp=>HA p (by omega))));go_wp2;go_ret;exact⟨by rw[RR.out];rfl,X1⟩
end
section
open Go Go.RowKit Go.Shelf Go.Maps
attribute [local go_sem] encS
def aX.UQ (base n:Nat) (xs:List Value):aX (Move false (fun _=>False)) where
 P:=fun v=>∃ a c,v=.slice a n c
 H:=fun v W=>W.ownsRow base 3 1 v n xs
 ot:=.slice none n 0
 pw:=⟨none,0,rfl⟩
 st:=fun _ _ _ hm _ h=>ak h hm.below
theorem ar.acb {w:World} {b:Nat} {x y z u t x' y' z' u' t':Value} {ty:TypeId} (h:ar w b #[x,y,z,u,t] ty):ar (((((w.setCell ⟨b,0,none⟩ x').setCell ⟨b,1,none⟩ y').setCell ⟨b,2,none⟩ z').setCell ⟨b,3,none⟩ u').setCell ⟨b,4,none⟩ t') b #[x',y',z',u',t'] ty:=((((h.set 0 x').set 1 y').set 2 z').set 3 u').set 4 t'
theorem wE (W:World) (b:Nat) (x y z u t:Value):ae (· ≠b) W (((((W.setCell ⟨b,0,none⟩ x).setCell ⟨b,1,none⟩ y).setCell ⟨b,2,none⟩ z).setCell ⟨b,3,none⟩ u).setCell ⟨b,4,none⟩ t):=
 (((((ae.refl _ W).setCell (p:=⟨b,0,none⟩) (fun h=>h rfl) _).setCell (p:=⟨b,1,none⟩) (fun h=>h rfl) _).setCell (p:=⟨b,2,none⟩) (fun h=>h rfl) _).setCell (p:=⟨b,3,none⟩) (fun h=>h rfl) _).setCell (p:=⟨b,4,none⟩) (fun h=>h rfl) _
end
section
open Go Go.RowKit Go.Shelf Go.Maps
attribute [local go_sem] encS
def ik (base:Nat) (w:World) (v:Value) (a:NF):Prop:=∃ v0 v1 v2 v3,v=.agg #[v0,v1,v2,v3,.bool a.emp]/\w.ownsRow base 56 4 v0 a.aN.length (aP a.aN)/\bw base w v1 a.cK/\w.ownsRow base 3 1 v2 a.fst.length (a.fst.map aM)/\w.ownsRow base 3 1 v3 a.cW.length (a.cW.map aM)
theorem ik.nf {base:Nat} {w:World} {v:Value} {a:NF} (h:ik base w v a):lx w v a:=by obtain⟨v0,v1,v2,v3,e,h0,h1,h2,h3⟩:=h;exact⟨v0,v1,v2,v3,e,fK h0,h1.ll,cZ h2 rfl,cZ h3 rfl⟩
end
section
open Go Go.RowKit Go.Shelf Go.Maps
def NF.YE (a:NF) (l:List Int):Int:=if a.right=false then 171 else if a.st l=false then 172 else 0
theorem lx.Qu {w:World} {v:Value} {a:NF} (h:lx w v a):∃ a0 c0 a1 n1 c1 a2 n2 c2 a3 n3 c3,v=.agg #[.slice a0 a.aN.length c0,.slice a1 n1 c1,.slice a2 n2 c2,.slice a3 n3 c3,.bool a.emp]:=by obtain⟨v0,v1,v2,v3,rfl,h0,h1,h2,h3⟩:=h;obtain⟨a0,c0,rfl⟩:=h0.1.form;obtain⟨a1,c1,rfl⟩:=h1.form;obtain⟨a2,c2,rfl⟩:=h2.form;obtain⟨a3,c3,rfl⟩:=h3.form;exact⟨_,_,_,_,_,_,_,_,_,_,_,rfl⟩
theorem wF (v u:Value) (a:NF) (l:List Int) (w:World) (h:lx w v a) (sm:Qs a) (hu:bQ aM w u l) (hl:l.length<=1000000): ah 241 #[v,u] w fun e w'=>e=.returned (.int .i64 (a.YE l))/\aa w w':=by
 have CR:Hid (∀ W,aa w W->ah 109 #[v] W fun e w'=>e=.returned (.bool a.right)/\aa W w'):=hid fun W hW=>wD v a W (h.below hW) sm
 have CN:Hid (∀ W,aa w W->ah 166 #[u,.int .i64 (-1),.int .i64 ((a.aN.length:Int)-1)] W fun e w'=>e=.returned (.bool (a.st l))/\w'=W):=hid fun W hW=>tZ u l (-1) _ (.inr rfl) W (hu.below hW) hl
 have HS:=hid sm.aN;obtain⟨a0,c0,a1,n1,c1,a2,n2,c2,a3,n3,c3,rfl⟩:=h.Qu;obtain⟨ua,uc,rfl⟩:=hu.form;obtain⟨n0,dw⟩:=ag a.aN.length;obtain⟨m,hm⟩:=ag l.length;obtain⟨r1,hr1⟩:=ag a.right;obtain⟨r2,hr2⟩:=ag (a.st l);have hc:a.YE l=if r1=false then 171 else if r2=false then 172 else 0:=by unfold NF.YE;rw[hr1,hr2]
 rw[hc];rw[<-dw]at CR CN HS ⊢;rw[<-hm]at CN ⊢;rw[<-hr1]at CR;rw[<-hr2]at CN;have m0:n0<=1000000:=HS.out;have wn:IntKind.i64.wrap ((n0:Int)-1)=(n0:Int)-1:=IntWalk.i64_in _ (by omega);clear h hu hl sm dw hm hr1 hr2 hc HS;go_enter Tryz.func241,Tryz.ntmps241;go_wp2_with fail
 refine aI ?_;intro V hV;have B1:Hid (ar V w.heap.size #[.slice a0 n0 c0,.slice a1 n1 c1,.slice a2 n2 c2,.slice a3 n3 c3,.bool a.emp] 118):=hid (by rw[hV];exact ar.new w _ _);have X1:Hid (aa w V):=hid (by rw[hV];exact((Ext.refl w).alloc _).below);clear hV;refine(CR V X1).mono ?_;rintro e w1 ⟨rfl,hx⟩;have B2:=hid (B1.below hx B1.lt);have X2:=hid (X1.trans (hx.mono X1.size));clear hx B1 X1 CR;cases r1
 ·go_wp2
  go_ret;exact⟨rfl,X2⟩
 obtain⟨i0,i1,i2,i3,i4⟩:=B2.five;go_wp2_with fail
 refine(CN w1 X2).mono ?_;rintro e w2 ⟨rfl,hw⟩;replace hw:=hw.symm;subst hw;clear i0 i1 i2 i3 i4 CN;cases r2
 ·go_wp2
  go_ret;exact⟨rfl,X2⟩
 ·go_wp2
  go_ret;exact⟨rfl,X2⟩
def cJ (s:Nat->BitVec 64):Array Value:= #[.int .u64 (s 0).toNat,.int .u64 (s 1).toNat,.int .u64 (s 2).toNat,.int .u64 (s 3).toNat,.int .u64 (s 4).toNat,.int .u64 (s 5).toNat,.int .u64 (s 6).toNat]
theorem lz (s:Nat->BitVec 64) {i:Nat} (hi:i<7):(cJ s)[i]? =some (.int .u64 (s i).toNat):=by
 match i,hi with
 | 0,_=>rfl
 | 1,_=>rfl
 | 2,_=>rfl
 | 3,_=>rfl
 | 4,_=>rfl
 | 5,_=>rfl
 | 6,_=>rfl
def sV (s:Nat->BitVec 64) (p:Nat):Bool:=(s (p/64)).getLsbD (p%64)
theorem Qv (x:BitVec 64) (n:Nat):x.toNat/2^n%2=(x.getLsbD n).toNat:=by have h:x.getLsbD n=decide (x.toNat/2^n%2=1):=Nat.testBit_eq_decide_div_mod_eq;rw[h];rcases Nat.mod_two_eq_zero_or_one (x.toNat/2^n)with e | e<;>simp[e]
theorem zR (x:BitVec 64) (n:Nat):(bits .and .u64 ((x.toNat:Int)/2^n) 1==1)=x.getLsbD n:=by
 have h:((x.toNat:Int)/2^n)=((x.toNat/2^n:Nat):Int):=by simp
 rw[h,DW _ (Nat.lt_of_le_of_lt (Nat.div_le_self _ _) x.isLt),Qv];cases x.getLsbD n<;>rfl
theorem ud (s:Nat->BitVec 64) (b p:Nat) (hp:p<448) (w:World) (h:ar w b (cJ s) 179): ah 210 #[.pointer (some ⟨b,0,none⟩),.int .i64 p] w fun e w'=>e=.returned (.bool (sV s p))/\w'=w:=by
 obtain⟨q,hq⟩:=ag (p/64);obtain⟨r,hr⟩:=ag (p%64);have Qw:q<7:=by omega
 have Qx:r<64:=by omega
 have c1:w.cell? ⟨b,q,none⟩=some (.int .u64 (s q).toNat):=(h.cell q).trans (lz s Qw);have e1:(p:Int).tdiv 64=(q:Int):=by rw[Int.tdiv_eq_ediv_of_nonneg (by omega)];omega
 have e2:(p:Int).tmod 64=(r:Int):=by rw[Int.tmod_eq_emod_of_nonneg (by omega)];omega
 have w1:IntKind.i64.wrap (q:Int)=q:=IntWalk.i64_in _ (by omega);have w2:IntKind.i64.wrap (r:Int)=r:=IntWalk.i64_in _ (by omega);have q7i:(q:Int)<7:=by omega
 have r0i:¬ ((r:Int)<0):=by omega
 have j7:sV s p=(s q).getLsbD r:=by unfold sV;rw[<-hq, <-hr]
 rw[j7];clear j7 hq hr h;go_enter Tryz.func210,Tryz.ntmps210;go_wp2;go_ret;exact⟨congrArg (fun b=>Ending.returned (.bool b)) (zR (s q) r),rfl⟩
def jP (s:Nat->BitVec 64) (p:Nat):Nat->BitVec 64:=fun i=>if i=p/64 then s i ||| (1#64 <<< (p%64))else s i
theorem UR (s:Nat->BitVec 64) (p:Nat) {x:Nat} :sV (jP s p) x=(sV s x || (x==p)):=by
 unfold sV jP;by_cases h:x/64=p/64
 ·rw[if_pos h,BitVec.getLsbD_or]
  congr 1
  rw[BitVec.getLsbD_shiftLeft];have hx:x%64<64:=by omega
  by_cases e:x=p
  ·subst e;simp[hx]
  ·have h1:x%64≠p%64:=by omega
   rw[show(x==p)=false from by simpa using e];simp only[hx,decide_true,Bool.true_and];by_cases h2:x%64<p%64
   ·simp[h2]
   ·simp[h2,show x%64-p%64≠0 by omega]
 ·rw[if_neg h,show(x==p)=false from by rw[beq_eq_false_iff_ne];intro e;subst e;exact h rfl,Bool.or_false]
theorem Qy (s:Nat->BitVec 64) {p:Nat} (hp:p<448):(cJ s).setIfInBounds (p/64) (.int .u64 (s (p/64) ||| (1#64 <<< (p%64))).toNat)=cJ (jP s p):=by
 obtain⟨q,hq⟩:=ag (p/64);have h7:q<7:=by omega
 unfold jP;rw[<-hq];match q,h7 with
 | 0,_=>rfl
 | 1,_=>rfl
 | 2,_=>rfl
 | 3,_=>rfl
 | 4,_=>rfl
 | 5,_=>rfl
 | 6,_=>rfl
theorem Io (n:Nat):(1#64 <<< n)=BitVec.twoPow 64 n:=rfl
theorem nL (s:Nat->BitVec 64) (b p:Nat) (hp:p<448) (w:World) (h:ar w b (cJ s) 179): ah 201 #[.pointer (some ⟨b,0,none⟩),.int .i64 p] w fun e w'=>(∃ u,e=.returned u)/\ar w' b (cJ (jP s p)) 179/\ae (fun x=>x<w.heap.size/\x≠b) w w':=by
 have hput:=Qy s hp;obtain⟨q,hq⟩:=ag (p/64);obtain⟨r,hr⟩:=ag (p%64);have Qw:q<7:=by omega
 have Qx:r<64:=by omega
 have c1:w.cell? ⟨b,q,none⟩=some (.int .u64 (s q).toNat):=(h.cell q).trans (lz s Qw);have z1:w.frozen? ⟨b,q,none⟩=false:=h.frozen q;have e1:(p:Int).tdiv 64=(q:Int):=by rw[Int.tdiv_eq_ediv_of_nonneg (by omega)];omega
 have e2:(p:Int).tmod 64=(r:Int):=by rw[Int.tmod_eq_emod_of_nonneg (by omega)];omega
 have w1:IntKind.i64.wrap (q:Int)=q:=IntWalk.i64_in _ (by omega);have w2:IntKind.i64.wrap (r:Int)=r:=IntWalk.i64_in _ (by omega);have q7i:(q:Int)<7:=by omega
 have r0i:¬ ((r:Int)<0):=by omega
 have q0i:¬ ((q:Int)<0):=by omega
 rw[<-hq, <-hr]at hput;rw[Io]at hput;have kK:=Hn (s q) Qx;have HP:=hid hput;have H:=hid h;clear hq hr h hput;go_enter Tryz.func201,Tryz.ntmps201;go_wp2;refine aL false (fun _=>False) (by kernel_rfl) 11 [0,0,2,1,15,31,0,64,192,511,1,2047,4095] (fun i=>i==12) (by kernel_rfl) (fun _=>aX.any _) ?_;intro C hC hne;have HC:=hid hC;have hbl:=H.lt;have f1:=aC hC (p:=⟨b,q,none⟩) hbl (fun h=>h) c1;clear hC c1
 repeat (refine au (fun K hK=>?_);first | (refine cg rfl ?_;try go_simp;refine hK _ _ ?_;clear hK K) | (refine bV rfl rfl ?_;unfold aF;go_simp;refine hK _ _ ?_;clear hK K))
 refine bM (fun W hW hH=>?_);have hM:=((HC W).1 hW);have HB:=hid (H.below hM.below H.lt);have HX:=hid hM.below;have c2:W.cell? ⟨b,q,none⟩=some (.int .u64 (s q).toNat):=(HB.cell q).trans (lz s Qw);have z2:W.frozen? ⟨b,q,none⟩=false:=HB.frozen q;clear hM hW hH HC hne f1 z1;go_wp2;have hval:((s q).toNat ||| 2^r%18446744073709551616)=(s q ||| BitVec.twoPow 64 r).toNat:=by rw[BitVec.toNat_or,BitVec.toNat_twoPow]
 refine bodyPost_end (v:=.tuple #[]) (by simp[results,Tryz.results201,go_sem]) rfl ⟨⟨_,rfl⟩,?_,?_⟩
 ·rw[hval]
  have hb:=HB.set q (.int .u64 (s q ||| BitVec.twoPow 64 r).toNat);rw[HP.out]at hb;exact hb
 ·exact(ae.ai HX fun _ hx=>hx.1:ae (fun x=>x<w.heap.size/\x≠b) w W).setCell (p:=⟨b,q,none⟩) (fun h=>h.2 rfl) _
attribute [local go_sem] cJ
def setW (l:List Nat):Nat->BitVec 64:=l.foldl jP fun _=>0
theorem sW (l:List Nat) (p:Nat):setW (l++ [p])=jP (setW l) p:=by unfold setW;rw[List.foldl_append];rfl
theorem Kt (l:List Nat) (x:Nat):sV (setW l) x=l.contains x:=by
 have h:∀ (l:List Nat) (s:Nat->BitVec 64),sV (l.foldl jP s) x=(sV s x || l.contains x):=by
  intro l;induction l with
  | nil=>intro s;simp
  | cons p l ih=>
   intro s;rw[List.foldl_cons,ih,UR,List.contains_cons,Bool.or_assoc]
 unfold setW;rw[h];simp[sV]
theorem Ey (v:Value) (l:List Nat) (w:World) (h:bQ (fun p:Nat=>.int .i64 p) w v l) (hl:∀ p∈l,p<448) (hn:l.length<=1000000): ah 229 #[v] w fun e w'=>e=.returned (.agg (cJ (setW l)))/\aa w w':=by
 obtain⟨a,cap,rfl⟩:=h.form;obtain⟨n,jB⟩:=ag l.length;rw[<-jB]at h hn ⊢;have H:=hid h;have HN:=hid jB;have HL:=hid hl;clear h jB hl;go_enter Tryz.func229,Tryz.ntmps229;go_wp2;refine aA ?_;intro V hV;have B1:Hid (ar V w.heap.size (cJ fun _=>0) 179):=hid (by rw[hV];exact(ar.new w _ _).alloc _);have B2:Hid (ar V (w.heap.size+1) (cJ fun _=>0) 179):=hid (by rw[hV];exact(ar.new _ _ _).at (by simp));have X1:Hid (aa w V):=hid (by rw[hV];exact(((Ext.refl w).alloc _).alloc _).below);clear hV;go_loopw [8] (fun iv wr=>∃ k:Nat,k<=n/\iv=.int .i64 k/\ar wr (w.heap.size+1) (cJ (setW (l.take k))) 179/\ae (fun x=>x<V.heap.size/\x≠w.heap.size+1) V wr) (fun iv _=>n-(intOf iv).toNat);case atStart=>exact⟨0,by omega,rfl,B2,ae.refl _ _⟩
 case round=>
  obtain⟨k,hk,rfl,hb,hx⟩:=hrel;have HB:=hid hb;have HX:=hid hx;have XX:Hid (aa w wr):=hid (X1.trans (hx.mono fun x yX=>⟨aD yX X1.size,by have:x<w.heap.size:=yX;omega⟩:ae (· <w.heap.size) V wr).below);clear hb hx;by_cases hlt:k<n
  ·obtain⟨p,hp⟩:∃ p,l[k]? =some p:=⟨_,az (by have:=HN.out;omega)⟩
   obtain⟨g,off,rfl,hg,c1⟩:=(H.below XX).elem hp;replace c1:wr.cell? ⟨g,off+k,none⟩=some (.int .i64 p):=c1;have eE:(k:Int)<n:=by omega
   have HP:=hid hp;have hp4:=HL.out p (aw hp);clear hp;go_wp2_with fail
   clear c1;refine(nL _ _ p hp4 wr HB).mono ?_;rintro e w2 ⟨⟨u,rfl⟩,hb2,hx2⟩;have iQ:=hid hb2;have gF:=hid (HX.trans hx2 fun x yX=>⟨aD yX.1 HX.size,yX.2⟩);clear hb2 hx2;go_wp2;exact⟨⟨k+1,by omega,by go_num,by rw[List.take_add_one,HP.out];show ar _ _ (cJ (setW (l.take k++ [p]))) _;rw[sW];exact iQ,gF⟩,by simp[intOf];omega⟩
  ·have tI:k=n:=by omega
   have Il:¬ ((k:Int)<n):=by omega
   have eT:l.take k=l:=by rw[tI,HN.out,List.take_length]
   rw[eT]at HB;obtain⟨S,hS⟩:=ag (setW l);rw[<-hS]at HB;have HS:=hid hS;have R0:=hid (B1.keeps HX ⟨B1.lt,by omega⟩);have c0:wr.cell? ⟨w.heap.size+1,0,none⟩=some (.int .u64 (S 0).toNat):=HB.cell 0;have r0:wr.cell? ⟨w.heap.size,0,none⟩=some (.int .u64 0):=R0.cell 0;have c1:wr.cell? ⟨w.heap.size+1,1,none⟩=some (.int .u64 (S 1).toNat):=HB.cell 1;have r1:wr.cell? ⟨w.heap.size,1,none⟩=some (.int .u64 0):=R0.cell 1;have c2:wr.cell? ⟨w.heap.size+1,2,none⟩=some (.int .u64 (S 2).toNat):=HB.cell 2;have r2:wr.cell? ⟨w.heap.size,2,none⟩=some (.int .u64 0):=R0.cell 2;have c3:wr.cell? ⟨w.heap.size+1,3,none⟩=some (.int .u64 (S 3).toNat):=HB.cell 3;have r3:wr.cell? ⟨w.heap.size,3,none⟩=some (.int .u64 0):=R0.cell 3;have c4:wr.cell? ⟨w.heap.size+1,4,none⟩=some (.int .u64 (S 4).toNat):=HB.cell 4;have r4:wr.cell? ⟨w.heap.size,4,none⟩=some (.int .u64 0):=R0.cell 4;have c5:wr.cell? ⟨w.heap.size+1,5,none⟩=some (.int .u64 (S 5).toNat):=HB.cell 5;have r5:wr.cell? ⟨w.heap.size,5,none⟩=some (.int .u64 0):=R0.cell 5;have c6:wr.cell? ⟨w.heap.size+1,6,none⟩=some (.int .u64 (S 6).toNat):=HB.cell 6;have r6:wr.cell? ⟨w.heap.size,6,none⟩=some (.int .u64 0):=R0.cell 6;have rf:=fun i=>R0.frozen i
   clear hS eT HL HN H;go_wp2;refine bodyPost_ret (v:=.agg (cJ S)) ?_ rfl ⟨by rw[HS.out];rfl,?_⟩
   ·simp[results,Tryz.results229,go_sem,r0,r1,r2,r3,r4,r5,r6]
   ·refine XX.trans (ae.below (((((((ae.refl (· <w.heap.size) _).setCell ?_ _).setCell ?_ _).setCell ?_ _).setCell ?_ _).setCell ?_ _).setCell ?_ _ |>.setCell ?_ _))<;>(intro h;simp at h)
end
section
open Go Go.RowKit Go.Shelf Go.Maps
theorem Bx (x:Int) (em:Bool) (s:Nat->BitVec 64) (B b:Nat) (W:World) (hB:W.cell? ⟨B,4,none⟩=some (.bool em)) (hb:ar W b (cJ s) 179) (hx:x= -1\/(0<=x/\x<448)): ah 230 #[.int .i64 x,.pointer (some ⟨B,0,none⟩),.pointer (some ⟨b,0,none⟩)] W fun e w'=>e=.returned (.bool (if x= -1 then em else sV s x.toNat))/\w'=W:=by
 by_cases h1:x= -1
 ·subst h1
  rw[if_pos rfl];cases em
  ·go_enter Tryz.func230,Tryz.ntmps230
   go_wp2;go_ret;exact⟨rfl,rfl⟩
  ·go_enter Tryz.func230,Tryz.ntmps230
   go_wp2;go_ret;exact⟨rfl,rfl⟩
 ·rw[if_neg h1]
  obtain⟨p,rfl⟩:∃ p:Nat,x=p:=⟨x.toNat,by omega⟩;have hp:p<448:=by omega
  have d1:((p:Int)== -1)=false:=by rw[beq_eq_false_iff_ne];omega
  have d2:((p:Int) != -1)=true:=by rw[bne_iff_ne];omega
  have CH:=hid (ud s b p hp W hb);rw[Int.toNat_natCast];clear h1 hx hb;go_enter Tryz.func230,Tryz.ntmps230;go_wp2_with fail
  refine CH.mono ?_;rintro e w2 ⟨rfl,hw⟩;replace hw:=hw.symm;subst hw;go_wp2;go_ret;exact⟨rfl,rfl⟩
theorem wG (g:Nat) (lb:Array Value) (f:Int->Bool) (v:Value) (l:List Int) (w:World) (h:bQ aM w v l) (hn:l.length<=1000000) (eg:∀ args w,(callFunc g args).run Tryz.prog w=.ok (.enter g args) w) (hf:∀ s∈l,∀ W,aa w W->ah g (#[.int .i64 s]++lb) W fun e w'=>e=.returned (.bool (f s))/\w'=W): ah 120 #[v,.func (.func g) #[] lb] w fun e w'=>e=.returned (.int .i64 (fU f l))/\w'=w:=by
 obtain⟨a,cap,rfl⟩:=h.form;obtain⟨n,jB⟩:=ag l.length;rw[<-jB]at h hn ⊢;have H:=hid h;have HN:=hid jB;have HF:=hid fun s hs=>hf s hs w (Below.refl _ _)
 obtain⟨r,hr⟩:=ag (fU f l);rw[<-hr];have HR:=hid hr;clear h jB hf hr;go_enter Tryz.func120,Tryz.ntmps120;go_wp2
 go_loop [8] (fun i=>∃ k:Nat,k<=n/\i=.int .i64 k/\(∀ s∈l.take k,f s=false)) (fun i=>n-(intOf i).toNat)
 case atStart=>exact⟨0,by omega,rfl,fun s hs=>by simp at hs⟩
 case round=>
  obtain⟨k,hk,rfl,ha⟩:=hrel;by_cases hlt:k<n
  ·obtain⟨s,hs⟩:∃ s,l[k]? =some s:=⟨_,az (by have:=HN.out;omega)⟩
   obtain⟨b,off,rfl,hb,d0⟩:=H.elem hs;have d0':w.cell? ⟨b,off+k,none⟩=some (.int .i64 s):=d0;have TN:=hid (HF.out s (aw hs));have HA:=hid ha;have HS:=hid hs;clear ha hs d0;obtain⟨b1,hb1⟩:=ag (f s);rw[<-hb1]at TN;have sN:=hid hb1;clear hb1;cases b1 with
   | true=>
    have iH:=hid (HR.trans (nH HS sN.symm HA));go_wp2;refine TN.mono ?_;rintro e w2 ⟨rfl,hw⟩;replace hw:=hw.symm;subst hw;go_wp2;go_ret;exact⟨by rw[iH.out];rfl,rfl⟩
   | false=>
    go_wp2;refine TN.mono ?_;rintro e w2 ⟨rfl,hw⟩;replace hw:=hw.symm;subst hw;go_wp2
    go_round
    case rel=>exact⟨k+1,by omega,by go_num,sR HS sN.symm HA⟩
    case measure=>simp[intOf];omega
  ·obtain rfl:k=n:=by omega
   have iH:=hid (HR.trans (nI fun y hy=>ha y (by rw[HN.out,List.take_length];exact hy)));clear ha;go_wp2;go_ret;exact⟨by rw[iH.out];rfl,rfl⟩
theorem rO (g:Nat) (lb:Array Value) (f:Int->Bool) (v:Value) (l:List Int) (w:World) (h:bQ aM w v l) (hn:l.length<=1000000) (eg:∀ args w,(callFunc g args).run Tryz.prog w=.ok (.enter g args) w) (hf:∀ s∈l,∀ W,aa w W->ah g (#[.int .i64 s]++lb) W fun e w'=>e=.returned (.bool (f s))/\w'=W): ah 65 #[v,.func (.func g) #[] lb] w fun e w'=>e=.returned (.bool (l.any f))/\w'=w:=by have HI:=hid (wG g lb f v l w h hn eg hf);rw[<-qh];obtain⟨a,cap,rfl⟩:=h.form;clear h hf eg;generalize fU f l=z at HI ⊢;go_enter Tryz.func65,Tryz.ntmps65;go_wp2_with (go_at_call 120;refine HI.mono ?_;rintro e w2 ⟨rfl,hw⟩;replace hw:=hw.symm;subst hw);go_ret;exact⟨rfl,rfl⟩
def dO (s:Nat->BitVec 64) (n:Nat):List Nat:=(List.range n).filter (sV s)
theorem sX (s:Nat->BitVec 64) (k:Nat):dO s (k+1)=dO s k++if sV s k then [k]else []:=by unfold dO;rw[List.range_succ,List.filter_append];by_cases h:sV s k=true<;>simp[h]
theorem ue (s:Nat->BitVec 64) {k n:Nat} (h:k<=n):dO s k<+:dO s n:=by
 induction n with
 | zero=>rw[show k=0 from by omega];exact List.prefix_rfl
 | succ n ih=>
  by_cases hk:k=n+1
  ·subst hk;exact List.prefix_rfl
  ·exact(ih (by omega)).trans (by rw[sX];exact List.prefix_append _ _)
theorem Ez (s:Nat->BitVec 64) (n:Nat):(dO s n).length<=n:=by unfold dO;exact Nat.le_trans (List.length_filter_le _ _) (by simp)
def NF.on (a:NF) (c q:Nat):Bool:=(a.aN.getD q 0).getLsbD c
def lU (a:NF) (c:Nat) (l:List Int):List Nat:=(l.map Int.toNat).filter (a.on c)
theorem zS (a:NF) (c:Nat) (l:List Int) (q:Int):lU a c (l++ [q])=lU a c l++if a.on c q.toNat then [q.toNat]else []:=by unfold lU;rw[List.map_append,List.filter_append];by_cases h:a.on c q.toNat=true<;>simp[h]
def fG (a:NF) (c:Nat) (l:List Int):List Nat:=l.flatMap fun p=>lU a c (a.qi p)
theorem Ip (a:NF) (c:Nat) (l:List Int) (p:Int):fG a c (l++ [p])=fG a c l++lU a c (a.qi p):=by unfold fG;rw[List.flatMap_append];simp
theorem Nt.Qz {a:NF} (h:Nt a) {l:List Int} (hl:a.st l=true) {p:Int} (hp:p∈l):dV 0 ((a.aN.length:Int)-1) (a.qi p)=true:=by
 have h1:=(dW hl).2 p hp;unfold NF.qi;split
 ·exact h.fst
 ·exact h.row _ (by omega)
theorem Mv {a:NF} (h:Nt a) {l:List Int} (hl:a.st l=true) (c:Nat):(dO (setW (fG a c l)) 448).map Int.ofNat=a.step l c:=by
 have j7:∀ q,sV (setW (fG a c l)) q=(decide (q<a.aN.length)&&a.hit l c q):=by
  intro q;rw[Kt,Bool.eq_iff_iff,List.contains_iff_mem,Bool.and_eq_true,decide_eq_true_eq];unfold fG NF.hit lU;rw[List.mem_flatMap,List.any_eq_true];constructor
  ·rintro⟨p,hp,hq⟩
   rw[List.mem_filter,List.mem_map]at hq;obtain⟨⟨x,hx,rfl⟩,hon⟩:=hq;have h2:=(dW (h.Qz hl hp)).2 x hx;refine⟨by omega,p,hp,?_⟩;rw[Bool.and_eq_true,List.contains_iff_mem,Int.toNat_of_nonneg h2.1];exact⟨hx,hon⟩
  ·rintro⟨hq,p,hp,h3⟩
   rw[Bool.and_eq_true,List.contains_iff_mem]at h3;exact⟨p,hp,List.mem_filter.2 ⟨List.mem_map.2 ⟨_,h3.1,by simp⟩,h3.2⟩⟩
 have hle:=h.le;unfold NF.step dO;congr 1;obtain⟨m,hm⟩:∃ m,448=a.aN.length+m:=⟨448-a.aN.length,by omega⟩;rw[hm,List.range_add,List.filter_append];have e2:(List.map (fun x=>a.aN.length+x) (List.range m)).filter (sV (setW (fG a c l)))=[]:=by rw[List.filter_eq_nil_iff];intro x hx;obtain⟨y,_,rfl⟩:=List.mem_map.1 hx;rw[j7,decide_eq_false (show ¬a.aN.length+y<a.aN.length by omega)];simp
 rw[e2,List.append_nil];refine List.filter_congr fun q hq=>?_
 rw[j7,decide_eq_true (List.mem_range.1 hq),Bool.true_and]
attribute [local go_sem] encS Oper.semAt_some gK dI
def wH (p:Nat):Value:=.int .i64 (p:Int)
theorem wI {d:Bool} {gf:Nat} {lb:Array Value} {R:Nat->Prop} (xs:List Nat) (w:World) (hseq:Seq d Tryz.prog gf lb (fun c:Nat=> #[.int .i64 (c:Int)]) R xs w) (eg:∀ args w,(callFunc gf args).run Tryz.prog w=.ok (.enter gf args) w) (hR:∀ k,R k->k<w.heap.size) (hn:xs.length<=1000000): ah 208 #[.slice none 0 0,.func (.func gf) #[] lb] w fun e w'=>∃ v,e=.returned v/\w'.ownsRow w.heap.size 3 1 v xs.length (xs.map wH)/\aa w w':=by
 obtain⟨i0,hi,hz0,hz1,hz2⟩:=info_parts Tryz.mH;refine cC Tryz.func208 rfl ?_;simp only[Tryz.ntmps208,List.size_toArray,List.length_cons,List.length_nil,Nat.reduceAdd,Nat.reduceSub,Array.replicate_succ,Array.replicate_zero,List.push_toArray,List.append_toArray,List.nil_append,List.cons_append];go_wp2;refine aA ?_;intro W0 hW0;have h1:ar W0 w.heap.size #[.slice none 0 0] 39:=by rw[hW0];exact ar.new _ _ _
 have hx:Ext w W0:=by rw[hW0];exact(Ext.refl w).alloc _
 have hsz:W0.heap.size=w.heap.size+1:=by rw[hW0];simp
 refine ir (w:=W0) (hseq.at hx.keeps) (by rfl) eg (by intro _;rfl) (by intro k hk;have:=hR k hk;omega)
  (fun xs T W=>∃ v,ar W w.heap.size #[v] 39/\W.ownsRow (w.heap.size+1) 3 1 v xs.length (xs.map wH)/\(∀ k,v.ownBlock=some k->¬T k)/\aa w W)
  (fun _ _ _ _=>False)
  ?_
  (fun c xs T T' W W' h=>h.elim)
  ⟨_,h1,World.ownsRow_nil _ _ _ _,fun _ _ h=>h,hx.below⟩
  (fun x=>⟨#[.slice none 0 0,.func (.func gf) #[] lb,.pointer (some ⟨w.heap.size,0,none⟩),undef,.slice none 0 0,.int .i64 (x:Int),.func (.func gf) #[] lb,.int .i64 (x:Int),undef,undef,undef,undef,undef],[]⟩) ?assign ?body ?done ?stop
 ·intro xs T T' W W' ⟨v,g1,g2,g3,g4⟩ hT PN hs hn hk
  refine⟨v,g1.mY hT hk (by omega),aj g2 hk.1 (fun k e=>⟨(g2.lt k e).2,g3 k e⟩),fun k e ht=>?_,iq g4 hT hk (aG _) (by omega)⟩;rcases hn k ht with h | h
  ·exact g3 k e h
  ·have:=(g2.lt k e).2;omega
 case assign=>
  intro l x W K hK
  gi_wp2
  exact hK
 case body=>
  rintro l pre x T W bS hT _ yG hl ⟨v,g1,g2,g3,g4⟩;have c1:W.cell? ⟨w.heap.size,0,none⟩=some v:=g1.cell 0;have f1:=g1.frozen 0;have hlen:pre.length<xs.length:=by obtain⟨r,hr⟩:=bS;rw[<-hr];simp
  have G1:=hid g1;have G3:=hid g3;have G4:=hid g4;have lN:=hid hsz;have HT:=hid hT;clear g1 g3 g4 hsz hW0 hT hl yG
  gi_wp2_with (gi_at_builtin;refine wpListIn_append_own_at _ rfl _ _ 39 rfl (w.heap.size+1) 3 i0 (.int .i64 0) 1 8 Tryz.underlying39 hi hz0 hz1 hz2 rfl (by decide) _ _ _ rfl (g2.alloc _) ⟨W.heap.size,0,none⟩ 1 1 [wH x] rfl rfl (cell_one_new _ _ _) (by simp[Value.oneCell',wH]) (by unfold maxLen;omega) (by omega) (by have h1:=G4.size;have h2:=lN.out;have h3:=G1.lt;simp;omega) ?_;intro v' w1 hown' hgrow hh hat;obtain⟨g',cap',rfl⟩:=ownsRow_succ hown';have hb1:=(G1.alloc (.cells #[.int .i64 (x:Int)] 3 (0,0))).grown hgrow (fun e=>by have:=(g2.lt _ e.symm).1;omega);have c2:=hb1.cell 0;have f2:=hb1.frozen 0;have HB:=hid hb1;have HO:=hid hown';have HG:=hid hgrow;have H2:=hid g2;have L9:=hid hat;clear hown' hgrow hb1 g2 hh hat)
  have hgT:¬T g':=fun ht=>by
   rcases L9.out with h | h
   ·exact G3 g' h.symm ht
   ·have h1:=(HT.out g' ht).2;simp[Value.ownBlock]at h;omega
  have Yh:∀ k,(R k\/T k)->k<W.heap.size/\some k≠v.ownBlock:=fun k hk=>by
   refine⟨?_,fun e=>?_⟩
   ·rcases hk with hk | hk
    ·have h1:=hR k hk;have h2:=G4.size;omega
    ·exact(HT k hk).2
   ·rcases hk with hk | hk
    ·have h1:=hR k hk;have h2:=(H2.lt k e.symm).1;omega
    ·exact G3 k e.symm hk
  have lM:ae (fun k=>R k\/T k) W w1:=(((ae.refl _ W).alloc (fun k hk=>(Yh k hk).1) _)).tr (ae.bB HG fun k hk=>⟨by have:=(Yh k hk).1;simp;omega,(Yh k hk).2⟩);have zD:∀ k,(R k\/T k)->k≠w.heap.size:=fun k hk=>by
   rcases hk with hk | hk
   ·have h1:=hR k hk;omega
   ·have h1:=(HT.out k hk).1;have h2:=lN.out;omega
  refine⟨lM.setCell (fun h=>zD _ h rfl) _,_,HB.set 0 _,?_,fun k e=>?_,?_⟩
  ·rw[aJ,List.map_append]
   exact aj HO ((ae.refl (fun k=>k≠w.heap.size) _).setCell (by simp) _) (fun k e=>by have:=(HO.lt k e).1;omega)
  ·simp[Value.ownBlock]at e;subst e;exact hgT
  ·exact((G4.alloc (by exact G4.size) _).grown HG (by have:=G4.size;simp;omega) (fun k e=>by have:=(H2.lt k e).1;omega)).setCell (aG _) _
 case done=>
  rintro D T W hD yJ hT ⟨v,g1,g2,g3,g4⟩ mO;have c1:W.cell? ⟨w.heap.size,0,none⟩=some v:=g1.cell 0;have G2:=hid g2;have G4:=hid g4;have HD:=hid hD;have lN:=hid hsz;have yx:=hid mO;clear g1 g2 g3 g4 hsz hW0 hT yJ mO hD;dsimp only;go_wp2;refine dz rfl yx (results_tmp rfl _ _ _) ⟨v,rfl,ownsRow_putObj (aH G2 (by omega)) _ yx rfl,((ae.ai G4 (fun _ h=>h)).putObj (by have:=HD.out;have:=lN.out;omega) _).below⟩
 case stop=>rintro D c pre T W _ _ _ _ h _;exact h.elim
theorem rP {d:Bool} {gf:Nat} {lb:Array Value} {R:Nat->Prop} (xs:List Nat) (w:World) (hseq:Seq d Tryz.prog gf lb (fun c:Nat=> #[.int .i64 (c:Int)]) R xs w) (eg:∀ args w,(callFunc gf args).run Tryz.prog w=.ok (.enter gf args) w) (hR:∀ k,R k->k<w.heap.size) (hn:xs.length<=1000000): ah 164 #[.func (.func gf) #[] lb] w fun e w'=>∃ v,e=.returned v/\w'.ownsRow w.heap.size 3 1 v xs.length (xs.map wH)/\aa w w':=by have H:=hid (wI xs w hseq eg hR hn);clear hseq eg;go_enter Tryz.func164,Tryz.ntmps164;go_wp2_with (go_at_call 208;refine H.mono ?_;rintro e w1 ⟨v,rfl,h1,h2⟩;have H1:=hid h1;have H2:=hid h2;clear h1 h2);go_ret;exact⟨v,rfl,H1,H2⟩
end
section
open Go Go.RowKit Go.Shelf Go.Maps
attribute [local go_sem] Oper.semAt_some gK dI
theorem EA (s:Nat->BitVec 64) (B b:Nat) (w:World) (hB:ar w B #[.pointer (some ⟨b,0,none⟩)] 255) (hb0:ar w b (cJ s) 179):Seq true Tryz.prog 209 #[.pointer (some ⟨B,0,none⟩)] (fun p:Nat=> #[.int .i64 (p:Int)]) (fun k=>k=B\/k=b) (dO s 448) w:=by
 intro l J Jx W hK hJ Yf hY h0;have HY:=hid hY;have HH:=hid (ud s b);clear hY;have B0:=hB.keeps hK hB.lt;have B1:=hb0.keeps hK hb0.lt;clear hB hb0;refine callsIn_wide (n:=0).1 ?_;refine callsIn_of_wp Tryz.func209 rfl trivial ?_ rfl;simp only[Tryz.ntmps209,List.size_toArray,List.length_cons,List.length_nil,Nat.reduceAdd,Nat.reduceSub,Array.replicate_succ,Array.replicate_zero,List.push_toArray,List.append_toArray,List.nil_append,List.cons_append]
 gi_wp2
 gi_loopw [4] (fun i wr=>∃ (k:Nat) (T:Nat->Prop),k<=448/\i=.int .i64 k/\ar wr B #[.pointer (some ⟨b,0,none⟩)] 255/\ar wr b (cJ s) 179/\J (dO s k) T wr/\(∀ k,T k->W.heap.size<=k/\k<wr.heap.size)/\ae (fun k=>k=B\/k=b) W wr)
  (fun i _=>448-(intOf i).toNat)
 case atStart=>
  exact⟨0,fun _=>False,by omega,rfl,B0,B1,h0,fun _ h=>h.elim,ae.refl _ _⟩
 case round=>
  obtain⟨k,T,hk,rfl,hB,hb,hj,hT,hR⟩:=hrel;by_cases hlt:k<448
  ·have c0:wr.cell? ⟨B,0,none⟩=some (.pointer (some ⟨b,0,none⟩)):=hB.cell 0
   have UU:=hid hB;have HB:=hid hb;have HJ:=hid hj;have HT:=hid hT;have HR:=hid hR;clear hB hb hj hT hR B0 B1;have bS:=sX s k;by_cases iO:sV s k=true
   ·rw[if_pos iO]at bS
    have HP:=hid bS;have OB:dO s k++ [k]<+:dO s 448:=by rw[<-bS];exact ue s (by omega)
    have PM:=hid OB;have h1:ah 210 #[.pointer (some ⟨b,0,none⟩),.int .i64 k] wr fun e w'=>e=.returned (.bool true)/\w'=wr:=by have:=HH.out k hlt wr HB;rwa[iO]at this
    have H1:=hid h1;clear bS OB h1 iO HH
    gi_wp2_with (gi_at_call 210;refine(callsIn_wide.2 H1).mono ?_;rintro e w1 ⟨rfl,hw⟩;replace hw:=hw.symm;subst hw;obtain⟨fn,tm,Dw,bd,hy,DX⟩:=HY.out (dO s k) k T _ PM HT HR HJ;have OC:=hid DX;clear DX)
    refine OC.mono ?_;rintro e W2 (⟨rfl,kX,hk2⟩ | ⟨rfl,kX,hk2⟩)
    ·have vk:=hid kX
     have pY:=hid hk2;clear kX hk2 hy
     gi_wp2
     go_roundw
     case rel=>
      refine⟨k+1,T,by omega,by go_num,?_,?_,?_,?_,?_⟩
      ·exact UU.keeps pY (.inl (.inl rfl))
      ·exact HB.keeps pY (.inl (.inr rfl))
      ·rw[HP.out];exact vk
      ·exact fun j hj=>⟨(HT j hj).1,aD (HT j hj).2 pY.size⟩
      ·exact HR.tr (pY.mono fun j hj=>.inl hj)
     case measure=>simp[intOf];omega
    ·have vk:=hid kX
     have pY:=hid hk2;clear kX hk2 hy
     gi_wp2
     refine bodyPost_ret (results_none rfl _ _ _) rfl ?_;exact⟨⟨_,rfl⟩,T,fun j hj=>⟨(HT j hj).1,aD (HT j hj).2 pY.size⟩,.inr ⟨_,PM,vk⟩⟩
   ·have tN:sV s k=false:=by simpa using iO
    rw[if_neg iO,List.append_nil]at bS;have HP:=hid bS;have h1:ah 210 #[.pointer (some ⟨b,0,none⟩),.int .i64 k] wr fun e w'=>e=.returned (.bool false)/\w'=wr:=by have:=HH.out k hlt wr HB;rwa[tN]at this
    have H1:=hid h1;clear bS h1 iO tN HH
    gi_wp2_with (gi_at_call 210;refine(callsIn_wide.2 H1).mono ?_;rintro e w1 ⟨rfl,hw⟩;replace hw:=hw.symm;subst hw)
    go_roundw
    case rel=>
     refine⟨k+1,T,by omega,by go_num,UU,HB,?_,HT,HR⟩;rw[HP.out];exact HJ
    case measure=>simp[intOf];omega
  ·obtain rfl:k=448:=by omega
   gi_wp2
   refine bodyPost_end (results_none rfl _ _ _) rfl ?_;exact⟨⟨_,rfl⟩,T,hT,.inl hj⟩
theorem Bz (b:Nat) (w:World):ah 165 #[.pointer (some ⟨b,0,none⟩)] w fun e w'=>e=.returned (.func (.func 209) #[] #[.pointer (some ⟨w.heap.size,0,none⟩)])/\w'=w.alloc (.cells #[.pointer (some ⟨b,0,none⟩)] 255 (0,0)):=by
 go_enter Tryz.func165,Tryz.ntmps165
 go_wp2;go_ret;exact⟨rfl,rfl⟩
theorem BH (s:Nat->BitVec 64) (b:Nat) (w:World) (hb:ar w b (cJ s) 179): ah 103 #[.pointer (some ⟨b,0,none⟩)] w fun e w'=>∃ v,e=.returned v/\w'.ownsRow w.heap.size 3 1 v (dO s 448).length ((dO s 448).map wH)/\aa w w':=by
 have eg:∀ args w,(callFunc 209 args).run Tryz.prog w=.ok (.enter 209 args) w:=enters_of Tryz.func209 (by kernel_rfl) rfl;have hlen:(dO s 448).length<=1000000:=Nat.le_trans (Ez _ _) (by decide);have H:Hid (∀ (W:World) (B:Nat),ar W B #[.pointer (some ⟨b,0,none⟩)] 255->ar W b (cJ s) 179->ah 164 #[.func (.func 209) #[] #[.pointer (some ⟨B,0,none⟩)]] W fun e w'=>∃ v,e=.returned v/\w'.ownsRow W.heap.size 3 1 v (dO s 448).length ((dO s 448).map wH)/\aa W w'):=
  fun W B hB hb=>rP _ W (EA s B b W hB hb) eg (fun k hk=>hk.elim (fun e=>by rw[e];exact hB.lt) (fun e=>by rw[e];exact hb.lt)) hlen
 have HB:=hid hb;clear eg hlen hb;generalize dO s 448=xs at H ⊢;go_enter Tryz.func103,Tryz.ntmps103;go_wp2_with (first | (go_at_call 165;refine(Bz b _).mono ?_;rintro e w1 ⟨rfl,rfl⟩) | (go_at_call 164;refine(H _ _ ((ar.new _ _ _).at (by simp)) (HB.alloc _)).mono ?_;rintro e w1 ⟨v,rfl,h1,h2⟩;have H1:=hid h1;have H2:=hid h2;clear h1 h2));go_ret;refine⟨v,rfl,aH H1 (by simp),?_⟩;exact((Ext.refl w).alloc _).below.trans (H2.mono (by simp))
end
section
open Go Go.RowKit Go.Shelf Go.Maps
theorem bQ.pos {w:World} {v:Value} {l:List Int} (h:bQ aM w v l) (hp:∀ x∈l,0<=x):bQ (fun p:Nat=>.int .i64 p) w v (l.map Int.toNat):=by
 rcases h with⟨rfl,rfl⟩ | ⟨b,off,cap,rfl,hb,hc,h⟩
 ·exact .inl ⟨rfl,rfl⟩
 ·refine .inr ⟨b,off,cap,by rw[aQ],hb,by rw[aQ];exact hc,fun i p hi=>?_⟩
  rw[aO]at hi;obtain⟨x,hx,rfl⟩:=Option.map_eq_some_iff.1 hi;have e:=Int.toNat_of_nonneg (hp x (aw hx));rw[h i x hx];show some (Value.int .i64 x)=some (Value.int .i64 (x.toNat:Int));rw[e]
theorem UW:∀ args w,(callFunc 230 args).run Tryz.prog w=.ok (.enter 230 args) w:=fun args w=>by kernel_rfl
theorem BJ (v u:Value) (a:NF) (rt:Nt a) (l:List Int) (hst:a.st l=true) (w:World) (h:lx w v a) (sm:Qs a) (hu:bQ aM w u l) (hl:l.length<=1000000): ah 190 #[v,u] w fun e w'=>e=.returned (.bool (a.acc l))/\aa w w':=by
 have UX:=(dW rt.cW).2;have hle:=rt.le;have CS:Hid (∀ W v,bQ aM W v a.cW->ah 229 #[v] W fun e w'=>e=.returned (.agg (cJ (setW (a.cW.map Int.toNat))))/\aa W w'):=hid fun W v h=>Ey v (a.cW.map Int.toNat) W (h.pos fun x hx=>(UX x hx).1) (fun p hp=>by obtain⟨x,hx,rfl⟩:=List.mem_map.1 hp;have:=UX x hx;omega) (by rw[aQ];exact sm.cW)
 have pq:∀ x:Int,0<=x->sV (setW (a.cW.map Int.toNat)) x.toNat=a.cW.contains x:=fun x hx=>by
  rw[Kt,Bool.eq_iff_iff,List.contains_iff_mem,List.contains_iff_mem,List.mem_map];constructor
  ·rintro⟨y,hy,e⟩
   have:=(UX y hy).1;obtain rfl:y=x:=by omega
   exact hy
  ·exact fun h=>⟨x,h,rfl⟩
 have CC:Hid (∀ W v' B b,bQ aM W v' l->W.cell? ⟨B,4,none⟩=some (.bool a.emp)->B<W.heap.size->ar W b (cJ (setW (a.cW.map Int.toNat))) 179->ah 65 #[v',.func (.func 230) #[] #[.pointer (some ⟨B,0,none⟩),.pointer (some ⟨b,0,none⟩)]] W fun e w'=>e=.returned (.bool (a.acc l))/\w'=W):=hid fun W v' B b hv' hB hBl hb=>by
  refine rO 230 #[.pointer (some ⟨B,0,none⟩),.pointer (some ⟨b,0,none⟩)] a.UO v' l W hv' hl UW fun x hx W' hk=>?_
  have UY:=(dW hst).2 x hx
  have:=Bx x a.emp (setW (a.cW.map Int.toNat)) B b W' ((ae.ai hk (R:=(· <W.heap.size)) fun _ h=>h).cell (p:=⟨B,4,none⟩) hBl |>.trans hB) (hb.below hk hb.lt) (by
   rcases Int.lt_or_le x 0 with h1 | h1
   ·exact .inl (by omega)
   ·exact .inr ⟨h1,by omega⟩)
  have e:(if x= -1 then a.emp else sV (setW (a.cW.map Int.toNat)) x.toNat)=a.UO x:=by
   unfold NF.UO;split
   ·rfl
   ·exact pq x (by omega)
  rw[e]at this;exact this
 obtain⟨v0,v1,v2,v3,rfl,h0,h1,h2,h3⟩:=h;obtain⟨a3,c3,rfl⟩:=h3.form;obtain⟨ua,uc,rfl⟩:=hu.form;obtain⟨R,hR⟩:=ag (a.acc l);obtain⟨S,hS⟩:=ag (setW (a.cW.map Int.toNat));obtain⟨n3,GV⟩:=ag a.cW.length;obtain⟨m,hm⟩:=ag l.length;rw[<-hS]at CS CC;rw[<-hR]at CC ⊢;rw[<-GV]at h3 ⊢;rw[<-hm]at hu ⊢;have H3:=hid h3;have HU:=hid hu;clear h0 h1 h2 h3 hu hR hS GV hm sm rt UX pq hst hle;go_enter Tryz.func190,Tryz.ntmps190;go_wp2_with fail
 refine aI ?_;intro V hV;have B1:Hid (ar V w.heap.size #[v0,v1,v2,.slice a3 n3 c3,.bool a.emp] 118):=hid (by rw[hV];exact ar.new w _ _);have X1:Hid (aa w V):=hid (by rw[hV];exact((Ext.refl w).alloc _).below);clear hV;refine(CS V _ (H3.below X1)).mono ?_;rintro e w1 ⟨rfl,hx⟩;have B2:=hid (B1.below hx B1.lt);have X2:=hid (X1.trans (hx.mono X1.size));clear hx B1 X1 CS;have hst:=run_storeCells_new (P:=Tryz.prog) w1 179 #[.int .u64 0,.int .u64 0,.int .u64 0,.int .u64 0,.int .u64 0,.int .u64 0,.int .u64 0] (cJ S) (by kernel_rfl) rfl (by simp[cJ,Value.oneCell']);go_wp2_with fail
 refine aI ?_;intro V2 hV2;have b6:Hid (ar V2 w1.heap.size (cJ S) 179):=hid (by rw[hV2];exact ar.new _ _ _);have XV:Hid (aa w1 V2):=hid (by rw[hV2];exact((Ext.refl w1).alloc _).below);clear hV2 hst;have i4:=(B2.below XV B2.lt).five.2.2.2.2;have hl:=(B2.below XV B2.lt).lt;refine(CC V2 _ _ _ (HU.below (X2.trans (XV.mono X2.size))) i4 hl b6).mono ?_;rintro e w' ⟨rfl,hw⟩;replace hw:=hw.symm;subst hw;go_wp2;go_ret;exact⟨rfl,X2.trans (XV.mono X2.size)⟩
theorem BL (v u:Value) (a:NF) (rt:Nt a) (l:List Int) (hst:a.st l=true) (w:World) (h:lx w v a) (sm:Qs a) (hu:bQ aM w u l) (hl:l.length<=1000000): ah 213 #[v,u] w fun e w'=>e=.returned (.tuple #[.bool (a.acc l),.int .i64 0])/\aa w w':=by
 have CK:Hid (∀ W,aa w W->ah 241 #[v,u] W fun e w'=>e=.returned (.int .i64 0)/\aa W w'):=hid fun W hW=>by
  have:=wF v u a l W (h.below hW) sm (hu.below hW) hl;have e:a.YE l=0:=by unfold NF.YE;rw[(eW a).2 rt,hst];rfl
  rwa[e]at this
 have CA:Hid (∀ W,aa w W->ah 190 #[v,u] W fun e w'=>e=.returned (.bool (a.acc l))/\aa W w'):=hid fun W hW=>BJ v u a rt l hst W (h.below hW) sm (hu.below hW) hl
 obtain⟨a0,c0,a1,n1,c1,a2,n2,c2,a3,n3,c3,rfl⟩:=h.Qu;generalize a.aN.length=n0 at*;generalize a.acc l=R at*;obtain⟨ua,uc,rfl⟩:=hu.form;generalize l.length=m at*;clear h hu sm rt hst hl;go_enter Tryz.func213,Tryz.ntmps213;go_wp2_with fail
 refine aI ?_;intro V hV;have B1:Hid (ar V w.heap.size #[.slice a0 n0 c0,.slice a1 n1 c1,.slice a2 n2 c2,.slice a3 n3 c3,.bool a.emp] 118):=hid (by rw[hV];exact ar.new w _ _);have X1:Hid (aa w V):=hid (by rw[hV];exact((Ext.refl w).alloc _).below);clear hV;refine(CK V X1).mono ?_;rintro e w1 ⟨rfl,hx⟩;have B2:=hid (B1.below hx B1.lt);have X2:=hid (X1.trans (hx.mono X1.size));clear hx B1 X1;obtain⟨i0,i1,i2,i3,i4⟩:=B2.five;go_wp2_with fail
 refine(CA w1 X2).mono ?_;rintro e w2 ⟨rfl,hx⟩;have X3:=hid (X2.trans (hx.mono X2.size));clear hx i0 i1 i2 i3 i4;go_wp2;refine bodyPost_ret (v:=.tuple #[.bool R,.int .i64 0]) (by simp[results,Tryz.results213,go_sem]) rfl ⟨rfl,X3⟩
attribute [local go_sem] encS
theorem Mw (v u:Value) (a:NF) (rt:Nt a) (l:List Int) (hst:a.st l=true) (c:Nat) (hc:c<256) (w:World) (h:lx w v a) (sm:Qs a) (hu:bQ aM w u l) (hl:l.length<=1000000): ah 231 #[v,u,.int .u8 c] w fun e w'=>∃ r,e=.returned r/\w'.ownsRow w.heap.size 3 1 r (a.step l c).length ((a.step l c).map aM)/\aa w w':=by
 have HSt:=hid (Mv rt hst c);have FR:Hid (∀ p∈l,∀ q∈a.qi p,0<=q/\q<a.aN.length):=hid fun p hp q hq=>by have:=(dW (rt.Qz hst hp)).2 q hq;omega
 have FL:Hid (∀ p,(a.qi p).length<=1000000):=hid fun p=>by
  unfold NF.qi;split
  ·exact sm.fst
  ·rcases Nat.lt_or_ge p.toNat a.cK.length with h1 | h1
   ·exact sm.row _ (aw (aW [] h1))
   ·rw[bu,aS h1];exact Nat.zero_le _
 have ST:Hid (∀ p∈l, -1<=p/\p<a.aN.length):=hid fun p hp=>by have:=(dW hst).2 p hp;omega
 have hle:=rt.le;have UZ:=rt.cK;obtain⟨v0,v1,v2,v3,rfl,h0,h1,h2,h3⟩:=h;obtain⟨a0,c0,rfl⟩:=h0.1.form;obtain⟨a1,c1,rfl⟩:=h1.form;obtain⟨a2,c2,rfl⟩:=h2.form;obtain⟨ua,uc,rfl⟩:=hu.form;obtain⟨n0,dw⟩:=ag a.aN.length;obtain⟨n2,jg⟩:=ag a.fst.length;obtain⟨m,hm⟩:=ag l.length;rw[UZ]at h1;rw[<-dw]at h0 h1 hle ST FR ⊢;rw[<-jg]at h2 ⊢;rw[<-hm]at hu hl ⊢;rw[UZ, <-dw];have zM:=hid dw;have uN:=hid jg;have HM:=hid hm;have agJ:=hid UZ;have H0:=hid h0;have H1:=hid h1;have H2:=hid h2;have HU:=hid hu;have CH:Hid (∀ s W,ah 77 #[.agg (encS s),.int .u8 c] W fun e w'=>e=.returned (.bool (s.getLsbD c))/\Ext W w'):=hid fun s W=>rq s c hc W
 clear h0 h1 h2 h3 hu dw jg hm UZ sm rt hst;go_enter Tryz.func231,Tryz.ntmps231;go_wp2;refine aA ?_;intro V hV;have B1:Hid (ar V w.heap.size #[.slice a0 n0 c0,.slice a1 n0 c1,.slice a2 n2 c2,v3,.bool a.emp] 118):=hid (by rw[hV];exact(ar.new w _ _).alloc _);have B2:Hid (ar V (w.heap.size+1) (cJ fun _=>0) 179):=hid (by rw[hV];exact(ar.new _ _ _).at (by simp));have X1:Hid (aa w V):=hid (by rw[hV];exact(((Ext.refl w).alloc _).alloc _).below);have yY:V.heap.size=w.heap.size+2:=by rw[hV];simp
 have qR:=hid yY;clear hV yY;go_loopw [15] (fun iv wr=>∃ k:Nat,k<=m/\iv=.int .i64 k/\ar wr (w.heap.size+1) (cJ (setW (fG a c (l.take k)))) 179/\ae (fun x=>x<w.heap.size+1) V wr) (fun iv _=>m-(intOf iv).toNat);case atStart=>exact⟨0,by omega,rfl,B2,ae.refl _ _⟩
 case round=>
  obtain⟨k,hk,rfl,hb,hx⟩:=hrel;obtain⟨wo,rfl⟩:=ag (wr:World);have HB:=hid hb;have HX:=hid hx;have XX:Hid (aa w wo):=hid (X1.trans (hx.mono fun x yX=>by have:x<w.heap.size:=yX;show x<w.heap.size+1;omega:ae (· <w.heap.size) V wo).below);have BN:=hid (B1.keeps hx (by show w.heap.size<w.heap.size+1;omega));clear hb hx;by_cases hlt:k<m
  ·obtain⟨p,hp⟩:∃ p,l[k]? =some p:=⟨_,az (by have:=HM.out;omega)⟩
   obtain⟨g,off,rfl,hg,q1⟩:=(HU.below XX).elem hp;replace q1:wo.cell? ⟨g,off+k,none⟩=some (.int .i64 p):=q1;have Kl:=aw hp;have Ku:=ST.out p Kl;have FRp:=hid (FR.out p Kl);have HP:=hid hp;have eE:(k:Int)<m:=by omega
   clear hp Kl;obtain⟨fl,pG⟩:=ag ((a.qi p).length);have flm:fl<=1000000:=by rw[pG];exact FL p
   have p8:Hid (fG a c (l.take (k+1))=fG a c (l.take k)++lU a c (a.qi p)):=hid (by
    rw[List.take_add_one,HP.out]
    exact Ip a c _ p)
   have Kv:=hid pG;clear pG;rcases Decidable.em (p= -1)with h1 | h1
   ·subst h1
    obtain rfl:fl=n2:=by rw[Kv.out,show a.qi (-1)=a.fst from rfl,uN.out]
    have HF:Hid (∀ W,aa w W->bQ aM W (.slice a2 fl c2) (a.qi (-1))):=hid fun W hW=>H2.below hW
    obtain⟨i0,i1,i2,i3,i4⟩:=BN.five;go_wp2;clear Ku q1 i0 i1 i2 i3 i4;go_loopw [30] (fun iv wi=>∃ j:Nat,j<=fl/\iv=.int .i64 j/\ar wi (w.heap.size+1) (cJ (setW (fG a c (l.take k)++lU a c ((a.qi (-1)).take j)))) 179/\ae (fun x=>x<w.heap.size+1) wo wi) (fun iv _=>fl-(intOf iv).toNat);case atStart=>exact⟨0,by omega,rfl,by rw[List.take_zero];simp only[lU,List.map_nil,List.filter_nil,List.append_nil];exact HB,ae.refl _ _⟩
    case round=>
     obtain⟨j,hj,rfl,hb,hx⟩:=hrel;have iQ:=hid hb;have gF:=hid hx;have XI:Hid (aa w wr):=hid (XX.trans (hx.mono fun x yX=>by have:x<w.heap.size:=yX;show x<w.heap.size+1;omega:ae (· <w.heap.size) wo wr).below);have BI:=hid (BN.keeps hx (by show w.heap.size<w.heap.size+1;omega));clear hb hx;by_cases kX:j<fl
     ·obtain⟨q,hq⟩:∃ q,(a.qi (-1))[j]? =some q:=⟨_,az (by have:=Kv.out;omega)⟩
      have hqr:=FRp.out q (aw hq);obtain⟨qn,rfl⟩:∃ qn:Nat,q=qn:=⟨q.toNat,by omega⟩;have hqn:(qn:Int)<n0:=by omega
      have ku:(j:Int)<fl:=by omega
      obtain⟨s,hs⟩:∃ s,a.aN[qn]? =some s:=⟨_,az (by have:=zM.out;omega)⟩;obtain⟨g2,o2,rfl,_,q2⟩:=(HF.out wr XI).elem hq;replace q2:wr.cell? ⟨g2,o2+j,none⟩=some (.int .i64 (qn:Int)):=q2;obtain⟨b3,o3,rfl,hb3,s0,s1,s2,s3⟩:=(H0.1.below XI).elem hs;obtain⟨i0,i1,i2,i3,i4⟩:=BI.five
      have HQ:Hid (fG a c (l.take k)++lU a c ((a.qi (-1)).take (j+1))=if s.getLsbD c then(fG a c (l.take k)++lU a c ((a.qi (-1)).take j))++ [qn]else fG a c (l.take k)++lU a c ((a.qi (-1)).take j)):=hid (by
       rw[List.take_add_one,hq];show fG a c (l.take k)++lU a c ((a.qi (-1)).take j++ [(qn:Int)])=_;rw[zS,Int.toNat_natCast,show a.on c qn=s.getLsbD c from by unfold NF.on;rw[getD_some hs]];split
       ·rw[List.append_assoc]
       ·rw[List.append_nil])
      obtain⟨bt,QC⟩:=ag (s.getLsbD c);have YF:=hid (CH.out s);rw[<-QC]at HQ YF;clear hq hs QC;cases bt
      ·go_wp2_with fail
       refine(YF _).mono ?_;rintro e w1 ⟨rfl,hx⟩;have oy:=hid hx;clear hx;go_wp2;exact⟨⟨j+1,by omega,by go_num,by rw[HQ.out];exact iQ.ext oy,gF.tr (oy.mono fun x hx=>by have:x<w.heap.size+1:=hx;have:=iQ.lt;omega)⟩,by simp[intOf];omega⟩
      ·go_wp2_with fail
       refine(YF _).mono ?_;rintro e w1 ⟨rfl,hx⟩;have oy:=hid hx;clear hx;go_wp2_with fail
       refine(nL _ _ qn (by omega) w1 (iQ.ext oy)).mono ?_;rintro e w2 ⟨⟨u,rfl⟩,hb4,hx4⟩;have YG:=hid hb4;have D7:=hid hx4;clear hb4 hx4;go_wp2;exact⟨⟨j+1,by omega,by go_num,by rw[HQ.out,if_pos trivial,sW];exact YG,(gF.tr (oy.mono fun x hx=>by have:x<w.heap.size+1:=hx;have:=iQ.lt;omega)).tr (D7.mono fun x hx=>by have h5:x<w.heap.size+1:=hx;have:=iQ.lt;have:=oy.size;exact⟨by omega,by omega⟩)⟩,by simp[intOf];omega⟩
     ·obtain rfl:j=fl:=by omega
      have ku:¬ ((j:Int)<j):=by omega
      have eT:(a.qi (-1)).take j=a.qi (-1):=by rw[Kv.out,List.take_length]
      rw[eT, <-p8.out]at iQ;go_wp2;exact⟨⟨k+1,by omega,by go_num,iQ,HX.tr gF⟩,by simp[intOf];omega⟩
   ·obtain⟨pn,rfl⟩:∃ pn:Nat,p=pn:=⟨p.toNat,by omega⟩
    have d1:((pn:Int) != -1)=true:=by rw[bne_iff_ne];omega
    have Kw:(pn:Int)<n0:=by omega
    obtain⟨b1,o1,fa,fc,ea1,hb1,cl1,h4⟩:=H1.elem (aW (l:=a.cK) [] (by rw[agJ.out, <-zM.out];omega:pn<a.cK.length));have e:a.qi (pn:Int)=a.cK.getD pn []:=by unfold NF.qi;rw[if_neg h1,Int.toNat_natCast]
    rw[<-e, <-Kv.out]at cl1 h4;have HF:Hid (∀ W,aa w W->bQ aM W (.slice fa fl fc) (a.qi (pn:Int))):=hid fun W hW=>h4.below hW
    have EB:wo.cell? ⟨b1,o1+pn,none⟩=some (.slice fa fl fc):=((ae.ai XX fun _ h=>h:ae (· <w.heap.size) w wo).cell (p:=⟨b1,o1+pn,none⟩) hb1).trans cl1;subst ea1;clear cl1 h4 e;obtain⟨i0,i1,i2,i3,i4⟩:=BN.five;go_wp2;clear Ku q1 i0 i1 i2 i3 i4;go_loopw [30] (fun iv wi=>∃ j:Nat,j<=fl/\iv=.int .i64 j/\ar wi (w.heap.size+1) (cJ (setW (fG a c (l.take k)++lU a c ((a.qi (pn:Int)).take j)))) 179/\ae (fun x=>x<w.heap.size+1) wo wi) (fun iv _=>fl-(intOf iv).toNat);case atStart=>exact⟨0,by omega,rfl,by rw[List.take_zero];simp only[lU,List.map_nil,List.filter_nil,List.append_nil];exact HB,ae.refl _ _⟩
    case round=>
     obtain⟨j,hj,rfl,hb,hx⟩:=hrel;have iQ:=hid hb;have gF:=hid hx;have XI:Hid (aa w wr):=hid (XX.trans (hx.mono fun x yX=>by have:x<w.heap.size:=yX;show x<w.heap.size+1;omega:ae (· <w.heap.size) wo wr).below);have BI:=hid (BN.keeps hx (by show w.heap.size<w.heap.size+1;omega));clear hb hx;by_cases kX:j<fl
     ·obtain⟨q,hq⟩:∃ q,(a.qi (pn:Int))[j]? =some q:=⟨_,az (by have:=Kv.out;omega)⟩
      have hqr:=FRp.out q (aw hq);obtain⟨qn,rfl⟩:∃ qn:Nat,q=qn:=⟨q.toNat,by omega⟩;have hqn:(qn:Int)<n0:=by omega
      have ku:(j:Int)<fl:=by omega
      obtain⟨s,hs⟩:∃ s,a.aN[qn]? =some s:=⟨_,az (by have:=zM.out;omega)⟩;obtain⟨g2,o2,rfl,_,q2⟩:=(HF.out wr XI).elem hq;replace q2:wr.cell? ⟨g2,o2+j,none⟩=some (.int .i64 (qn:Int)):=q2;obtain⟨b3,o3,rfl,hb3,s0,s1,s2,s3⟩:=(H0.1.below XI).elem hs;obtain⟨i0,i1,i2,i3,i4⟩:=BI.five
      have HQ:Hid (fG a c (l.take k)++lU a c ((a.qi (pn:Int)).take (j+1))=if s.getLsbD c then(fG a c (l.take k)++lU a c ((a.qi (pn:Int)).take j))++ [qn]else fG a c (l.take k)++lU a c ((a.qi (pn:Int)).take j)):=hid (by
       rw[List.take_add_one,hq];show fG a c (l.take k)++lU a c ((a.qi (pn:Int)).take j++ [(qn:Int)])=_;rw[zS,Int.toNat_natCast,show a.on c qn=s.getLsbD c from by unfold NF.on;rw[getD_some hs]];split
       ·rw[List.append_assoc]
       ·rw[List.append_nil])
      obtain⟨bt,QC⟩:=ag (s.getLsbD c);have YF:=hid (CH.out s);rw[<-QC]at HQ YF;clear hq hs QC;cases bt
      ·go_wp2_with fail
       refine(YF _).mono ?_;rintro e w1 ⟨rfl,hx⟩;have oy:=hid hx;clear hx;go_wp2;exact⟨⟨j+1,by omega,by go_num,by rw[HQ.out];exact iQ.ext oy,gF.tr (oy.mono fun x hx=>by have:x<w.heap.size+1:=hx;have:=iQ.lt;omega)⟩,by simp[intOf];omega⟩
      ·go_wp2_with fail
       refine(YF _).mono ?_;rintro e w1 ⟨rfl,hx⟩;have oy:=hid hx;clear hx;go_wp2_with fail
       refine(nL _ _ qn (by omega) w1 (iQ.ext oy)).mono ?_;rintro e w2 ⟨⟨u,rfl⟩,hb4,hx4⟩;have YG:=hid hb4;have D7:=hid hx4;clear hb4 hx4;go_wp2;exact⟨⟨j+1,by omega,by go_num,by rw[HQ.out,if_pos trivial,sW];exact YG,(gF.tr (oy.mono fun x hx=>by have:x<w.heap.size+1:=hx;have:=iQ.lt;omega)).tr (D7.mono fun x hx=>by have h5:x<w.heap.size+1:=hx;have:=iQ.lt;have:=oy.size;exact⟨by omega,by omega⟩)⟩,by simp[intOf];omega⟩
     ·obtain rfl:j=fl:=by omega
      have ku:¬ ((j:Int)<j):=by omega
      have eT:(a.qi (pn:Int)).take j=a.qi (pn:Int):=by rw[Kv.out,List.take_length]
      rw[eT, <-p8.out]at iQ;go_wp2;exact⟨⟨k+1,by omega,by go_num,iQ,HX.tr gF⟩,by simp[intOf];omega⟩
  ·obtain rfl:k=m:=by omega
   have Il:¬ ((k:Int)<k):=by omega
   have eT:l.take k=l:=by rw[HM.out,List.take_length]
   rw[eT]at HB;go_wp2_with fail
   refine(BH _ _ wo HB).mono ?_;rintro e w2 ⟨v,rfl,ho,hx⟩;have HO:=hid ho;have gF:=hid hx;clear ho hx;go_wp2;go_ret;refine⟨_,rfl,?_,XX.trans (gF.mono XX.size)⟩;have h:=aH HO XX.size;have e:(dO (setW (fG a c l)) 448).map wH=(a.step l c).map aM:=by rw[<-HSt.out,List.map_map];rfl
   have e2:(dO (setW (fG a c l)) 448).length=(a.step l c).length:=by rw[<-HSt.out,aQ]
   rwa[e,e2]at h
theorem Mx (v u:Value) (a:NF) (rt:Nt a) (l:List Int) (hst:a.st l=true) (c:Nat) (hc:c<256) (w:World) (h:lx w v a) (sm:Qs a) (hu:bQ aM w u l) (hl:l.length<=1000000): ah 216 #[v,u,.int .u8 c] w fun e w'=>∃ r,e=.returned (.tuple #[r,.int .i64 0])/\w'.ownsRow w.heap.size 3 1 r (a.step l c).length ((a.step l c).map aM)/\aa w w':=by
 have CK:Hid (∀ W,aa w W->ah 241 #[v,u] W fun e w'=>e=.returned (.int .i64 0)/\aa W w'):=hid fun W hW=>by
  have:=wF v u a l W (h.below hW) sm (hu.below hW) hl;have e:a.YE l=0:=by unfold NF.YE;rw[(eW a).2 rt,hst];rfl
  rwa[e]at this
 have CA:Hid (∀ W,aa w W->ah 231 #[v,u,.int .u8 c] W fun e w'=>∃ r,e=.returned r/\w'.ownsRow W.heap.size 3 1 r (a.step l c).length ((a.step l c).map aM)/\aa W w'):=hid fun W hW=>Mw v u a rt l hst c hc W (h.below hW) sm (hu.below hW) hl
 obtain⟨a0,c0,a1,n1,c1,a2,n2,c2,a3,n3,c3,rfl⟩:=h.Qu;generalize a.aN.length=n0 at*;generalize a.step l c=R at*;obtain⟨ua,uc,rfl⟩:=hu.form;generalize l.length=m at*;clear h hu sm rt hst hl;go_enter Tryz.func216,Tryz.ntmps216;go_wp2_with fail
 refine aI ?_;intro V hV;have B1:Hid (ar V w.heap.size #[.slice a0 n0 c0,.slice a1 n1 c1,.slice a2 n2 c2,.slice a3 n3 c3,.bool a.emp] 118):=hid (by rw[hV];exact ar.new w _ _);have X1:Hid (aa w V):=hid (by rw[hV];exact((Ext.refl w).alloc _).below);clear hV;refine(CK V X1).mono ?_;rintro e w1 ⟨rfl,hx⟩;have B2:=hid (B1.below hx B1.lt);have X2:=hid (X1.trans (hx.mono X1.size));clear hx B1 X1;obtain⟨i0,i1,i2,i3,i4⟩:=B2.five;go_wp2_with fail
 refine(CA w1 X2).mono ?_;rintro e w2 ⟨r,rfl,ho,hx⟩;have X3:=hid (X2.trans (hx.mono X2.size));have HO:=hid (aH ho X2.size);clear ho hx i0 i1 i2 i3 i4;go_wp2;refine bodyPost_ret (v:=.tuple #[r,.int .i64 0]) (by simp[results,Tryz.results216,go_sem]) rfl ⟨_,rfl,HO,X3⟩
end
end Go.Proofs.YtjgccapbphadjaaGreatDoor
