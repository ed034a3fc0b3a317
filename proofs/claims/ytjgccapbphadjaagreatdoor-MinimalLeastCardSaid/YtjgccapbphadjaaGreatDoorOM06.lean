/- Automata of positions in memory; nfa.Right. -/
import Derived.Test.YtjgccapbphadjaaGreatDoorOM05
import Derived.Test.YtjgccapbphadjaaGreatDoorRows
import Derived.Shelf.Sort.Plain
import Derived.Shelf.Slices.In.SortNone
import Derived.Shelf.Slices.Turned
import Derived.Shelf.Slices.Cells
import Derived.Laws.AppendOwnNone
set_option maxRecDepth 100000
set_option maxHeartbeats 16000000
open Go.Lib (hid)
namespace Go.Proofs.YtjgccapbphadjaaGreatDoor
section
open Go Go.RowKit Go.Shelf Go.Maps
attribute [local go_sem] encS
def nA (l:List (Nat×Nat)):List Value:=l.flatMap fun p=>[.int .i64 p.1,.int .i64 p.2]
theorem Bo (l:List (Nat×Nat)) (p:Nat×Nat):nA (l++ [p])=nA l++ [.int .i64 p.1,.int .i64 p.2]:=by simp[nA]
theorem zO:∀ (l:List (Nat×Nat)) (i:Nat) (p:Nat×Nat),l[i]? =some p->(nA l)[i*2]? =some (.int .i64 p.1)/\(nA l)[i*2+1]? =some (.int .i64 p.2)
 | [],_,_,h=>by simp at h
 | q::l,0,p,h=>by
  simp at h;subst h;exact⟨rfl,rfl⟩
 | q::l,i+1,p,h=>by
  have:=zO l i p (by simpa using h);rw[show(i+1)*2=i*2+2 by omega];exact⟨by simpa[nA]using this.1,by simpa[nA]using this.2⟩
theorem Es {P:Program} {fn:Func} {R:Ending->World->Prop} {x:Exit} {a:Act} {w:World} (h:∀ W,W=w->bodyPost P fn R x a W):bodyPost P fn R x a w:=h w rfl
section
variable {α:Type} [DecidableEq α]
theorem PQ {fuel:Nat} {st:List α×List Nat} {q:α} (hq:q∉st.1) (hf:st.1.length≠fuel):uO fuel st q=some (st.1++ [q],st.2++ [st.1.length]):=by unfold uO;rw[if_pos (List.idxOf_eq_length hq),if_neg hf]
theorem Mb {fuel:Nat} {st:List α×List Nat} {q:α} (hq:q∉st.1) (hf:st.1.length=fuel):uO fuel st q=none:=by unfold uO;rw[if_pos (List.idxOf_eq_length hq),if_pos hf]
theorem PU {fuel:Nat} {st:List α×List Nat} {q:α} (hq:q∈st.1):uO fuel st q=some (st.1,st.2++ [st.1.idxOf q]):=by unfold uO;rw[if_neg (Nat.ne_of_lt (List.idxOf_lt_length_of_mem hq))]
end
end
section
open Go Go.RowKit Go.Shelf Go.Maps
attribute [local go_sem] encS
def jl (lo:Nat) (v:Value) (n:Nat) (us:List Value) (x:Value):il.App:=⟨39,1,v,n,us,1,lo,fun ns _=>ns=[x],fun _ _ _ _ h=>h⟩
def mkApp (lo:Nat) (v:Value) (n:Nat) (us:List Value) (ml:Nat) (mx:List Value):il.App:=⟨39,1,v,n,us,1,lo,fun ns W=>∃ u,ns=[u]/\u.oneCell'=true/\W.ownsRow lo 3 1 u ml mx,fun _ _ _ hk ⟨u,h1,h2,h3⟩=>⟨u,h1,h2,ai h3 hk fun x hx=>h3.lt x hx⟩⟩
theorem br.more {base:Nat} {W:World} {v:Value} {ll:List (List Int)} {l:List Int} {us:List Value} {u:Value} {n:Nat} (h1:us.length=ll.length) (hn:us.length=n) (ho:W.ownsRow base 39 1 v (n+1) (us++ [u])) (h3:∀ (i:Nat) (u:Value) (l:List Int),us[i]? =some u->ll[i]? =some l->W.ownsRow base 3 1 u l.length (l.map aN)) (hu:W.ownsRow base 3 1 u l.length (l.map aN)):br base W v (ll++ [l]):=by
 subst hn;refine⟨us++ [u],by simp[h1],by simpa using ho,fun i x y hx hy=>?_⟩;by_cases hi:i<us.length
 ·rw[bJ hi]at hx
  rw[bJ (by omega)]at hy;exact h3 i x y hx hy
 ·have gL:=(List.getElem?_eq_some_iff.1 hx).1
  simp at gL;obtain rfl:i=us.length:=by omega
  simp at hx;subst hx;rw[h1]at hy;simp at hy;subst hy;exact hu
end
section
open Go Go.RowKit
def Reach (d:DF):Nat->Nat->Prop
 | 0,s=>acc d s=true
 | m+1,s=>∃ k,k<d.cl.length/\Reach d m (dL d s k)
/-! The reference: distances. -/
def abA (d:DF) (far:List Int) (s k:Nat):List Int:=if far.getD (dL d s k) 0+1<far.getD s 0 then far.set s (far.getD (dL d s k) 0+1)else far
def afM (d:DF):List Int:=(List.range d.nx.length).map fun s=>if acc d s then 0 else(d.nx.length:Int)
def Et (d:DF) (far:List Int) (s:Nat):Nat->List Int
 | 0=>far
 | k+1=>abA d (Et d far s k) s k
def Eu (d:DF) (far:List Int):Nat->List Int
 | 0=>far
 | s+1=>Et d (Eu d far s) s d.cl.length
def VX (d:DF):Nat->List Int
 | 0=>afM d
 | r+1=>Eu d (VX d r) d.nx.length
def abB (d:DF):List Int:=VX d d.nx.length
def VY (d:DF) (s:Nat):Int:=(abB d).getD s 0
def XN (d:DF) (s c:Nat):Bool:=VY d (dL d s (cls d.cl c))==VY d s-1
def VI (d:DF) (s:Nat):Nat:=((List.range 256).find? (XN d s)).getD 0
theorem gU {d:DF} (h:Rt d) {k:Nat} (hk:k<d.cl.length):lb d.cl k<256/\cls d.cl (lb d.cl k)=k/\∀ c,c<256->cls d.cl c=k->lb d.cl k<=c:=by
 have e:=h.cl;have tD:k<(partsOf d.cl).length:=by rw[e];exact hk
 have h1:=aV (l:=partsOf d.cl) 0 tD;obtain⟨_,h2,h3,h4⟩:=eo (iC d.cl (aw h1));rw[e]at h1 h2 h3 h4;refine⟨h2,(h.part.iO h2).2 ⟨_,h1,h3⟩,fun c hc XL=>?_⟩;obtain⟨q,hq,hb⟩:=(h.part.iO hc).1 XL;rw[h1]at hq;cases hq;show(aS _).1<=c;by_cases hlt:c<(aS (d.cl.getD k 0)).1
 ·have:=h4 c hlt;rw[this]at hb;cases hb
 ·omega
theorem Bp {d:DF} (h:Rt d) {i j:Nat} (mz:i<j) (hj:j<d.cl.length):lb d.cl i<lb d.cl j:=by have:=pd d.cl (i:=i) (j:=j) (x:=d.cl.getD i 0) (y:=d.cl.getD j 0) (by rw[h.cl];exact aV _ (by omega)) (by rw[h.cl];exact aV _ (by omega)) mz;exact this
/-! The program: breadth first. -/
structure Bst where
 todo:List Nat
 keys:List Nat
 fr:List Int
 Um:List Nat
structure BOk (d:DF) (x:Nat) (st:Bst):Prop where
 keys:st.keys.length=st.todo.length
 fr:st.fr.length=d.nx.length
 Um:st.Um.length=d.nx.length
 head:st.todo[0]? =some 0
 root:st.fr.getD 0 0= -1
 nodup:st.todo.Nodup
 lt:∀ t∈st.todo,t<d.nx.length
 mem:∀ t,t<d.nx.length->(st.fr.getD t 0≠0↔t∈st.todo)
 par:∀ j t,0<j->st.todo[j]? =some t->∃ y s,st.keys[j]? =some y/\y<x/\y/d.cl.length<j/\st.todo[y/d.cl.length]? =some s/\dL d s (y%d.cl.length)=t/\st.fr.getD t 0=s+1/\st.Um.getD t 0=lb d.cl (y%d.cl.length)
 mono:∀ i j y z,0<i->i<j->st.keys[i]? =some y->st.keys[j]? =some z->y<z
 done:∀ y s,y<x->st.todo[y/d.cl.length]? =some s->∃ j:Nat,st.todo[j]? =some (dL d s (y%d.cl.length))/\(j=0\/∃ z,st.keys[j]? =some z/\z<=y)
theorem kV:∀ (n:Nat) (l:List Nat),l.Nodup->(∀ t∈l,t<n)->l.length<=n
 | 0,l,_,h=>by
  cases l with
  | nil=>simp
  | cons x r=>have:=h x (by simp);omega
 | n+1,l,hd,h=>by
  have h1:=kV n (l.erase n) (hd.erase n) (fun t ht=>by
   have h2:=(hd.mem_erase_iff).1 ht;have:=h t h2.2;have:=h2.1
   omega)
  by_cases hm:n∈l
  ·rw[List.length_erase_of_mem hm]at h1;omega
  ·rw[List.erase_of_not_mem hm]at h1;omega
structure abC (d:DF) (st:Bst) (m i:Nat) (q:Nat->Nat):Prop where
 zero:q 0=0
 last:q m=i
 step:∀ l,l<m->q l<q (l+1)/\∃ y,st.keys[q (l+1)]? =some y/\y/d.cl.length=q l
section
variable {d:DF} (h:Rt d) {i:Nat} {st:Bst} (I:BOk d (i*d.cl.length) st) (hi:i<st.todo.length) (ha:∀ (j t:Nat),j<i→st.todo[j]? =some t→acc d t=false) {m:Nat} {q:Nat→Nat} (c:abC d st m i q)
include h I c hi
include ha
variable {s:Nat} (hs:st.todo[i]? =some s) (afO:acc d s=true)
include hs afO
end
end
section
open Go Go.ChangeShapes Go.WideShapes Go.ChangeAt Go.RowKit Go.Deep
section
variable {H:Type} {enc:TypeId×Value→H} {W:World}
theorem Mc {P:Program} {ts:List TypeId} {ds:List (DataW H)} (h:(DataW.weightsEach P ts ds).all (· <=reachBytes)=true) {j:Nat} {t:TypeId} {d:DataW H} (ht:ts[j]? =some t) (hd:ds[j]? =some d):∀ n∈d.weights P t,n<=reachBytes:=fun n hn=>by
 simpa using List.all_eq_true.1 h _ (DataW.weights_mem_each ht hd n hn)
theorem pB {P:Program} {e:TypeId} :∀ {l:List (DataW H)} {d:DataW H},d∈l->∀ n∈d.weights P e,n∈DataW.weightsAll P e l
 | x::l,d,h,n,hn=>by
  simp only[DataW.weightsAll,List.mem_append];rcases List.mem_cons.1 h with rfl | h
  ·exact .inl hn
  ·exact .inr (pB h n hn)
end
end
section
open Go Go.RowKit Go.Shelf Go.Maps
attribute [local go_sem] encS
theorem jw {P:Program} {l:List Oper} {ops:Array Oper} {Q:Exit->Act->World->Prop} {a:Act} {w:World} (h:∀ W,W=w->wpList P ops Q l a W):wpList P ops Q l a w:=h w rfl
end
section
open Go Go.RowKit Go.Shelf Go.Maps
theorem py.step {u v v':Value} {N:Nat} (h:py u v) (ho:v'.ownBlock=v.ownBlock\/∀ x,v'.ownBlock=some x->N<=x) (hu:∀ b,u.ownBlock=some b->b<N):py u v':=by
 rcases h with h | h
 ·exact .inl h
 ·by_cases e:u.ownBlock=none
  ·exact .inl e
  ·right
   intro e2;rcases ho with h2 | h2
   ·exact h (by rw[e2,h2])
   ·cases hb:u.ownBlock with
    | none=>exact e hb
    | some b=>have h3:=hu b hb;have h4:=h2 b (by rw[<-e2,hb]);omega
def RowsIn (W:World) (base:Nat) (us:List Value) (ll:List (List Int)):Prop:=∀ (i:Nat) (u:Value) (l:List Int),us[i]? =some u->ll[i]? =some l->W.ownsRow base 3 1 u l.length (l.map aN)
theorem RowsIn.keeps {W W':World} {base:Nat} {us:List Value} {ll:List (List Int)} (h:RowsIn W base us ll) {R:Nat->Prop} (hk:ae R W W') (hr:∀ u x,u∈us->u.ownBlock=some x->x<W.heap.size->R x):RowsIn W' base us ll:=fun i u l hu hl=>
 ai (h i u l hu hl) hk fun x hx=>hr u x (aw hu) hx ((h i u l hu hl).lt x hx).2
theorem RowsIn.lt {W:World} {base n:Nat} {us:List Value} {ll:List (List Int)} (h:RowsIn W base us ll) (h1:us.length=n) (h2:ll.length=n) {u:Value} (hu:u∈us):∀ b,u.ownBlock=some b->base<=b/\b<W.heap.size:=fun b e=>by
 obtain⟨i,hi⟩:=List.getElem?_of_mem hu;have gL:=(List.getElem?_eq_some_iff.1 hi).1;exact(h i u _ hi (az (by omega))).lt b e
theorem RowsIn.ll {W:World} {base n:Nat} {us:List Value} {ll:List (List Int)} {v:Value} (h:RowsIn W base us ll) (h1:us.length=n) (h2:ll.length=n) (ho:W.ownsRow base 39 1 v n us):br base W v ll:=⟨us,by omega,by rw[h1];exact ho,h⟩
theorem RowsIn.below {W W':World} {base:Nat} {us:List Value} {ll:List (List Int)} (h:RowsIn W base us ll) (hk:aa W W'):RowsIn W' base us ll:=fun i u l hu hl=>aj (h i u l hu hl) hk
theorem bA.form {base:Nat} {w:World} {v:Value} {d:DF} (h:bA base w v d):∃ a0 c0 a1 c1 a2 c2,v=.agg #[.slice a0 d.cl.length c0,.slice a1 d.nx.length c1,.slice a2 d.mr.length c2]:=by obtain⟨v0,v1,v2,rfl,h0,h1,h2⟩:=h;obtain⟨a0,c0,rfl⟩:=ownsRow_form h0;obtain⟨a1,c1,rfl⟩:=h1.form;obtain⟨a2,c2,rfl⟩:=h2.form;exact⟨_,_,_,_,_,_,rfl⟩
theorem cm {w:World} {b base size n:Nat} {c:Array Value} {t e:TypeId} {v:Value} {xs:List Value} (h:ar w b c t) (ho:w.ownsRow base e size v n xs) (hne:t≠e):∀ x,v.ownBlock=some x->x≠b:=fun x hx e2=>by
 subst e2;rcases ho.2 with⟨h1,_⟩ | ⟨g',c',cur,h1,_,h3,_⟩
 ·rw[h1]at hx;cases hx
 ·subst h1
  have hg:g'=x:=by simpa[Value.ownBlock]using hx
  subst hg;have h4:w.heap[g']? =some (.cells c t (0,0)):=h;rw[h3]at h4;injection h4 with h4
  injection h4 with _ h5 _
  exact hne h5.symm
attribute [local go_sem] encS
def aZ.uP (lo:Nat) (cs:Array Value) (t:TypeId):aZ (Move false (fun _=>False)) where
 P:=fun v=>∃ b,v=.pointer (some ⟨b,0,none⟩)
 H:=fun v W=>∀ b,v=.pointer (some ⟨b,0,none⟩)->ar W b cs t/\lo<=b
 nW:=.pointer (some ⟨0,0,none⟩)
 pw:=⟨_,rfl⟩
 st:=fun _ _ _ hm _ h b e=>⟨(h b e).1.below hm.below (h b e).1.lt,(h b e).2⟩
end
section
open Go Go.RowKit Go.Shelf Go.Maps
structure NF where
 aL:List BS
 cF:List (List Int)
 fst:List Int
 cR:List Int
 emp:Bool
def kq (low:Int) (l:List Int) (k:Nat):Int:=if k=0 then low-1 else l.getD (k-1) 0
def gV (low high:Int) (l:List Int) (k:Nat):Bool:=decide (kq low l k<l.getD k 0)&&decide (l.getD k 0<=high)
def dT (low high:Int) (l:List Int):Bool:=(List.range l.length).all (gV low high l)
theorem Ic {low:Int} {l:List Int} {k:Nat} {x:Int} (hx:l[k]? =some x):kq low l (k+1)=x:=by unfold kq;rw[if_neg (by omega),Nat.add_sub_cancel];exact getD_some hx
theorem sN {low high:Int} {l:List Int} {k:Nat} {x:Int} (hx:l[k]? =some x):gV low high l k=(decide (kq low l k<x)&&decide (x<=high)):=by unfold gV;rw[getD_some hx]
theorem Kh {low high:Int} {l:List Int} {k:Nat} (hk:k<l.length) (h:gV low high l k=false):dT low high l=false:=by unfold dT;rw[List.all_eq_false];exact⟨k,List.mem_range.2 hk,by rw[h];decide⟩
theorem Ev {low high:Int} {l:List Int} (h:∀ k,k<l.length->gV low high l k=true):dT low high l=true:=by unfold dT;rw[List.all_eq_true];exact fun k hk=>h k (List.mem_range.1 hk)
theorem Bq {low high:Int} {l:List Int} (h:dT low high l=true) {k:Nat} (hk:k<l.length):gV low high l k=true:=by unfold dT at h;rw[List.all_eq_true]at h;exact h k (List.mem_range.2 hk)
def Ie (low n:Int) (l:List Int) (k:Nat):Bool:=decide (low<=l.getD k 0)&&decide (l.getD k 0<n)&&(decide (k=0) || decide (l.getD (k-1) 0<l.getD k 0))
theorem ad3 (low n:Int) (l:List Int):((List.range l.length).all (Ie low n l))=dT low (n-1) l:=by
 rw[Bool.eq_iff_iff];unfold dT;rw[List.all_eq_true,List.all_eq_true];constructor
 ·intro h k hk
  have h1:=h k hk;unfold Ie at h1;unfold gV kq;simp only[Bool.and_eq_true,Bool.or_eq_true,decide_eq_true_eq]at h1 ⊢;obtain⟨⟨a,b⟩,c⟩:=h1;refine⟨?_,by omega⟩;split
  ·omega
  ·rcases c with c | c
   ·omega
   ·exact c
 ·intro h
  have XP:∀ k,k<l.length->low<=l.getD k 0:=by
   intro k;induction k with
   | zero=>
    intro hk;have h1:=h 0 (List.mem_range.2 hk);unfold gV kq at h1;simp only[Bool.and_eq_true,decide_eq_true_eq,if_true]at h1;omega
   | succ k ih=>
    intro hk;have h1:=h (k+1) (List.mem_range.2 hk);have h2:=ih (by omega);unfold gV kq at h1;simp only[Bool.and_eq_true,decide_eq_true_eq]at h1;rw[if_neg (by omega),Nat.add_sub_cancel]at h1;omega
  intro k hk;have h1:=h k hk;have h2:=XP k (List.mem_range.1 hk);unfold gV kq at h1;unfold Ie;simp only[Bool.and_eq_true,Bool.or_eq_true,decide_eq_true_eq]at h1 ⊢;refine⟨⟨h2,by omega⟩,?_⟩;by_cases h0:k=0
  ·exact .inl h0
  ·rw[if_neg h0]at h1
   exact .inr h1.1
theorem dU {low high:Int} {l:List Int} (h:dT low high l=true):l.Pairwise (· < ·)/\∀ x∈l,low<=x/\x<=high:=by
 have hs:∀ k,k+1<l.length->l.getD k 0<l.getD (k+1) 0:=fun k hk=>by
  have h1:=Bq h hk;unfold gV kq at h1;simp only[Bool.and_eq_true,decide_eq_true_eq]at h1;rw[if_neg (by omega),Nat.add_sub_cancel]at h1;exact h1.1
 have hm:∀ i j,i<j->j<l.length->l.getD i 0<l.getD j 0:=by
  intro i j mz;induction j with
  | zero=>omega
  | succ j ih=>
   intro hj;rcases Nat.lt_or_ge i j with h1 | h1
   ·have:=ih h1 (by omega);have:=hs j hj;omega
   ·obtain rfl:i=j:=by omega
    exact hs i hj
 refine⟨?_,fun x hx=>?_⟩
 ·rw[List.pairwise_iff_getElem]
  intro i j hi hj mz;have:=hm i j mz hj;simpa[bh,az hi,az hj]using this
 ·obtain⟨k,hk⟩:=List.getElem?_of_mem hx
  have AZ:=(List.getElem?_eq_some_iff.1 hk).1;have h1:=Bq h AZ;rw[sN hk]at h1;simp only[Bool.and_eq_true,decide_eq_true_eq]at h1;refine⟨?_,h1.2⟩;have h0:=Bq h (show 0<l.length by omega);unfold gV kq at h0;simp only[Bool.and_eq_true,decide_eq_true_eq,if_true]at h0;have e:l.getD k 0=x:=getD_some hk;rcases Nat.eq_zero_or_pos k with h2 | h2
  ·subst h2;omega
  ·have:=hm 0 k h2 AZ;omega
theorem ow {low high:Int} {l:List Int} (h:l.Pairwise (· < ·)) (hb:∀ x∈l,low<=x/\x<=high):dT low high l=true:=by
 refine Ev fun k hk=>?_
 have hx:=az hk;rw[sN hx];have h1:=hb _ (List.getElem_mem hk);simp only[Bool.and_eq_true,decide_eq_true_eq];refine⟨?_,h1.2⟩;unfold kq;split
 ·omega
 ·rename_i h0
  have h2:=List.pairwise_iff_getElem.1 h (k-1) k (by omega) hk (by omega);rw[bh,az (show k-1<l.length by omega)];exact h2
def NF.right (a:NF):Bool:=decide (a.aL.length<=400)&&decide (a.cF.length=a.aL.length)&&dT 0 ((a.aL.length:Int)-1) a.fst&&dT 0 ((a.aL.length:Int)-1) a.cR&&(List.range a.aL.length).all fun p=>dT 0 ((a.aL.length:Int)-1) (a.cF.getD p [])&&(a.aL.getD p 0 != 0)
structure Nt (a:NF):Prop where
 le:a.aL.length<=400
 cF:a.cF.length=a.aL.length
 fst:dT 0 ((a.aL.length:Int)-1) a.fst=true
 cR:dT 0 ((a.aL.length:Int)-1) a.cR=true
 row:∀ p,p<a.aL.length->dT 0 ((a.aL.length:Int)-1) (a.cF.getD p [])=true
 ne:∀ p,p<a.aL.length->a.aL.getD p 0≠0
theorem eY (a:NF):a.right=true↔Nt a:=by
 unfold NF.right;simp only[Bool.and_eq_true,decide_eq_true_eq,List.all_eq_true,List.mem_range,bne_iff_ne];constructor
 ·rintro⟨⟨⟨⟨h1,h2⟩,h3⟩,h4⟩,h5⟩
  exact⟨h1,h2,h3,h4,fun p hp=>(h5 p hp).1,fun p hp=>(h5 p hp).2⟩
 ·rintro⟨h1,h2,h3,h4,h5,h6⟩
  exact⟨⟨⟨⟨h1,h2⟩,h3⟩,h4⟩,fun p hp=>⟨h5 p hp,h6 p hp⟩⟩
def NF.st (a:NF) (l:List Int):Bool:=dT (-1) ((a.aL.length:Int)-1) l
def NF.pS (a:NF) (p:Int):List Int:=if p= -1 then a.fst else a.cF.getD p.toNat []
def NF.hit (a:NF) (l:List Int) (c q:Nat):Bool:=l.any fun p=>(a.pS p).contains (q:Int)&&(a.aL.getD q 0).getLsbD c
def NF.step (a:NF) (l:List Int) (c:Nat):List Int:=((List.range a.aL.length).filter (a.hit l c)).map Int.ofNat
def NF.Un (a:NF) (p:Int):Bool:=if p= -1 then a.emp else a.cR.contains p
def NF.acc (a:NF) (l:List Int):Bool:=l.any a.Un
theorem nB (n:Nat) (f:Nat->Bool):(((List.range n).filter f).map Int.ofNat).Pairwise (· < ·):=by rw[List.pairwise_map];exact(List.pairwise_lt_range.filter _).imp fun h=>Int.ofNat_lt.2 h
theorem NF.PX (a:NF) (l:List Int) (c:Nat):dT 0 ((a.aL.length:Int)-1) (a.step l c)=true:=by
 refine ow (nB _ _) fun x hx=>?_
 obtain⟨q,hq,rfl⟩:=List.mem_map.1 hx;have:=List.mem_range.1 (List.mem_filter.1 hq).1;show(0:Int)<=(q:Int)/\(q:Int)<=_;omega
theorem Md {high:Int} {l:List Int} (hh: -1<=high) (h:dT 0 high l=true):dT (-1) high (-1::l)=true:=by
 obtain⟨h1,h2⟩:=dU h;refine ow (List.pairwise_cons.2 ⟨fun x hx=>?_,h1⟩) fun x hx=>?_
 ·have:=h2 x hx;omega
 ·rcases List.mem_cons.1 hx with rfl | hx
  ·omega
  ·have:=h2 x hx;omega
theorem PY {low low' high:Int} {l:List Int} (hh:low'<=low) (h:dT low high l=true):dT low' high l=true:=by obtain⟨h1,h2⟩:=dU h;exact ow h1 fun x hx=>by have:=h2 x hx;omega
structure PT where
 nf:NF
 zP:Bool
 mark:Int
def PT.ok (x:PT):Bool:=x.nf.right&&decide (0<=x.mark)&&decide (x.mark<=255)
def PT.step (x:PT) (l:List Int) (c:Nat):List Int:=if x.zP then x.nf.step l c else-1::x.nf.step l c
def eZ (ps:List PT) (row:List (List Int)) (c:Nat):List (List Int):=List.zipWith (fun x l=>x.step l c) ps row
def dM (ps:List PT) (row:List (List Int)):List Int:=((List.range 256).filter fun (m:Nat)=>(List.zip ps row).any fun y=>y.1.nf.acc y.2&&(y.1.mark==(m:Int))).map Int.ofNat
def lN (ps:List PT):List (List Int):=ps.map fun _=>[-1]
def cC (ps:List PT):List BS:=ps.flatMap fun x=>x.nf.aL
def sO (ps:List PT) (fuel:Nat):Option (List (List (List Int))×List (List Nat)):=
 if fuel=0 then none else ju fuel (fun row k=>eZ ps row (lb (partsOf (cC ps)) k)) (partsOf (cC ps)).length (lN ps) fuel
def kP (ps:List PT) (fuel:Int):DF×Int:=
 if 64<ps.length then(⟨[],[],[]⟩,5)else if(ps.all PT.ok)=false then(⟨[],[],[]⟩,180)else if fuel<0\/4000<fuel then(⟨[],[],[]⟩,2)else
 match sO ps fuel.toNat with
 | none=>(⟨[],[],[]⟩,181)
 | some st=>(⟨partsOf (cC ps),st.2.map fun r=>r.map Int.ofNat,st.1.map (dM ps)⟩,0)
def pC (ps:List PT) (row:List (List Int)):Prop:=row.length=ps.length/\∀ (i:Nat) (x:PT) (l:List Int),ps[i]? =some x->row[i]? =some l->x.nf.st l=true
theorem Br (ps:List PT):pC ps (lN ps):=by refine⟨by simp[lN],fun i x l hx hl=>?_⟩;unfold lN at hl;rw[aO,hx]at hl;cases hl;unfold NF.st;exact ow (by simp) fun y hy=>by simp at hy;omega
theorem ry {ps:List PT} {row:List (List Int)} (h:pC ps row) (c:Nat):pC ps (eZ ps row c):=by
 refine⟨by simp[eZ,h.1],fun i x l hx hl=>?_⟩;have hi:=(List.getElem?_eq_some_iff.1 hx).1;unfold eZ at hl;rw[List.getElem?_zipWith,hx,az (by rw[h.1];exact hi)]at hl;cases hl;unfold PT.step NF.st;have hr:=x.nf.PX (row[i]'(by rw[h.1];exact hi)) c;split
 ·exact PY (by omega) hr
 ·exact Md (by omega) hr
theorem Ig (ps:List PT) (row:List (List Int)):rh (dM ps row)=true:=by
 have h:dT 0 255 (dM ps row)=true:=by
  refine ow (nB _ _) fun x hx=>?_
  obtain⟨q,hq,rfl⟩:=List.mem_map.1 hx;have:=List.mem_range.1 (List.mem_filter.1 hq).1;show(0:Int)<=(q:Int)/\(q:Int)<=_;omega
 have e:rh (dM ps row)=dT 0 255 (dM ps row):=rfl;rw[e];exact h
theorem XQ {b o j:Nat} {vs:List Value} {w:World} (h:∀ k,k<vs.length->(w.cell? ⟨b,o+k,none⟩).isSome=true) (hj:j<vs.length):(w.setCells b o vs).cell? ⟨b,o+j,none⟩=vs[j]? :=by rw[World.cell?_setCells_in b vs o w h j hj,az hj]
section
variable {g i n:Nat} {l:List Int} {z:Int} {w0:World}
end
end
end Go.Proofs.YtjgccapbphadjaaGreatDoor
namespace Go.Proofs
open Go.Shelf
def Tryz.Me:Go.Shelf.Ren:=⟨fun | 189=>214 | 125=>75 | 257=>242 | 128=>134 | 129=>135 | 294=>250 | 295=>251 | 296=>252 | 297=>253 | 298=>254 | 299=>255 | 216=>256 | 300=>257 | 301=>258 | 328=>263 | 329=>179 | 330=>180 | 331=>264 | 332=>265 | 215=>266 | 343=>271 | n=>n,fun | 28=>39 | 3=>3 | 46=>122 | 0=>0 | 51=>221 | 53=>54 | 4=>4 | 183=>214 | 182=>213 | 131=>218 | 5=>5 | 9=>9 | 218=>272 | 222=>276 | 228=>302 | 229=>303 | n=>n,fun | n=>n⟩
theorem Tryz.VZ:Go.Proofs.Lays.n189 Tryz.prog Tryz.Me:= {
 mixed:=by kernel_rfl
 f125:=Tryz.func75.trans (congrArg some (by kernel_rfl))
 f128:=Tryz.func134.trans (congrArg some (by kernel_rfl))
 f129:=Tryz.func135.trans (congrArg some (by kernel_rfl))
 f189:=Tryz.func214.trans (congrArg some (by kernel_rfl))
 f215:=Tryz.func266.trans (congrArg some (by kernel_rfl))
 f216:=Tryz.func256.trans (congrArg some (by kernel_rfl))
 f257:=Tryz.func242.trans (congrArg some (by kernel_rfl))
 f294:=Tryz.func250.trans (congrArg some (by kernel_rfl))
 f295:=Tryz.func251.trans (congrArg some (by kernel_rfl))
 f296:=Tryz.func252.trans (congrArg some (by kernel_rfl))
 f297:=Tryz.func253.trans (congrArg some (by kernel_rfl))
 f298:=Tryz.func254.trans (congrArg some (by kernel_rfl))
 f299:=Tryz.func255.trans (congrArg some (by kernel_rfl))
 f300:=Tryz.func257.trans (congrArg some (by kernel_rfl))
 f301:=Tryz.func258.trans (congrArg some (by kernel_rfl))
 f328:=Tryz.func263.trans (congrArg some (by kernel_rfl))
 f329:=Tryz.func179.trans (congrArg some (by kernel_rfl))
 f330:=Tryz.func180.trans (congrArg some (by kernel_rfl))
 f331:=Tryz.func264.trans (congrArg some (by kernel_rfl))
 f332:=Tryz.func265.trans (congrArg some (by kernel_rfl))
 f343:=Tryz.func271.trans (congrArg some (by kernel_rfl))
 t0:=Tryz.underlying0
 a0:=Tryz.isAgg0
 z0:=Tryz.sizeOf0
 v0:=Tryz.zeroValue0
 t3:=Tryz.underlying3
 a3:=Tryz.isAgg3
 z3:=Tryz.sizeOf3
 v3:=Tryz.zeroValue3
 t4:=Tryz.underlying4
 a4:=Tryz.isAgg4
 z4:=Tryz.sizeOf4
 v4:=Tryz.zeroValue4
 t5:=Tryz.underlying5
 a5:=Tryz.isAgg5
 z5:=Tryz.sizeOf5
 v5:=Tryz.zeroValue5
 t9:=Tryz.underlying9
 a9:=Tryz.isAgg9
 z9:=Tryz.sizeOf9
 v9:=Tryz.zeroValue9
 t28:=Tryz.underlying39
 a28:=Tryz.isAgg39
 z28:=Tryz.sizeOf39
 v28:=Tryz.zeroValue39
 t46:=Tryz.underlying122
 a46:=Tryz.isAgg122
 z46:=Tryz.sizeOf122
 v46:=Tryz.zeroValue122
 t51:=Tryz.underlying221
 a51:=Tryz.isAgg221
 z51:=Tryz.sizeOf221
 v51:=Tryz.zeroValue221
 t53:=Tryz.underlying54
 a53:=Tryz.isAgg54
 z53:=Tryz.sizeOf54
 v53:=Tryz.zeroValue54
 t131:=Tryz.underlying218
 a131:=Tryz.isAgg218
 z131:=Tryz.sizeOf218
 v131:=Tryz.zeroValue218
 t182:=Tryz.underlying213
 a182:=Tryz.isAgg213
 z182:=Tryz.sizeOf213
 v182:=Tryz.zeroValue213
 t183:=Tryz.underlying214
 a183:=Tryz.isAgg214
 z183:=Tryz.sizeOf214
 v183:=Tryz.zeroValue214
 t218:=Tryz.underlying272
 a218:=Tryz.isAgg272
 z218:=Tryz.sizeOf272
 v218:=Tryz.zeroValue272
 t222:=Tryz.underlying276
 a222:=Tryz.isAgg276
 z222:=Tryz.sizeOf276
 v222:=Tryz.zeroValue276
 t228:=Tryz.underlying302
 a228:=Tryz.isAgg302
 z228:=Tryz.sizeOf302
 v228:=Tryz.zeroValue302
 t229:=Tryz.underlying303
 a229:=Tryz.isAgg303
 z229:=Tryz.sizeOf303
 v229:=Tryz.zeroValue303}
def Tryz.Bt:Go.Shelf.Ren:=⟨fun | 20=>215 | n=>n,fun | 22=>39 | 3=>3 | 4=>4 | 0=>0 | n=>n,fun | n=>n⟩
theorem Tryz.Ew:Go.Proofs.Lays2.n20 Tryz.prog Tryz.Bt:= {
 mixed:=by kernel_rfl
 f20:=Tryz.func215.trans (congrArg some (by kernel_rfl))
 t0:=Tryz.underlying0
 a0:=Tryz.isAgg0
 z0:=Tryz.sizeOf0
 v0:=Tryz.zeroValue0
 t3:=Tryz.underlying3
 a3:=Tryz.isAgg3
 z3:=Tryz.sizeOf3
 v3:=Tryz.zeroValue3
 t4:=Tryz.underlying4
 a4:=Tryz.isAgg4
 z4:=Tryz.sizeOf4
 v4:=Tryz.zeroValue4
 t22:=Tryz.underlying39
 a22:=Tryz.isAgg39
 z22:=Tryz.sizeOf39
 v22:=Tryz.zeroValue39
 i3:=by kernel_rfl}
end Go.Proofs
namespace Go.Proofs.YtjgccapbphadjaaGreatDoor
section
open Go Go.RowKit Go.Shelf Go.Maps
theorem Ih (R:Nat->Prop) (w:World) (os:Array Obj) (hR:∀ k,R k->k<w.heap.size):ae R w (Sort.grow w os) where
 os:=rfl
 tape:=rfl
 output:=rfl
 size:=by unfold Sort.grow;simp
 keep:=fun k hk=>by unfold Sort.grow;exact Array.getElem?_append_left (hR k hk)
theorem pD {base g n cap:Nat} {xs ys:List Value} {w:World} (h:w.ownsRow base 3 1 (.slice (some ⟨g,0,none⟩) n cap) n xs) (hy:ys.length=n): (w.setCells g 0 ys).ownsRow base 3 1 (.slice (some ⟨g,0,none⟩) n cap) n ys/\ae (· ≠g) w (w.setCells g 0 ys):=by
 obtain⟨zs,h1,h2⟩:=kU 0 ys 0 w xs (aD _) h;have hl:zs.length=n:=by have:=h1.1;omega
 have hx:xs.length=n:=by have:=h.1;omega
 have:zs=ys:=by
  apply List.ext_getElem?;intro j;by_cases hj:j<n
  ·have e1:=h1.cellAt j (by omega)
   have e2:=XQ (b:=g) (o:=0) (j:=j) (vs:=ys) (w:=w) (fun k hk=>by
    rw[h.cellAt _ (by omega),az (by omega)];rfl) (by omega)
   rw[Nat.zero_add]at e2;exact e1.symm.trans e2
  ·rw[aX (by omega),aX (by omega)]
 rw[this]at h1;exact⟨h1,h2⟩
theorem Ex {base g n cap m:Nat} {xs:List Value} {w:World} (h:w.ownsRow base 3 1 (.slice (some ⟨g,0,none⟩) n cap) n xs) (hm:m<=n): w.ownsRow base 3 1 (.slice (some ⟨g,0,none⟩) m cap) m (xs.take m):=by
 have hl:=h.1;refine⟨by rw[List.length_take];omega,?_⟩;rcases h.2 with⟨hv,_⟩ | ⟨g',cap',cur,hv,h1,h2,h3,h4,h5,h6⟩
 ·cases hv
 ·cases hv
  exact .inr ⟨g,cap,cur,rfl,h1,h2,by omega,h4,h5,by rw[<-h6,List.take_take];congr 1;omega⟩
def fF (l:List Int):List Int:=l.mergeSort fun x y=>decide (x<=y)
theorem kW (l:List Int):(fF l).length=l.length:=by unfold fF;exact List.length_mergeSort _
theorem Mf {base g n cap:Nat} {l:List Int} {w:World} (h:w.ownsRow base 3 1 (.slice (some ⟨g,0,none⟩) n cap) n (l.map aN)):Sort.Holds (Value.int .i64) w g 0 l.toArray:=by
 intro j hj;have hl:l.length=n:=by have:=h.1;simpa using this
 have hj':j<l.length:=by simpa using hj
 refine⟨?_,h.frozenAt _⟩;rw[Nat.zero_add,h.cellAt j (by omega),aO,az hj',Array.getElem!_eq_getD];simp[aN,hj']
theorem Mg (base:Nat) (v:Value) (n:Nat) (l:List Int) (w:World) (ho:w.ownsRow base 3 1 v n (l.map aN)) (hn:n<=1000000): ah 214 #[v] w fun e w'=>e=.returned (.tuple #[])/\w'.ownsRow base 3 1 v n ((fF l).map aN)/\ae (fun x=>x<w.heap.size/\v.ownBlock≠some x) w w':=by
 have hl:l.length=n:=by have:=ho.1;simpa using this
 rcases ho.2 with⟨rfl,rfl⟩ | ⟨g,cap,cur,rfl,hbg,hg,_⟩
 ·have hl0:l=[]:=List.eq_nil_of_length_eq_zero hl
  subst hl0;exact(Any.slices_Sort_int_none Tryz.VZ none 0 w).mono fun e w' ⟨he,hw⟩=>⟨he,by rw[hw,show fF []=[] from List.eq_nil_of_length_eq_zero (kW _)];exact ho,by rw[hw];exact ae.refl _ _⟩
 ·have hH:=Mf ho
  have hblk:ar w g cur 3:=hg;have:=Any.slices_Sort_int Tryz.VZ g 0 cap l w hH hblk.lt (by omega);rw[hl]at this;refine this.mono fun e w' ⟨he,q,os,hw⟩=>⟨he,?_⟩
  have e1:=Lib.putRow_eq_setCells (Value.int .i64) w g 0 l.toArray (fF l) q hH (by rw[kW];simp);have hw':w'=Sort.grow ((w.drewN q).setCells g 0 ((fF l).map (Value.int .i64))) os:=by rw[hw, <-e1];rfl
  have hd:(w.drewN q).ownsRow base 3 1 (.slice (some ⟨g,0,none⟩) n cap) n (l.map aN):=ho;obtain⟨a1,a2⟩:=pD hd (ys:=(fF l).map aN) (by rw[aQ,kW];exact hl);have XS:ae (· ≠g) w (w.drewN q):=⟨rfl,rfl,rfl,aD _,fun _ _=>rfl⟩;have hk:=XS.tr a2;rw[hw'];have hgk:∀ R:Nat->Prop,(∀ k,R k->k<((w.drewN q).setCells g 0 ((fF l).map (Value.int .i64))).heap.size)->ae R ((w.drewN q).setCells g 0 ((fF l).map (Value.int .i64))) (Sort.grow ((w.drewN q).setCells g 0 ((fF l).map (Value.int .i64))) os):=fun R hR=>Ih R _ os hR
  refine⟨ai a1 (hgk (· <_) fun _ h=>h) (fun k e=>(a1.lt k e).2),?_⟩;exact(hk.mono fun x hx e=>hx.2 (by rw[e];rfl)).tr (hgk _ fun x hx=>aA hx.1 hk.size)
/-! A list, sorted and compacted. -/
theorem Bu (l:List Int):(fF l).Pairwise (· <= ·):=by have:=List.pairwise_mergeSort (le:=fun x y:Int=>decide (x<=y)) (fun a b c h1 h2=>by simp at*;omega) (fun a b=>by simp;omega) l;exact this.imp fun h=>by simpa using h
theorem Mh {l:List Int} {x:Int} :x∈fF l↔x∈l:=(List.mergeSort_perm _ _).mem_iff
theorem gW (l:List Int) {i:Nat} (hi:i<l.length):l.toArray[i]! =l[i]:=by simp[hi]
theorem Ey {l:List Int} {x:Int} :x∈Lib.compact l↔x∈l:=by
 unfold Lib.compact Lib.compactUpTo;simp only[List.mem_map,List.mem_filter,List.mem_range];constructor
 ·rintro⟨i,⟨hi,_⟩,rfl⟩
  rw[gW l hi];exact List.getElem_mem _
 ·intro hx
  obtain⟨i,hi,rfl⟩:=List.getElem_of_mem hx;suffices ∀ i,(hi:i<l.length)->∃ j,(j<l.length/\Lib.keeps l.toArray j=true)/\l.toArray[j]! =l[i] from this i hi;intro i;induction i with
  | zero=>intro hi;exact⟨0,⟨hi,by simp[Lib.keeps]⟩,gW l hi⟩
  | succ i ih=>
   intro hi;by_cases h:l.toArray[i+1]! =l.toArray[i]!
   ·obtain⟨j,h1,h2⟩:=ih (by omega)
    refine⟨j,h1,?_⟩;rw[gW l hi,gW l (by omega)]at h;rw[h2,h]
   ·exact⟨i+1,⟨hi,by simp only[Lib.keeps,decide_eq_true_eq];exact .inr (by simpa using h)⟩,gW l hi⟩
theorem wh {l:List Int} (h:l.Pairwise (· <= ·)):(Lib.compact l).Pairwise (· < ·):=by
 unfold Lib.compact Lib.compactUpTo;rw[List.pairwise_map];have hr:((List.range l.length).filter (Lib.keeps l.toArray)).Pairwise (· < ·):=List.pairwise_lt_range.filter _;refine List.Pairwise.imp_of_mem (fun {i j} hi hj mz=>?_) hr;rw[List.mem_filter,List.mem_range]at hi hj;have hk:=hj.2;simp only[Lib.keeps,decide_eq_true_eq]at hk;rcases hk with hk | hk
 ·omega
 ·have h1:=List.pairwise_iff_getElem.1 h
  rw[gW l hj.1,gW l (by omega)]at hk;rw[gW l hi.1,gW l hj.1];have h2:=h1 (j-1) j (by omega) hj.1 (by omega);by_cases e:i=j-1
  ·subst e;omega
  ·have h3:=h1 i (j-1) hi.1 (by omega) (by omega)
   omega
theorem Bv {gn:List Nat} {n:Nat} (h:∀ k∈gn,k<n):Lib.compact (fF (gn.map Int.ofNat))=((List.range n).filter fun k=>gn.contains k).map Int.ofNat:=by
 obtain⟨C,hC⟩:=ag (Lib.compact (fF (gn.map Int.ofNat)));have hs:C.Pairwise (· < ·):=by rw[hC];exact wh (Bu _)
 have hm:∀ x,x∈C↔ ∃ k∈gn,(k:Int)=x:=fun x=>by
  rw[hC,Ey,Mh,List.mem_map];rfl
 rw[<-hC];have hp:∀ x∈C,0<=x:=fun x hx=>by obtain⟨k,_,rfl⟩:=(hm x).1 hx;omega
 have e1:(C.map Int.toNat).map Int.ofNat=C:=by rw[List.map_map];exact(List.map_congr_left fun x hx=>Int.toNat_of_nonneg (hp x hx)).trans (List.map_id _)
 rw[<-e1];congr 1;refine vT _ _ ?_ (List.pairwise_lt_range.filter _) fun k=>?_
 ·rw[List.pairwise_map]
  exact List.Pairwise.imp_of_mem (fun {a b} ha hb hab=>by have:=hp a ha;have:=hp b hb;omega) hs
 ·rw[List.mem_filter,List.mem_range,List.contains_iff_mem,List.mem_map]
  constructor
  ·rintro⟨x,hx,rfl⟩
   obtain⟨k,hk,rfl⟩:=(hm x).1 hx;exact⟨h k hk,hk⟩
  ·rintro⟨_,hk⟩
   exact⟨k,(hm _).2 ⟨k,hk,rfl⟩,Int.toNat_natCast k⟩
section
variable {p:List BS} {R:Nat→Nat→Prop} (hp:bS p R)
include hp
end
def gX (ps:List PT) (row:List (List Int)):List Int:=(List.zip ps row).filterMap fun y=>if y.1.nf.acc y.2 then some y.1.mark else none
theorem lO {ps:List PT} {row:List (List Int)} {m:Int} :m∈gX ps row↔ ∃ y∈List.zip ps row,y.1.nf.acc y.2=true/\y.1.mark=m:=by
 unfold gX;rw[List.mem_filterMap];constructor
 ·rintro⟨y,hy,h⟩
  split at h
  ·rename_i ha
   exact⟨y,hy,ha,Option.some.inj h⟩
  ·cases h
 ·rintro⟨y,hy,ha,rfl⟩
  exact⟨y,hy,by rw[if_pos ha]⟩
theorem yU {ps:List PT} {row:List (List Int)} (h:∀ x∈ps,0<=x.mark/\x.mark<=255):Lib.compact (fF (gX ps row))=dM ps row:=by
 have hm:∀ m∈gX ps row,0<=m/\m<=255:=fun m hm=>by
  obtain⟨y,hy,_,rfl⟩:=lO.1 hm;exact h _ (List.of_mem_zip (a:=y.1) (b:=y.2) hy).1
 have e:gX ps row=((gX ps row).map Int.toNat).map Int.ofNat:=by rw[List.map_map];exact((List.map_congr_left fun x hx=>Int.toNat_of_nonneg (hm x hx).1).trans (List.map_id _)).symm
 rw[e,Bv (n:=256) (fun k hk=>by
  obtain⟨x,hx,rfl⟩:=List.mem_map.1 hk;have:=hm x hx
  omega)]
 unfold dM;congr 1;refine List.filter_congr fun m _=>?_
 rw[Bool.eq_iff_iff,List.contains_iff_mem,List.mem_map,List.any_eq_true];constructor
 ·rintro⟨x,hx,rfl⟩
  obtain⟨y,hy,ha,rfl⟩:=lO.1 hx;refine⟨y,hy,?_⟩;have:=hm _ hx;simp only[Bool.and_eq_true,beq_iff_eq];exact⟨ha,by omega⟩
 ·rintro⟨y,hy,h1⟩
  simp only[Bool.and_eq_true,beq_iff_eq]at h1;exact⟨y.1.mark,lO.2 ⟨y,hy,h1.1,rfl⟩,by omega⟩
attribute [local go_sem] encS
def rz (w:World) (v:Value) (ll:List (List Int)):Prop:=nz w v ll\/(ll=[]/\∃ a:Addr,v=.slice (some a) 0 0)
theorem rz.below {w w':World} {v:Value} {ll:List (List Int)} (h:rz w v ll) (hk:aa w w'):rz w' v ll:=h.imp (fun h=>h.below hk) id
theorem rz.form {w:World} {v:Value} {ll:List (List Int)} (h:rz w v ll):∃ a cap,v=.slice a ll.length cap:=by
 rcases h with h | ⟨rfl,a,rfl⟩
 ·exact h.form
 ·exact⟨_,_,rfl⟩
theorem rz.elem {w:World} {a:Option Addr} {n cap:Nat} {ll:List (List Int)} (h:rz w (.slice a n cap) ll) {i:Nat} {l:List Int} (hi:ll[i]? =some l): ∃ b off a' c',a=some ⟨b,off,none⟩/\b<w.heap.size/\w.cell? ⟨b,off+i,none⟩=some (.slice a' l.length c')/\jL aN w (.slice a' l.length c') l:=by
 rcases h with h | ⟨rfl,_⟩
 ·exact h.elem hi
 ·simp at hi
end
section
open Go Go.RowKit Go.Shelf Go.Maps
theorem tT (v:Value) (l:List Int) (low high:Int) (al5:low=0\/low= -1) (w:World) (h:bZ aN w v l) (hn:l.length<=1000000): ah 166 #[v,.int .i64 low,.int .i64 high] w fun e w'=>e=.returned (.bool (dT low high l))/\w'=w:=by
 obtain⟨a,cap,rfl⟩:=h.form;obtain⟨n,iY⟩:=ag l.length;obtain⟨r,hr⟩:=ag (dT low high l);rw[<-iY]at h hn ⊢;rw[<-hr];have H:=hid h;have HN:=hid iY;have HR:=hid hr;have w0:IntKind.i64.wrap (low-1)=low-1:=IntWalk.i64_in _ (by omega);clear h iY hr;go_enter Tryz.func166,Tryz.ntmps166;go_wp2;clear w0;go_loopw [7,14] (fun lv iv wr=>∃ k:Nat,k<=n/\iv=.int .i64 k/\lv=.int .i64 (kq low l k)/\(∀ i,i<k->gV low high l i=true)/\wr=w) (fun _ iv _=>n-(intOf iv).toNat);case atStart=>exact⟨0,by omega,rfl,by simp[kq],fun i hi=>by omega,rfl⟩
 case round=>
  obtain⟨k,hk,rfl,rfl,ha,rfl⟩:=hrel;have HA:=hid ha;clear ha;obtain⟨q,hq⟩:=ag (kq low l k);rw[<-hq];have HQ:=hid hq;clear hq;by_cases hlt:k<n
  ·obtain⟨x,zI⟩:∃ x,l[k]? =some x:=⟨_,az (by have:=HN.out;omega)⟩
   obtain⟨g,off,rfl,hg,c1⟩:=H.out.elem zI;replace c1:wr.cell? ⟨g,off+k,none⟩=some (.int .i64 x):=c1;have eG:(k:Int)<n:=by omega
   have Hu:=hid zI;have VV:Hid (gV low high l k=(decide (q<x)&&decide (x<=high))):=hid (by rw[sN zI,HQ.out]);clear zI;by_cases h1:x<=q
   ·have d1:decide (x<=q)=true:=decide_eq_true h1
    have ig:=hid (HR.out.trans (Kh (by rw[<-HN.out];exact hlt) (by rw[VV.out,show decide (q<x)=false from decide_eq_false (by omega)];rfl)));go_wp2;go_ret;exact⟨by rw[ig.out];rfl,rfl⟩
   ·have d1:decide (x<=q)=false:=decide_eq_false h1
    by_cases h2:high<x
    ·have d2:decide (high<x)=true:=decide_eq_true h2
     have d3:decide (x>high)=true:=d2;have ig:=hid (HR.out.trans (Kh (by rw[<-HN.out];exact hlt) (by rw[VV.out,show decide (x<=high)=false from decide_eq_false (by omega)];simp)));go_wp2;go_ret;exact⟨by rw[ig.out];rfl,rfl⟩
    ·have d2:decide (high<x)=false:=decide_eq_false h2
     have d3:decide (x>high)=false:=d2;go_wp2
     exact⟨⟨k+1,by omega,by go_num,by rw[Ic Hu.out],fun i hi=>by
      rcases Nat.lt_or_ge i k with h3 | h3
      ·exact HA.out i h3
      ·obtain rfl:i=k:=by omega
       rw[VV.out];simp only[Bool.and_eq_true,decide_eq_true_eq]
       omega,by trivial⟩,by simp[intOf];omega⟩
  ·have tD:k=n:=by omega
   have ig:=hid (HR.out.trans (Ev fun i hi=>HA.out i (by rw[tD,HN.out];exact hi)));have Ii:¬ ((k:Int)<n):=by omega
   go_wp2;go_ret;exact⟨by rw[ig.out];rfl,rfl⟩
attribute [local go_sem] encS
def kX (w:World) (v:Value) (a:NF):Prop:=∃ v0 v1 v2 v3,v=.agg #[v0,v1,v2,v3,.bool a.emp]/\oo w v0 a.aL/\gT w v1 a.cF/\bZ aN w v2 a.fst/\bZ aN w v3 a.cR
theorem kX.below {w w':World} {v:Value} {a:NF} (h:kX w v a) (hk:aa w w'):kX w' v a:=by obtain⟨v0,v1,v2,v3,e,h0,h1,h2,h3⟩:=h;exact⟨v0,v1,v2,v3,e,⟨h0.1.below hk,h0.2⟩,h1.below hk,h2.below hk,h3.below hk⟩
structure PZ (a:NF):Prop where
 aL:a.aL.length<=1000000
 cF:a.cF.length<=1000000
 fst:a.fst.length<=1000000
 cR:a.cR.length<=1000000
 row:∀ l∈a.cF,l.length<=1000000
theorem ar.five {w:World} {b:Nat} {x y z u t:Value} {ty:TypeId} (h:ar w b #[x,y,z,u,t] ty):w.cell? ⟨b,0,none⟩=some x/\w.cell? ⟨b,1,none⟩=some y/\w.cell? ⟨b,2,none⟩=some z/\w.cell? ⟨b,3,none⟩=some u/\w.cell? ⟨b,4,none⟩=some t:=
 ⟨h.cell 0,h.cell 1,h.cell 2,h.cell 3,h.cell 4⟩
theorem ox {a:NF} (h:400<a.aL.length\/a.cF.length≠a.aL.length\/dT 0 ((a.aL.length:Int)-1) a.fst=false\/dT 0 ((a.aL.length:Int)-1) a.cR=false):a.right=false:=by
 rw[Bool.eq_false_iff];intro hr;have h1:=(eY a).1 hr;rcases h with h | h | h | h
 ·have:=h1.le;omega
 ·exact h h1.cF
 ·rw[h1.fst]at h;cases h
 ·rw[h1.cR]at h;cases h
theorem wk {a:NF} {p:Nat} (hp:p<a.aL.length) (h:dT 0 ((a.aL.length:Int)-1) (a.cF.getD p [])=false\/a.aL.getD p 0=0):a.right=false:=by
 rw[Bool.eq_false_iff];intro hr;have h1:=(eY a).1 hr;rcases h with h | h
 ·rw[h1.row p hp]at h;cases h
 ·exact h1.ne p hp h
theorem Ij {a:NF} (h1:a.aL.length<=400) (h2:a.cF.length=a.aL.length) (h3:dT 0 ((a.aL.length:Int)-1) a.fst=true) (h4:dT 0 ((a.aL.length:Int)-1) a.cR=true) (h5:∀ p,p<a.aL.length->dT 0 ((a.aL.length:Int)-1) (a.cF.getD p [])=true/\a.aL.getD p 0≠0):a.right=true:=(eY a).2 ⟨h1,h2,h3,h4,fun p hp=>(h5 p hp).1,fun p hp=>(h5 p hp).2⟩
theorem wu (v:Value) (a:NF) (w:World) (h:kX w v a) (sm:PZ a): ah 109 #[v] w fun e w'=>e=.returned (.bool a.right)/\aa w w':=by
 obtain⟨v0,v1,v2,v3,rfl,h0,h1,h2,h3⟩:=h;obtain⟨a0,c0,rfl⟩:=h0.1.form;obtain⟨a1,c1,rfl⟩:=h1.form;obtain⟨a2,c2,rfl⟩:=h2.form;obtain⟨a3,c3,rfl⟩:=h3.form;have CN:Hid (∀ (W:World) (v:Value) (l:List Int) (high:Int),bZ aN W v l->l.length<=1000000->ah 166 #[v,.int .i64 0,.int .i64 high] W fun e w'=>e=.returned (.bool (dT 0 high l))/\w'=W):=hid fun W v l high h hn=>tT v l 0 high (.inl rfl) W h hn
 obtain⟨n0,dh⟩:=ag a.aL.length;obtain⟨n1,fE⟩:=ag a.cF.length;obtain⟨n2,jk⟩:=ag a.fst.length;obtain⟨n3,GU⟩:=ag a.cR.length;obtain⟨R,hR⟩:=ag a.right;have SM:=hid sm;have m0:n0<=1000000:=by rw[dh];exact sm.aL
 have m1:n1<=1000000:=by rw[fE];exact sm.cF
 rw[<-dh]at h0 ⊢;rw[<-fE]at h1 ⊢;rw[<-jk]at h2 ⊢;rw[<-GU]at h3 ⊢;rw[<-hR];have HR:=hid hR;have zM:=hid dh;have sK:=hid fE;have uM:=hid jk;have HN3:=hid GU;have H0:=hid h0;have H1:=hid h1;have H2:=hid h2;have H3:=hid h3;clear h0 h1 h2 h3 dh fE jk GU hR sm;by_cases g1:400<n0
 ·have RR:=hid (HR.out.trans (ox (.inl (by rw[<-zM.out];exact g1))))
  have g1i:(400:Int)<n0:=by omega
  go_enter Tryz.func109,Tryz.ntmps109
  go_wp2;go_ret;exact⟨by rw[RR.out];rfl,((Ext.refl _).alloc _).below⟩
 by_cases g2:n1≠n0
 ·have RR:=hid (HR.out.trans (ox (.inr (.inl (by rw[<-zM.out, <-sK.out];exact g2)))))
  have g1i:¬ ((400:Int)<n0):=by omega
  have g2i:((n1:Int) != (n0:Int))=true:=by rw[bne_iff_ne];omega
  go_enter Tryz.func109,Tryz.ntmps109
  go_wp2;go_ret;exact⟨by rw[RR.out];rfl,((Ext.refl _).alloc _).below⟩
 replace g2:n1=n0:=Decidable.not_not.1 g2;subst g2;have g1i:¬ ((400:Int)<n1):=by omega
 have wn:IntKind.i64.wrap ((n1:Int)-1)=(n1:Int)-1:=IntWalk.i64_in _ (by omega);go_enter Tryz.func109,Tryz.ntmps109;go_wp2_with fail
 refine aH ?_;intro V hV;have B1:Hid (ar V w.heap.size #[.slice a0 n1 c0,.slice a1 n1 c1,.slice a2 n2 c2,.slice a3 n3 c3,.bool a.emp] 118):=hid (by rw[hV];exact ar.new w _ _);have X1:Hid (aa w V):=hid (by rw[hV];exact((Ext.refl w).alloc _).below);clear hV;refine(CN.out V _ a.fst _ (H2.out.below X1.out) SM.out.fst).mono ?_;rintro e w1 ⟨rfl,hw⟩;replace hw:=hw.symm;subst hw;cases r1:dT 0 ((n1:Int)-1) a.fst
 ·have RR:=hid (HR.out.trans (ox (.inr (.inr (.inl (by rw[<-zM.out];exact r1))))))
  clear r1;go_wp2;go_ret;exact⟨by rw[RR.out];rfl,X1.out⟩
 have R1:=hid r1;clear r1;obtain⟨i0,i1,i2,i3,i4⟩:=B1.out.five;go_wp2_with fail
 clear i0 i1 i2 i3 i4;refine(CN.out V _ a.cR _ (H3.out.below X1.out) SM.out.cR).mono ?_;rintro e w2 ⟨rfl,hw⟩;replace hw:=hw.symm;subst hw;cases r2:dT 0 ((n1:Int)-1) a.cR
 ·have RR:=hid (HR.out.trans (ox (.inr (.inr (.inr (by rw[<-zM.out];exact r2))))))
  clear r2;go_wp2;go_ret;exact⟨by rw[RR.out];rfl,X1.out⟩
 have R2:=hid r2;clear r2;obtain⟨i0,i1,i2,i3,i4⟩:=B1.out.five;go_wp2;clear i0 i1 i2 i3 i4;go_loopw [37] (fun iv wr=>∃ k:Nat,k<=n1/\iv=.int .i64 k/\(∀ p,p<k->dT 0 ((n1:Int)-1) (a.cF.getD p [])=true/\a.aL.getD p 0≠0)/\wr=V) (fun iv _=>n1-(intOf iv).toNat);case atStart=>exact⟨0,by omega,rfl,fun p hp=>by omega,rfl⟩
 case round=>
  obtain⟨k,hk,rfl,ha,rfl⟩:=hrel;have HA:=hid ha;clear ha;by_cases hlt:k<n1
  ·have eG:(k:Int)<n1:=by omega
   obtain⟨l,hl⟩:∃ l,a.cF[k]? =some l:=⟨_,az (by have:=sK.out;omega)⟩;obtain⟨s,hs⟩:∃ s,a.aL[k]? =some s:=⟨_,az (by have:=zM.out;omega)⟩;obtain⟨b,off,a',c',rfl,hb,cl,lQ⟩:=(H1.out.below X1.out).elem hl;have Ez:=hid lQ;have HL:=hid hl;have HS:=hid hs;have Oh:l.length<=1000000:=SM.out.row l (aw hl);clear lQ hl hs;go_wp2_with fail
   clear cl;refine(CN.out wr _ l _ Ez.out Oh).mono ?_;rintro e w3 ⟨rfl,hw⟩;replace hw:=hw.symm;subst hw;cases r3:dT 0 ((n1:Int)-1) l
   ·have RR:=hid (HR.out.trans (wk (p:=k) (by rw[<-zM.out];exact hlt) (.inl (by rw[getD_some HL.out, <-zM.out];exact r3))))
    clear r3;go_wp2;go_ret;exact⟨by rw[RR.out];rfl,X1.out⟩
   have R3:=hid r3;clear r3;obtain⟨i0,i1,i2,i3,i4⟩:=B1.out.five;obtain⟨b2,fV,rfl,hb2,d0,d1,d2,d3⟩:=(H0.out.1.below X1.out).elem HS.out;by_cases hz:s=0#256
   ·have he:∀ W,(Op.equalIn 10000 56 (.agg #[.int .u64 (wd s 0).toNat,.int .u64 (wd s 1).toNat,.int .u64 (wd s 2).toNat,.int .u64 (wd s 3).toNat]) (.agg #[.int .u64 0,.int .u64 0,.int .u64 0,.int .u64 0])).run Tryz.prog W=.ok true W:=fun W=>by
     have h1:=iy s 0 W;rw[gi,hz]at h1;rw[hz];exact h1
    have RR:=hid (HR.out.trans (wk (p:=k) (by rw[<-zM.out];exact hlt) (.inr (by rw[getD_some HS.out];exact hz))));clear hz;go_wp2;go_ret;exact⟨by rw[RR.out];rfl,X1.out⟩
   ·have he:∀ W,(Op.equalIn 10000 56 (.agg #[.int .u64 (wd s 0).toNat,.int .u64 (wd s 1).toNat,.int .u64 (wd s 2).toNat,.int .u64 (wd s 3).toNat]) (.agg #[.int .u64 0,.int .u64 0,.int .u64 0,.int .u64 0])).run Tryz.prog W=.ok false W:=fun W=>by
     have h1:=iy s 0 W;rw[gi,show(s==0)=false from by simpa using hz]at h1;exact h1
    have HZ:=hid hz;clear hz;go_wp2
    exact⟨⟨k+1,by omega,by go_num,fun p hp=>by
     rcases Nat.lt_or_ge p k with h3 | h3
     ·exact HA.out p h3
     ·obtain rfl:p=k:=by omega
      rw[getD_some HL.out,getD_some HS.out]
      exact⟨R3.out,HZ.out⟩,by trivial⟩,by simp[intOf];omega⟩
  ·have tD:k=n1:=by omega
   have RR:=hid (HR.out.trans (Ij (by rw[<-zM.out];omega) (by rw[<-zM.out, <-sK.out]) (by rw[<-zM.out];exact R1.out) (by rw[<-zM.out];exact R2.out) (by rw[<-zM.out];exact fun p hp=>HA.out p (by omega))));go_wp2;go_ret;exact⟨by rw[RR.out];rfl,X1.out⟩
end
end Go.Proofs.YtjgccapbphadjaaGreatDoor
