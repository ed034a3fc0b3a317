/- The automaton of positions that is made of a clean tree is right. -/
import Derived.Test.YtbiboekhakbnpaaGreatDoorOF12
set_option maxRecDepth 100000
set_option maxHeartbeats 16000000
open Go.Lib (hid)
namespace Go.Proofs.YtbiboekhakbnpaaGreatDoor
open Go Go.RowKit Go.Shelf Go.Maps
def tM (Q:World->Value->NF->Prop) (w:World) (x:PT) (f:Nat->Option Value):Prop:=
 ∃ v0 v1 v2 v3,Q w (.agg #[v0,v1,v2,v3,.bool x.nf.emp]) x.nf/\f 0=some v0/\f 1=some v1/\f 2=some v2/\f 3=some v3/\f 4=some (.bool x.nf.emp)/\f 5=some (.bool x.A0)/\f 6=some (.int .i64 x.mark)
theorem tM.mono {Q R:World->Value->NF->Prop} {w w':World} {x:PT} {f g:Nat->Option Value} (h:tM Q w x f) (hq:∀ v,Q w v x.nf->R w' v x.nf) (hf:∀ j,j<7->∀ u,f j=some u->g j=some u):tM R w' x g:=by obtain⟨v0,v1,v2,v3,h0,h1,h2,h3,h4,h5,h6,h7⟩:=h;exact⟨v0,v1,v2,v3,hq _ h0,hf 0 (by decide) _ h1,hf 1 (by decide) _ h2,hf 2 (by decide) _ h3,hf 3 (by decide) _ h4,hf 4 (by decide) _ h5,hf 5 (by decide) _ h6,hf 6 (by decide) _ h7⟩
theorem dM.below {base:Nat} {w w':World} {v:Value} {a:NF} (h:dM base w v a) (hk:Below w.heap.size w w'):dM base w' v a:=by obtain⟨v0,v1,v2,v3,e,h0,h1,h2,h3⟩:=h;exact⟨v0,v1,v2,v3,e,ag h0 hk,h1.below hk,ag h2 hk,ag h3 hk⟩
theorem dM.base {base base':Nat} {w:World} {v:Value} {a:NF} (h:dM base w v a) (hb:base'<=base):dM base' w v a:=by obtain⟨v0,v1,v2,v3,e,h0,h1,h2,h3⟩:=h;exact⟨v0,v1,v2,v3,e,ax h0 hb,h1.base hb,ax h2 hb,ax h3 hb⟩
theorem pH {w w':World} {b1 b2 s1 s2 n1 n2:Nat} {e1 e2:TypeId} {v1 v2:Value} {x1 x2:List Value} (he:e1≠e2) (h1:w.ownsRow b1 e1 s1 v1 n1 x1) (h2:w.ownsRow b2 e2 s2 v2 n2 x2) (hk:aa (fun x=>x<w.heap.size/\v2.ownBlock≠some x) w w'):w'.ownsRow b1 e1 s1 v1 n1 x1:=
 ae h1 hk fun x hx=>⟨(h1.lt x hx).2,fun e=>by
  rcases ownBlock_ne he h1 h2 with h5 | h5
  ·rw[h5]at hx;cases hx
  ·exact h5 (hx.trans e.symm)⟩
theorem aC.far {w w':World} {b1 b2 s2 n2:Nat} {e2:TypeId} {v1 v2:Value} {x2:List Value} {ll:List (List Int)} (h1:aC b1 w v1 ll) (h2:w.ownsRow b2 e2 s2 v2 n2 x2) (ha:37≠e2) (hb:3≠e2) (hk:aa (fun x=>x<w.heap.size/\v2.ownBlock≠some x) w w'):aC b1 w' v1 ll:=by obtain⟨us,e,o1,o2⟩:=h1;exact⟨us,e,pH ha o1 h2 hk,fun i u l hu hl=>pH hb (o2 i u l hu hl) h2 hk⟩
theorem dM.far {w w':World} {b1 b2 s2 n2:Nat} {e2:TypeId} {v1 v2:Value} {x2:List Value} {a:NF} (h1:dM b1 w v1 a) (h2:w.ownsRow b2 e2 s2 v2 n2 x2) (h0:70≠e2) (ha:37≠e2) (hb:3≠e2) (hk:aa (fun x=>x<w.heap.size/\v2.ownBlock≠some x) w w'):dM b1 w' v1 a:=by obtain⟨v0,v1,v2,v3,e,o0,o1,o2,o3⟩:=h1;exact⟨v0,v1,v2,v3,e,pH h0 o0 h2 hk,o1.far h2 ha hb hk,pH hb o2 h2 hk,pH hb o3 h2 hk⟩
end Go.Proofs.YtbiboekhakbnpaaGreatDoor
namespace Go.Proofs.YtbiboekhakbnpaaGreatDoor
open Go Go.ChangeShapes Go.WideShapes Go.ChangeAt Go.RowKit Go.Deep
section
variable {H:Type} {enc:TypeId×Value→H} {W:World}
theorem EW {b j:Nat} {u:Value} (h:W.cell? ⟨b,j,none⟩=some u):b<W.heap.size:=by
 unfold World.cell? at h;cases hh:W.heap[b]? with
 | none=>rw[hh]at h;cases h
 | some o=>exact(Array.getElem?_eq_some_iff.1 hh).1
theorem lM (b o i:Nat):(⟨b,o,none⟩:Addr).add i=⟨b,o+i,none⟩:=by
 unfold Addr.add;split
 ·rename_i h;subst h;rfl
 ·rfl
end
end Go.Proofs.YtbiboekhakbnpaaGreatDoor
namespace Go.Proofs.YtbiboekhakbnpaaGreatDoor
open Go Go.RowKit Go.Shelf Go.Maps
theorem pI {ps:List PT} {fuel:Nat} {st:List (List (List Int))×List (List Nat)} (h:fD ps fuel=some st):TQ fuel (partsOf (aL ps)).length (nk ps) (gh ps) fuel st:=by
 unfold fD at h;split at h
 ·cases h
 ·rename_i hf
  exact mq (by omega) (py ps) (fun row k hr _=>jH hr _) fuel h
theorem Bp {ps:List PT} {fuel:Nat} (hf2:fuel<=4000) {st:List (List (List Int))×List (List Nat)} (h:fD ps fuel=some st):Rt ⟨partsOf (aL ps),st.2.map fun r=>r.map Int.ofNat,st.1.map (bX ps)⟩:=by
 have I:=pI h;have hlen:st.2.length=st.1.length:=by have:=I.len;have:=I.le;omega
 have hrow:∀ s,s<st.2.length->((st.2.map fun r=>r.map Int.ofNat).getD s [])=(st.2.getD s []).map Int.ofNat/\(st.2.getD s [])∈st.2:=fun s hs=>by
  have e:=bh (l:=st.2) [] hs;refine⟨?_,List.mem_of_getElem? e⟩;rw[List.getD_eq_getElem?_getD,List.getElem?_map,e];rfl
 refine⟨?_,?_,?_,rO _,?_,?_,?_⟩
 ·show 1<=(st.2.map fun r=>r.map Int.ofNat).length
  have:=(List.getElem?_eq_some_iff.1 I.head).1;simp;omega
 ·show(st.2.map fun r=>r.map Int.ofNat).length<=4000
  have:=I.le;simp;omega
 ·simp[hlen]
 ·intro s hs
  rw[List.length_map]at hs;obtain⟨e,hm⟩:=hrow s hs;show((st.2.map fun r=>r.map Int.ofNat).getD s []).length=_;rw[e,List.length_map];exact(I.rows _ hm).1
 ·intro s hs t ht
  rw[List.length_map]at hs;obtain⟨e,hm⟩:=hrow s hs;replace ht:t∈((st.2.map fun r=>r.map Int.ofNat).getD s []):=ht;rw[e]at ht;obtain⟨q,hq,rfl⟩:=List.mem_map.1 ht;have h2:=(I.rows _ hm).2 q hq;show(0:Int)<=(q:Int)/\(q:Int)<(((st.2.map fun r=>r.map Int.ofNat).length:Nat):Int);rw[List.length_map];omega
 ·intro s hs
  rw[List.length_map]at hs;show qh ((st.1.map (bX ps)).getD s [])=true;rw[List.getD_eq_getElem?_getD,List.getElem?_map,List.getElem?_eq_getElem (by omega)];exact EH ps _
theorem gi {ps:List PT} {fuel:Int} {d:DF} (h:fJ ps fuel=(d,0)):Rt d:=by
 unfold fJ at h;split at h
 ·cases h
 ·split at h
  ·cases h
  ·split at h
   ·cases h
   ·rename_i hf
    split at h
    ·cases h
    ·rename_i st hst
     have e:(⟨partsOf (aL ps),st.2.map fun r=>r.map Int.ofNat,st.1.map (bX ps)⟩:DF)=d:=(Prod.mk.inj h).1;rw[<-e];exact Bp (by omega) hst
section
variable {α:Type} [DecidableEq α]
theorem Bq {f:Nat} {st nI:List α×List Nat} {q:α} (h:gY f st q=some nI):st.1.length<=nI.1.length:=by
 unfold gY at h;split at h
 ·split at h
  ·cases h
  ·cases h;simp
 ·cases h;exact Nat.le_refl _
theorem IV {f g:Nat} {st nI:List α×List Nat} {q:α} (h:gY f st q=some nI) (hg:nI.1.length<=g):gY g st q=some nI:=by
 unfold gY at h ⊢;split at h
 ·rename_i e
  rw[if_pos e];split at h
  ·cases h
  ·cases h
   rw[if_neg];have:st.1.length+1<=g:=by simpa using hg
   omega
 ·rename_i e
  rw[if_neg e];exact h
theorem wX {f:Nat} {s:Nat->α} {todo:List α} :∀ {k:Nat} {st:List α×List Nat},bY f s todo k=some st->todo.length<=st.1.length
 | 0,st,h=>by cases h;exact Nat.le_refl _
 | k+1,st,h=>by
  rw[bY]at h;obtain⟨st1,h1,h2⟩:=Option.bind_eq_some_iff.1 h;exact Nat.le_trans (wX h1) (Bq h2)
theorem tN {f g:Nat} {s:Nat->α} {todo:List α} :∀ {k:Nat} {st:List α×List Nat},bY f s todo k=some st->st.1.length<=g->bY g s todo k=some st
 | 0,st,h,_=>h
 | k+1,st,h,hg=>by
  rw[bY]at h ⊢;obtain⟨st1,h1,h2⟩:=Option.bind_eq_some_iff.1 h;rw[tN h1 (Nat.le_trans (Bq h2) hg)];exact IV h2 hg
theorem EX {f:Nat} {s:α->Nat->α} {K n:Nat} {st nI:List α×List (List Nat)} (h:cV f s K n st=some nI):st.1.length<=nI.1.length:=by
 unfold cV at h;split at h
 ·cases h;exact Nat.le_refl _
 ·obtain⟨r,h1,h2⟩:=Option.map_eq_some_iff.1 h
  cases h2
  exact wX h1
theorem Br {f g:Nat} {s:α->Nat->α} {K n:Nat} {st nI:List α×List (List Nat)} (h:cV f s K n st=some nI) (hg:nI.1.length<=g):cV g s K n st=some nI:=by
 unfold cV at h ⊢;split at h
 ·exact h
 ·obtain⟨r,h1,h2⟩:=Option.map_eq_some_iff.1 h
  cases h2
  rw[tN h1 hg];rfl
theorem wY {f g:Nat} {s:α->Nat->α} {K:Nat} {p0:α} :∀ {n:Nat} {st:List α×List (List Nat)},cQ f s K p0 n=some st->st.1.length<=g->cQ g s K p0 n=some st
 | 0,st,h,_=>h
 | n+1,st,h,hg=>by
  rw[cQ]at h ⊢;obtain⟨st1,h1,h2⟩:=Option.bind_eq_some_iff.1 h;rw[wY h1 (Nat.le_trans (EX h2) hg)];exact Br h2 hg
end
theorem ji {ps:List PT} {f:Nat} {st:List (List (List Int))×List (List Nat)} (h:fD ps f=some st):1≤f∧st.1.length≤f∧1≤st.1.length:=by
  unfold fD at h;split at h
  · cases h
  · have hf:1≤f:=by omega
    have I:=mq hf (py ps) (fun _ _ hr _=>jH hr _) f h
    exact ⟨hf, I.le, by rcases e : st.1 with _ | ⟨x, l⟩
                        · have := I.head; rw [e] at this; cases this
                        · simp⟩
theorem mB {ps:List PT} {f g:Nat} {st:List (List (List Int))×List (List Nat)} (h:fD ps f=some st) (hg:st.1.length<=g):fD ps g=some st:=by
 obtain⟨hf,hl,h1⟩:=ji h;unfold fD at h ⊢;rw[if_neg (by omega)]at h ⊢;have h2:=wY h hg;by_cases e:f<=g
 ·exact tA h2 hl g e
 ·rcases h3:cQ g (fun row k=>bU ps row (lb (partsOf (aL ps)) k)) (partsOf (aL ps)).length (gh ps) g with _ | st2
  ·rw[qi h3 f (by omega)]at h2
   cases h2
  ·have I:=mq (by omega) (py ps) (fun _ _ hr _=>jH hr _) g h3
   rw[tA h3 I.le f (by omega)]at h2;exact h2
theorem IX {ps:List PT} {f g:Nat} {st:List (List (List Int))×List (List Nat)} (h:fD ps f=some st) (hg:g<st.1.length):fD ps g=none:=by
 rcases h3:fD ps g with _ | st2
 ·rfl
 ·obtain⟨_,hl,_⟩:=ji h
  obtain⟨_,hl2,_⟩:=ji h3;have:=mB h3 (g:=f) (by omega);rw[h]at this;cases this;omega
theorem qy {ps:List PT} {f:Int} (h:(fJ ps f).2=0):¬64<ps.length/\ps.all PT.ok=true/\0<=f/\f<=4000/\∃ st,fD ps f.toNat=some st/\(fJ ps f).1=⟨partsOf (aL ps),st.2.map fun r=>r.map Int.ofNat,st.1.map (bX ps)⟩:=by
 unfold fJ at h ⊢;split at h
 ·exact absurd h (by decide)
 ·rename_i h1
  split at h
  ·exact absurd h (by decide)
  ·rename_i h2
   split at h
   ·exact absurd h (by decide)
   ·rename_i h3
    rw[if_neg h1,if_neg h2,if_neg h3];rcases e:fD ps f.toNat with _ | st
    ·rw[e]at h
     have h':(181:Int)=0:=h;omega
    ·exact⟨h1,by simpa using h2,by omega,by omega,st,rfl,rfl⟩
theorem wZ {ps:List PT} {f g:Int} (h:(fJ ps f).2=0) (h0:0<=g) (h1:g<=4000):fJ ps g=if((fJ ps f).1.mr.length:Int)<=g then((fJ ps f).1,0)else(⟨[],[],[]⟩,181):=by
 obtain⟨a1,a2,a3,a4,st,a5,a6⟩:=qy h;rw[a6];have e:(st.1.map (bX ps)).length=st.1.length:=by simp
 unfold fJ;rw[if_neg a1,if_neg (by rw[a2];decide),if_neg (by omega)];show _=if((st.1.map (bX ps)).length:Int)<=g then _ else _
 rw[e];by_cases hc:(st.1.length:Int)<=g
 ·rw[if_pos hc,mB a5 (g:=g.toNat) (by omega)]
 ·rw[if_neg hc,IX a5 (g:=g.toNat) (by omega)]
theorem LX {l:List Int} (h:qh l=true):∀ k,k<l.length->(k:Int)<=l.getD k 0/\l.getD k 0<=255:=by
 unfold qh at h;rw[List.all_eq_true]at h;intro k;induction k with
 | zero=>
  intro hk;have:=h 0 (by simpa using hk);unfold qZ lD at this;simp at this;refine⟨?_,?_⟩<;>simp[List.getD_eq_getElem?_getD]at* <;>omega
 | succ k ih=>
  intro hk;have h1:=ih (by omega);have:=h (k+1) (by simpa using hk);unfold qZ lD at this;rw[if_neg (by omega),Bool.and_eq_true,decide_eq_true_eq,decide_eq_true_eq,Nat.add_sub_cancel]at this
  push_cast
  omega
theorem Rt.Ui {d:DF} (h:Rt d):Sm d:=by
 have hn:=h.le;have hk:=h.Ey;have idx:∀ (ll:List (List Int)) (l:List Int),l∈ll->∃ i,i<ll.length/\ll.getD i []=l:=fun ll l hl=>by
  obtain⟨i,hi⟩:=List.getElem?_of_mem hl;exact⟨i,(List.getElem?_eq_some_iff.1 hi).1,getD_some hi⟩
 refine⟨by omega,by omega,by have:=h.mr;omega,fun l hl=>?_,fun l hl=>?_⟩
 ·obtain⟨i,h1,h2⟩:=idx _ _ hl
  have:=h.len i h1;rw[h2]at this;omega
 ·obtain⟨i,h1,h2⟩:=idx _ _ hl
  have hr:=h.ris i (by have:=h.mr;omega);rw[h2]at hr;by_cases h0:l.length=0
  ·omega
  ·have:=LX hr (l.length-1) (by omega)
   omega
def yE (v0 v1 v2 v3:Value) (x:PT):List Value:=[v0,v1,v2,v3,.bool x.nf.emp,.bool x.A0,.int .i64 x.mark]
theorem Qj {xs:List Value} {k i j:Nat} (hl:xs.length=k*7) (c:List Value) (hj:j<7) (hi:i<k):(xs++c)[i*7+j]? =xs[i*7+j]? :=List.getElem?_append_left (by omega)
theorem EY {xs:List Value} {k j:Nat} (hl:xs.length=k*7) (c:List Value):(xs++c)[k*7+j]? =c[j]? :=by rw[List.getElem?_append_right (by omega),hl];congr 1;omega
theorem dM.form {base:Nat} {w:World} {v:Value} {a:NF} (h:dM base w v a):∃ a0 n0 c0 a1 n1 c1 a2 n2 c2 a3 n3 c3,v=.agg #[.slice a0 n0 c0,.slice a1 n1 c1,.slice a2 n2 c2,.slice a3 n3 c3,.bool a.emp]:=by obtain⟨v0,v1,v2,v3,rfl,h0,h1,h2,h3⟩:=h;obtain⟨a0,c0,rfl⟩:=ownsRow_form h0;obtain⟨a1,c1,rfl⟩:=h1.form;obtain⟨a2,c2,rfl⟩:=ownsRow_form h2;obtain⟨a3,c3,rfl⟩:=ownsRow_form h3;exact⟨_,_,_,_,_,_,_,_,_,_,_,_,rfl⟩
end Go.Proofs.YtbiboekhakbnpaaGreatDoor
namespace Go.Proofs.YtbiboekhakbnpaaGreatDoor
open Go Go.RowKit
inductive RX where
 | nd (kind:Nat) (set:BS) (mn mx:Int) (subs:List RX)
def RX.kind:RX->Nat | .nd k _ _ _ _=>k
def RX.set:RX->BS | .nd _ s _ _ _=>s
def RX.mn:RX->Int | .nd _ _ a _ _=>a
def RX.mx:RX->Int | .nd _ _ _ b _=>b
def RX.subs:RX->List RX | .nd _ _ _ _ l=>l
theorem RX.ind {P:RX->Prop} (h:∀ k s a b l,(∀ t∈l,P t)->P (.nd k s a b l)):∀ t,P t:=by
 intro t;induction t using RX.rec (motive_2:=fun l=>∀ t∈l,P t)with
 | nd k s a b l ih=>exact h k s a b l ih
 | nil=>
  rename_i x hx;cases hx
 | cons t l h1 h2=>
  rename_i x hx;rcases List.mem_cons.1 hx with e | e
  ·rw[e];exact h1
  ·exact h2 _ e
mutual
def RX.size:RX->Nat
 | .nd _ _ _ _ l=>1+RX.sizes l
def RX.sizes:List RX->Nat
 | []=>0
 | t::l=>t.size+RX.sizes l
end
mutual
def RX.pre:RX->List RX
 | .nd k s a b l=>.nd k s a b l::RX.jL l
def RX.jL:List RX->List RX
 | []=>[]
 | t::l=>t.pre++RX.jL l
end
def RX.times (mn mx:Int):Nat:=if mx= -1 then max mn.toNat 1 else max mn.toNat mx.toNat
mutual
def RX.bM:RX->Nat
 | .nd k _ a b l=>min (((if k=2 then 1 else 0)+RX.aS l)*(if k=5 then min (RX.times a b) 10001 else 1)) 10001
def RX.aS:List RX->Nat
 | []=>0
 | t::l=>t.bM+RX.aS l
end
def RX.has (t:RX) (k:Nat):Bool:=t.subs.any fun x=>x.kind==k
def gI (a b:Int):Bool:=if a<0\/16<a\/(a=1/\b=1)then false else decide (b= -1) || (decide (1<=b)&&decide (b<=16)&&decide (a<=b))
def RX.ct (t:RX):Bool:=
 if(t.kind≠2/\t.set≠0)\/(t.kind≠5/\(t.mn≠0\/t.mx≠0))\/(t.kind<3/\0<t.subs.length)then false else
 if t.kind=1 then true else
 if t.kind=2 then decide (t.set≠0)else
 if t.kind=3 then decide (1<t.subs.length)&& !t.has 1&& !t.has 3 else
 if t.kind=4 then decide (1<t.subs.length)&& !t.has 4 else
 if t.kind=5 then decide (t.subs.length=1)&&gI t.mn t.mx&& !t.has 1 else
 decide (t.kind=6)&&decide (t.subs.length=1)
def RX.clean (t:RX):Bool:=decide (t.size<=10000)&&t.pre.all RX.ct
abbrev PB:=BitVec 448
structure GP where
 fst:PB
 bV:PB
 emp:Bool
structure GM where
 az:List BS
 bJ:List PB
def gP (m:GM) (last first:PB):GM:=⟨m.az,m.bJ.mapIdx fun p f=>if last.getLsbD p then f ||| first else f⟩
def bR (m:GM) (a b:GP):GM×GP:=(gP m a.bV b.fst,⟨if a.emp then a.fst ||| b.fst else a.fst,if b.emp then b.bV ||| a.bV else b.bV,a.emp&&b.emp⟩)
def dK (n:Nat):PB:=1#448 <<< n
def dX (mn mx:Int):Nat:=if mx= -1 then(max mn 1).toNat else mx.toNat
def yF (mn mx:Int) (k:Nat) (a:GP) (x:GM×GP):GM×GP:=
 bR (if mx= -1/\k+1=dX mn mx then gP x.1 x.2.bV x.2.fst else x.1) a ⟨x.2.fst,x.2.bV,x.2.emp || decide (mn<=k)⟩
def di (mn mx:Int) (f:GM->GM×GP) (m:GM):Nat->GM×GP
 | 0=>(m,⟨0,0,true⟩)
 | k+1=>let y:=di mn mx f m k;yF mn mx k y.2 (f y.1)
mutual
def RX.cE:RX->GM->GM×GP
 | .nd k s a b l,m=>
  if k=0 then(m,⟨0,0,false⟩)else
  if k=1 then(m,⟨0,0,true⟩)else
  if k=2 then(⟨m.az++ [s],m.bJ++ [0]⟩,⟨dK m.az.length,dK m.az.length,false⟩)else
  if k=3 then RX.gR l (m,⟨0,0,true⟩)else
  if k=4 then RX.eP l (m,⟨0,0,false⟩)else
  if k=5 then RX.Yn a b l m else RX.Yo l m
def RX.gR:List RX->GM×GP->GM×GP
 | [],st=>st
 | t::l,st=>let x:=t.cE st.1;RX.gR l (bR x.1 st.2 x.2)
def RX.eP:List RX->GM×GP->GM×GP
 | [],st=>st
 | t::l,st=>let x:=t.cE st.1;RX.eP l (x.1,⟨st.2.fst ||| x.2.fst,st.2.bV ||| x.2.bV,st.2.emp || x.2.emp⟩)
def RX.Yn (mn mx:Int):List RX->GM->GM×GP
 | [],m=>(m,⟨0,0,true⟩)
 | t::_,m=>di mn mx (fun m=>t.cE m) m (dX mn mx)
def RX.Yo:List RX->GM->GM×GP
 | [],m=>(m,⟨0,0,false⟩)
 | t::_,m=>t.cE m
end
def dm (x:PB):List Int:=((List.range 448).filter fun p=>x.getLsbD p).map Int.ofNat
def cF (x:PB) (n:Nat):Prop:=∀ p,x.getLsbD p=true->p<n
theorem cF.zero (n:Nat):cF 0 n:=fun p h=>by simp at h
theorem cF.mono {x:PB} {n n':Nat} (h:cF x n) (hn:n<=n'):cF x n':=fun p hp=>Nat.lt_of_lt_of_le (h p hp) hn
theorem cF.or {x y:PB} {n:Nat} (h:cF x n) (h':cF y n):cF (x ||| y) n:=fun p hp=>by
 rw[BitVec.getLsbD_or]at hp;rcases Bool.or_eq_true_iff.1 hp with hp | hp
 ·exact h p hp
 ·exact h' p hp
theorem GR (n p:Nat):(dK n).getLsbD p=(decide (p<448)&&decide (p=n)):=by
 unfold dK;rw[BitVec.getLsbD_shiftLeft,BitVec.getLsbD_one];by_cases h1:p<448
 ·by_cases h2:p=n
  ·subst h2;simp[h1]
  ·by_cases h3:p<n
   ·simp[h1,h2,h3]
   ·have h4:p-n≠0:=by omega
    simp[h1,h2,h3,h4]
 ·simp[h1]
theorem cF.bit (n:Nat):cF (dK n) (n+1):=fun p hp=>by
 rw[GR]at hp;simp at hp;omega
structure GM.ok (m:GM):Prop where
 len:m.bJ.length=m.az.length
 bJ:∀ f∈m.bJ,cF f m.az.length
 ne:∀ s∈m.az,s≠0
structure GP.ok (a:GP) (n:Nat):Prop where
 fst:cF a.fst n
 bV:cF a.bV n
theorem GP.ok.mono {a:GP} {n n':Nat} (h:a.ok n) (hn:n<=n'):a.ok n':=⟨h.fst.mono hn,h.bV.mono hn⟩
theorem Bt {m:GM} (h:m.ok) {last first:PB} (hf:cF first m.az.length):(gP m last first).ok:=by
 refine⟨?_,fun f hf'=>?_,h.ne⟩
 ·show(m.bJ.mapIdx _).length=_
  rw[List.length_mapIdx];exact h.len
 ·obtain⟨i,hi,rfl⟩:=List.mem_mapIdx.1 hf'
  have h1:=h.bJ _ (List.getElem_mem hi);show cF (if last.getLsbD i=true then m.bJ[i] ||| first else m.bJ[i]) m.az.length;split
  ·exact h1.or hf
  ·exact h1
theorem Bu {m:GM} (h:m.ok) {a b:GP} (ha:a.ok m.az.length) (hb:b.ok m.az.length):(bR m a b).1.ok/\(bR m a b).1.az=m.az/\(bR m a b).2.ok m.az.length:=by
 refine⟨Bt h hb.fst,rfl,?_,?_⟩
 ·show cF (if a.emp=true then a.fst ||| b.fst else a.fst) _
  split
  ·exact ha.fst.or hb.fst
  ·exact ha.fst
 ·show cF (if b.emp=true then b.bV ||| a.bV else b.bV) _
  split
  ·exact hb.bV.or ha.bV
  ·exact hb.bV
mutual
def RX.cnt:RX->Nat
 | .nd k _ a b l=>if k=0 then 0 else if k=1 then 0 else if k=2 then 1 else if k=3 then RX.fg l else if k=4 then RX.fg l else if k=5 then dX a b*RX.cnt1 l else RX.cnt1 l
def RX.fg:List RX->Nat
 | []=>0
 | t::l=>t.cnt+RX.fg l
def RX.cnt1:List RX->Nat
 | []=>0
 | t::_=>t.cnt
end
structure gT (m:GM) (r:GM×GP) (c:Nat):Prop where
 ok:r.1.ok
 len:r.1.az.length=m.az.length+c
 gp:r.2.ok r.1.az.length
theorem yG:∀ (l:List RX),(∀ t∈l,∀ m:GM,m.ok->gT m (t.cE m) t.cnt)->∀ (m:GM) (st:GM×GP) (c:Nat),gT m st c->gT m (RX.gR l st) (c+RX.fg l)
 | [],_,m,st,c,h=>by rw[RX.gR,RX.fg];exact h
 | t::l,hl,m,st,c,h=>by
  rw[RX.gR,RX.fg, <-Nat.add_assoc];refine yG l (fun x hx=>hl x (List.mem_cons_of_mem _ hx)) m _ _ ?_;have h1:=hl t (List.mem_cons_self ..) st.1 h.ok;obtain⟨g1,g2,g3⟩:=Bu h1.ok (h.gp.mono (by rw[h1.len];omega)) h1.gp;refine⟨g1,?_,?_⟩
  ·rw[g2,h1.len,h.len];omega
  ·rw[g2];exact g3
theorem yH:∀ (l:List RX),(∀ t∈l,∀ m:GM,m.ok->gT m (t.cE m) t.cnt)->∀ (m:GM) (st:GM×GP) (c:Nat),gT m st c->gT m (RX.eP l st) (c+RX.fg l)
 | [],_,m,st,c,h=>by rw[RX.eP,RX.fg];exact h
 | t::l,hl,m,st,c,h=>by
  rw[RX.eP,RX.fg, <-Nat.add_assoc];refine yH l (fun x hx=>hl x (List.mem_cons_of_mem _ hx)) m _ _ ?_;have h1:=hl t (List.mem_cons_self ..) st.1 h.ok;have h2:=h.gp.mono (n':=(t.cE st.1).1.az.length) (by rw[h1.len];omega);refine⟨h1.ok,?_,h2.fst.or h1.gp.fst,h2.bV.or h1.gp.bV⟩;show(t.cE st.1).1.az.length=_;rw[h1.len,h.len];omega
theorem Qk {mn mx:Int} {k c:Nat} {m:GM} {a:GP} (ha:a.ok m.az.length) {x:GM×GP} (h:gT m x c):gT m (yF mn mx k a x) c:=by
 unfold yF;have h1:(if mx= -1/\k+1=dX mn mx then gP x.1 x.2.bV x.2.fst else x.1).ok/\(if mx= -1/\k+1=dX mn mx then gP x.1 x.2.bV x.2.fst else x.1).az=x.1.az:=by
  split
  ·exact⟨Bt h.ok h.gp.fst,rfl⟩
  ·exact⟨h.ok,rfl⟩
 obtain⟨g1,g2,g3⟩:=Bu h1.1 (a:=a) (b:=⟨x.2.fst,x.2.bV,x.2.emp || decide (mn<=k)⟩) (by rw[h1.2];exact ha.mono (by rw[h.len];omega)) (by rw[h1.2];exact⟨h.gp.fst,h.gp.bV⟩);refine⟨g1,?_,?_⟩
 ·rw[g2,h1.2,h.len]
 ·rw[g2];exact g3
theorem tO {mn mx:Int} {c:Nat} {f:GM->GM×GP} (hf:∀ m:GM,m.ok->gT m (f m) c) {m:GM} (h:m.ok):∀ k,gT m (di mn mx f m k) (k*c)
 | 0=>⟨h,by simp[di],cF.zero _,cF.zero _⟩
 | k+1=>by
  have ih:=tO hf h (mn:=mn) (mx:=mx) k;have h1:=Qk (mn:=mn) (mx:=mx) (k:=k) ih.gp (hf _ ih.ok);refine⟨h1.ok,?_,h1.gp⟩;show(yF mn mx k (di mn mx f m k).2 (f (di mn mx f m k).1)).1.az.length=_;rw[h1.len,ih.len,Nat.succ_mul];omega
mutual
def RX.full:RX->Bool
 | .nd k s _ _ l=>(k != 2 || s != 0)&&RX.xd l
def RX.xd:List RX->Bool
 | []=>true
 | t::l=>t.full&&RX.xd l
end
theorem xf:∀ {l:List RX},RX.xd l=true->∀ t∈l,t.full=true
 | [],_,t,h=>by cases h
 | x::l,h,t,ht=>by
  rw[RX.xd,Bool.and_eq_true]at h;rcases List.mem_cons.1 ht with rfl | ht
  ·exact h.1
  ·exact xf h.2 t ht
theorem lN (t:RX):t.full=true->∀ m:GM,m.ok->gT m (t.cE m) t.cnt:=by
 induction t using RX.ind with
 | h k s a b l ih=>
  intro hf m hm;rw[RX.full,Bool.and_eq_true]at hf;have hl:∀ t∈l,∀ m:GM,m.ok->gT m (t.cE m) t.cnt:=fun t ht=>ih t ht (xf hf.2 t ht)
  rw[RX.cE,RX.cnt];by_cases h0:k=0
  ·rw[if_pos h0,if_pos h0];exact⟨hm,rfl,cF.zero _,cF.zero _⟩
  rw[if_neg h0,if_neg h0];by_cases h1:k=1
  ·rw[if_pos h1,if_pos h1];exact⟨hm,rfl,cF.zero _,cF.zero _⟩
  rw[if_neg h1,if_neg h1];by_cases h2:k=2
  ·rw[if_pos h2,if_pos h2]
   have hs:s≠0:=by rw[h2]at hf;simpa using hf.1
   have e:(m.az++ [s]).length=m.az.length+1:=by simp
   refine⟨⟨by simp[hm.len],fun f hf'=>?_,fun x hx=>?_⟩,e,?_,?_⟩
   ·show cF f (m.az++ [s]).length
    rw[e];rcases List.mem_append.1 hf' with hf' | hf'
    ·exact(hm.bJ f hf').mono (by omega)
    ·rw[List.mem_singleton.1 hf'];exact cF.zero _
   ·rcases List.mem_append.1 hx with hx | hx
    ·exact hm.ne x hx
    ·rw[List.mem_singleton.1 hx];exact hs
   ·show cF (dK m.az.length) (m.az++ [s]).length
    rw[e];exact cF.bit _
   ·show cF (dK m.az.length) (m.az++ [s]).length
    rw[e];exact cF.bit _
  rw[if_neg h2,if_neg h2];have hz:∀ e,gT m (m,⟨0,0,e⟩) 0:=fun e=>⟨hm,rfl,cF.zero _,cF.zero _⟩
  by_cases h3:k=3
  ·rw[if_pos h3,if_pos h3]
   have:=yG l hl m _ 0 (hz true);rwa[Nat.zero_add]at this
  rw[if_neg h3,if_neg h3];by_cases h4:k=4
  ·rw[if_pos h4,if_pos h4]
   have:=yH l hl m _ 0 (hz false);rwa[Nat.zero_add]at this
  rw[if_neg h4,if_neg h4];cases l with
  | nil=>
   by_cases h5:k=5
   ·rw[if_pos h5,if_pos h5,RX.Yn,RX.cnt1];exact hz true
   ·rw[if_neg h5,if_neg h5,RX.Yo,RX.cnt1];exact hz false
  | cons t l=>
   have ht:=hl t (List.mem_cons_self ..);by_cases h5:k=5
   ·rw[if_pos h5,if_pos h5,RX.Yn,RX.cnt1];exact tO ht hm _
   ·rw[if_neg h5,if_neg h5,RX.Yo,RX.cnt1];exact ht m hm
def RX.nf (t:RX):NF:=⟨(t.cE ⟨[],[]⟩).1.az,(t.cE ⟨[],[]⟩).1.bJ.map dm,dm (t.cE ⟨[],[]⟩).2.fst,dm (t.cE ⟨[],[]⟩).2.bV,(t.cE ⟨[],[]⟩).2.emp⟩
theorem tP {x:PB} {n:Nat} (h:cF x n):cY 0 ((n:Int)-1) (dm x)=true:=by
 refine mz (lJ _ _) fun y hy=>?_
 obtain⟨q,hq,rfl⟩:=List.mem_map.1 hy;have:=h q (List.mem_filter.1 hq).2;show(0:Int)<=(q:Int)/\(q:Int)<=_;omega
theorem Yp {t:RX} (h:t.full=true) (hc:t.cnt<=400):Nt t.nf:=by
 have H:=lN t h ⟨[],[]⟩ ⟨rfl,fun f hf=>(by cases hf),fun s hs=>(by cases hs)⟩;have hl:=H.len;simp only[List.length_nil,Nat.zero_add]at hl;refine⟨?_,?_,tP H.gp.fst,tP H.gp.bV,fun p hp=>?_,fun p hp=>?_⟩
 ·show(t.cE ⟨[],[]⟩).1.az.length<=400
  omega
 ·show((t.cE ⟨[],[]⟩).1.bJ.map dm).length=_
  rw[List.length_map];exact H.ok.len
 ·show cY 0 _ (((t.cE ⟨[],[]⟩).1.bJ.map dm).getD p [])=true
  have Si:p<(t.cE ⟨[],[]⟩).1.bJ.length:=by rw[H.ok.len];exact hp
  rw[List.getD_eq_getElem?_getD,List.getElem?_map,List.getElem?_eq_getElem Si];exact tP (H.ok.bJ _ (List.getElem_mem Si))
 ·show(t.cE ⟨[],[]⟩).1.az.getD p 0≠0
  have hp3:p<(t.cE ⟨[],[]⟩).1.az.length:=hp;rw[List.getD_eq_getElem?_getD,List.getElem?_eq_getElem hp3];exact H.ok.ne _ (List.getElem_mem hp3)
theorem Bv:∀ {l:List RX} {t x:RX},t∈l->x∈t.pre->x∈RX.jL l
 | y::l,t,x,ht,hx=>by
  rw[RX.jL];rcases List.mem_cons.1 ht with rfl | ht
  ·exact List.mem_append_left _ hx
  ·exact List.mem_append_right _ (Bv ht hx)
theorem Bw (t:RX):t∈t.pre:=by cases t;rw[RX.pre];exact List.mem_cons_self ..
theorem yI {k:Nat} {s:BS} {a b:Int} {l:List RX} {P:RX->Prop} (h:∀ x∈(RX.nd k s a b l).pre,P x):P (.nd k s a b l)/\∀ t∈l,∀ x∈t.pre,P x:=by refine⟨h _ (Bw _),fun t ht x hx=>h x ?_⟩;rw[RX.pre];exact List.mem_cons_of_mem _ (Bv ht hx)
theorem bS (t:RX) (h:t.ct=true):(t.kind=2->t.set≠0)/\(t.kind<3->t.subs=[])/\(t.kind≠0)/\(t.kind<=6)/\(t.kind=5\/t.kind=6->t.subs.length=1)/\(t.kind=5->gI t.mn t.mx=true)/\(t.kind=3\/t.kind=4->1<t.subs.length):=by
 unfold RX.ct at h;generalize t.kind=k at*;generalize t.set=s at*;generalize t.mn=a at*;generalize t.mx=b at*;generalize t.has 1=i1 at*;generalize t.has 3=i3 at*;generalize t.has 4=i4 at*;generalize t.subs=l at*;split at h
 ·cases h
 rename_i h0;have hl:k<3->l=[]:=fun hk=>by
  apply List.eq_nil_of_length_eq_zero;have:¬ (k<3/\0<l.length):=fun e=>h0 (.inr (.inr e))
  omega
 refine⟨fun hk=>?_,hl,fun hk=>?_,?_,fun hk=>?_,fun hk=>?_,fun hk=>?_⟩
 ·subst hk;simpa using h
 ·subst hk;simp at h
 ·split at h
  ·omega
  split at h
  ·omega
  split at h
  ·omega
  split at h
  ·omega
  split at h
  ·omega
  ·simp at h;omega
 ·rcases hk with rfl | rfl
  ·simp at h;exact h.1.1
  ·simp at h;exact h
 ·subst hk;simp at h;exact h.1.2
 ·rcases hk with rfl | rfl
  ·simp at h;exact h.1.1
  ·simp at h;exact h.1
theorem qz {k:Nat} {s:BS} {a b:Int} {l:List RX} (h:(RX.nd k s a b l).ct=true):(k=2->s≠0)/\(k<3->l=[])/\(k≠0)/\(k<=6)/\(k=5\/k=6->l.length=1)/\(k=5->gI a b=true)/\(k=3\/k=4->1<l.length):=bS _ h
theorem nO (t:RX):(∀ x∈t.pre,x.ct=true)->t.full=true:=by
 induction t using RX.ind with
 | h k s a b l ih=>
  intro h;obtain⟨h1,h2⟩:=yI h;rw[RX.full,Bool.and_eq_true];refine⟨?_,?_⟩
  ·by_cases hk:k=2
   ·rw[Bool.or_eq_true]
    exact .inr (bne_iff_ne.2 ((qz h1).1 hk))
   ·simp[hk]
  ·have:∀ l':List RX,(∀ t∈l',t∈l)->RX.xd l'=true:=by
    intro l';induction l' with
    | nil=>intro _;rfl
    | cons x l' Uj=>
     intro hs;rw[RX.xd,Bool.and_eq_true];exact⟨ih x (hs x (List.mem_cons_self ..)) (h2 x (hs x (List.mem_cons_self ..))),Uj fun t ht=>hs t (List.mem_cons_of_mem _ ht)⟩
   exact this l fun t ht=>ht
theorem rz {a b:Int} (h:gI a b=true):RX.times a b=dX a b/\1<=dX a b/\dX a b<=16:=by
 unfold gI at h;split at h
 ·cases h
 ·unfold RX.times dX
  simp only[Bool.or_eq_true,Bool.and_eq_true,decide_eq_true_eq]at h;by_cases hb:b= -1
  ·rw[if_pos hb,if_pos hb];omega
  ·rw[if_neg hb,if_neg hb];omega
theorem Bx (t:RX):(∀ x∈t.pre,x.ct=true)->t.bM<=400->t.cnt=t.bM:=by
 induction t using RX.ind with
 | h k s a b l ih=>
  intro h hp;obtain⟨h1,h2⟩:=yI h;obtain⟨_,hk3,Ab,hk6,Yq,h5,_⟩:=qz h1;rw[RX.bM]at hp ⊢;have Yr:∀ l':List RX,(∀ t∈l',t∈l)->RX.aS l'<=400->RX.fg l'=RX.aS l':=by
   intro l';induction l' with
   | nil=>intro _ _;rfl
   | cons x l' Uj=>
    intro hs hle;rw[RX.aS]at hle;rw[RX.fg,RX.aS,ih x (hs x (List.mem_cons_self ..)) (h2 x (hs x (List.mem_cons_self ..))) (by omega),Uj (fun t ht=>hs t (List.mem_cons_of_mem _ ht)) (by omega)]
  rw[RX.cnt,if_neg Ab];by_cases h1k:k=1
  ·subst h1k
   rw[hk3 (by omega)];simp[RX.aS]
  rw[if_neg h1k];by_cases h2k:k=2
  ·subst h2k
   rw[hk3 (by omega)];simp[RX.aS]
  rw[if_neg h2k];rw[if_neg h2k,Nat.zero_add]at hp ⊢;by_cases h5k:k=5
  ·subst h5k
   obtain⟨e1,e2,e3⟩:=rz (h5 rfl);rw[if_pos rfl,e1]at hp ⊢;have hm:min (dX a b) 10001=dX a b:=by omega
   rw[hm]at hp ⊢;obtain⟨x,rfl⟩:=List.length_eq_one_iff.1 (Yq (.inl rfl));have hx:RX.aS [x]=x.bM:=by simp[RX.aS]
   rw[hx]at hp ⊢;have hle:x.bM<=x.bM*dX a b:=Nat.le_mul_of_pos_right _ e2;rw[if_neg (by omega),if_neg (by omega),if_pos rfl,RX.cnt1,ih x (List.mem_cons_self ..) (h2 x (List.mem_cons_self ..)) (by omega)];rw[Nat.mul_comm];omega
  ·rw[if_neg h5k,Nat.mul_one]at hp
   simp only[if_neg h5k,Nat.mul_one];have hle:RX.aS l<=400:=by omega
   have e:=Yr l (fun t ht=>ht) hle;by_cases h3k:k=3
   ·rw[if_pos h3k,e];omega
   rw[if_neg h3k];by_cases h4k:k=4
   ·rw[if_pos h4k,e];omega
   rw[if_neg h4k];obtain⟨x,rfl⟩:=List.length_eq_one_iff.1 (Yq (.inr (by omega)));rw[RX.cnt1];simp[RX.fg,RX.aS]at e;simp[RX.aS]at hle ⊢;omega
theorem LY {t:RX} (h:t.clean=true) (hp:t.bM<=400):Nt t.nf:=by unfold RX.clean at h;rw[Bool.and_eq_true,List.all_eq_true]at h;exact Yp (nO t h.2) (by rw[Bx t h.2 hp];exact hp)
end Go.Proofs.YtbiboekhakbnpaaGreatDoor
