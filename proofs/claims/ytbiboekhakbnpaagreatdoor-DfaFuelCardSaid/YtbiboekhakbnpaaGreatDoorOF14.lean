/- Trees that are put together in small steps are clean. -/
import Derived.Test.YtbiboekhakbnpaaGreatDoorOF13
set_option maxRecDepth 100000
set_option maxHeartbeats 16000000
open Go.Lib (hid)
namespace Go.Proofs.YtbiboekhakbnpaaGreatDoor
open Go Go.RowKit
def dn (n:Nat):List Nat:=[[97],[98],[97,98],[97],[98],[99],[97,98,99],[98,99],[10],[0,255],[97],[98]].getD (n%12) []
def lO (n:Nat):RX:=.nd 2 (nE fun c=>(dn n).contains c) 0 0 []
def cI:RX:=.nd 1 0 0 0 []
def dp (kind:Nat) (x:RX):List RX:=if x.kind=kind then x.subs else if kind=3/\x.kind=1 then []else [x]
def eI (kind:Nat) (l:List RX):RX:=match l with | []=>cI | [x]=>x | x::y::r=>.nd kind 0 0 0 (x::y::r)
def bG (kind:Nat) (a b:RX):RX:=eI kind (dp kind a++dp kind b)
structure cw where
 all:List RX
 kJ:Nat
 vv:Nat
def cw.last (P:cw):RX:=P.all.getD (P.all.length-1) cI
def cw.fH (P:cw):RX:=P.all.getD (P.all.length-2) cI
def cw.put (P:cw) (k:Nat) (x:RX):List RX:=P.all.take (P.all.length-k)++ [x]
def dY (n:Nat):Nat:=n%3
def iK (n m:Nat):Int:=if m%4<dY n\/m%4=0\/(dY n=1/\m%4=1)then-1 else((m%4:Nat):Int)
def gj (n m:Nat):Nat:=(max (max (dY n:Int) (iK n m)) 1).toNat
def cw.step (P:cw) (s:Nat×Nat×Nat):cw:=
 if s.1%12<4 then⟨P.put 0 (lO s.2.1),P.kJ,P.vv⟩else
 if s.1%12=4 then⟨P.put 0 cI,P.kJ,P.vv⟩else
 if s.1%12<7/\1<P.all.length then⟨P.put 2 (bG 3 P.fH P.last),P.kJ,P.vv⟩else
 if s.1%12<9/\1<P.all.length then⟨P.put 2 (bG 4 P.fH P.last),P.kJ,P.vv⟩else
 if s.1%12=9/\0<P.all.length/\P.vv<9 then⟨P.put 1 (.nd 6 0 0 0 [P.last]),P.kJ,P.vv+1⟩else
 if 9<s.1%12/\0<P.all.length/\P.last.kind≠1 then
  if P.kJ*gj s.2.1 s.2.2<=16 then⟨P.put 1 (.nd 5 0 (dY s.2.1) (iK s.2.1 s.2.2) [P.last]),P.kJ*gj s.2.1 s.2.2,P.vv⟩else P
 else P
def gU (l:List (Nat×Nat×Nat)):cw:=l.foldl cw.step ⟨[],1,0⟩
def Ys (l:List RX):RX:=match l with | []=>lO 0 | x::r=>r.foldl (bG 4) x
def jk (l:List (Nat×Nat×Nat)):RX:=Ys (gU (l.take 25)).all
def RX.fine (t:RX):Prop:=∀ x∈t.pre,x.ct=true
theorem kj {k:Nat} {s:BS} {a b:Int} {l:List RX} :(RX.nd k s a b l).fine↔(RX.nd k s a b l).ct=true/\∀ t∈l,t.fine:=by
 constructor
 ·intro h
  exact yI h
 ·rintro⟨h1,h2⟩ x hx
  rw[RX.pre]at hx;rcases List.mem_cons.1 hx with rfl | hx
  ·exact h1
  ·have:∀ l':List RX,(∀ t∈l',t.fine)->x∈RX.jL l'->x.ct=true:=by
    intro l';induction l' with
    | nil=>intro _ h;rw[RX.jL]at h;cases h
    | cons y l' ih=>
     intro hf h;rw[RX.jL]at h;rcases List.mem_append.1 h with h | h
     ·exact hf y (List.mem_cons_self ..) x h
     ·exact ih (fun t ht=>hf t (List.mem_cons_of_mem _ ht)) h
   exact this l h2 hx
theorem qA {t:RX} (h:t.fine):t.ct=true:=h t (Bw t)
theorem IY {t:RX} (h:t.fine):∀ x∈t.subs,x.fine:=by
 cases t with
 | nd k s a b l=>exact(kj.1 h).2
theorem Bz (n:Nat):(nE fun c=>(dn n).contains c)≠0:=by
 have h:n%12<12:=Nat.mod_lt _ (by decide);have key:∀ k,k<12->(nE fun c=>(dn k).contains c)≠0:=by decide+kernel
 have e:dn n=dn (n%12):=by unfold dn;rw[Nat.mod_mod]
 rw[e];exact key _ h
theorem rA (n:Nat):(lO n).fine:=by
 refine kj.2 ⟨?_,fun t h=>by cases h⟩;obtain⟨s,hs⟩:∃ s,s=nE fun c=>(dn n).contains c:=⟨_,rfl⟩
 have h:=Bz n;rw[<-hs]at h ⊢;unfold RX.ct RX.kind RX.set RX.mn RX.mx RX.subs;simpa using h
theorem rB:cI.fine:=kj.2 ⟨by decide,fun t h=>by cases h⟩
theorem dC (a b:List RX):RX.sizes (a++b)=RX.sizes a+RX.sizes b:=by
 induction a with
 | nil=>simp[RX.sizes]
 | cons x a ih=>rw[List.cons_append,RX.sizes,RX.sizes,ih];omega
theorem dD (a b:List RX):RX.aS (a++b)=RX.aS a+RX.aS b:=by
 induction a with
 | nil=>simp[RX.aS]
 | cons x a ih=>rw[List.cons_append,RX.aS,RX.aS,ih];omega
theorem size_pos (t:RX):1<=t.size:=by cases t;rw[RX.size];omega
theorem xg (t:RX):RX.sizes t.subs+1=t.size:=by cases t;rw[RX.size,RX.subs];omega
theorem nP {k:Nat} (hk:k=3\/k=4) {x:RX} (h:x.fine):(∀ t∈dp k x,t.fine/\t.kind≠k/\(k=3->t.kind≠1))/\RX.sizes (dp k x)<=x.size/\(x.kind=k->RX.sizes (dp k x)+1<=x.size)/\min (RX.aS (dp k x)) 10001<=x.bM:=by
 unfold dp;by_cases h1:x.kind=k
 ·rw[if_pos h1]
  have hs:=xg x;refine⟨fun t ht=>⟨IY h t ht,?_⟩,by omega,fun _=>by omega,?_⟩
  ·have hr:=qA h
   unfold RX.ct at hr;split at hr
   ·cases hr
   ·have hh:∀ j,x.has j=false->t.kind≠j:=fun j hj=>by
     unfold RX.has at hj;have:=List.any_eq_false.1 hj t ht;simpa using this
    rcases hk with rfl | rfl
    ·simp[h1]at hr
     exact⟨hh 3 hr.2,fun _=>hh 1 hr.1.2⟩
    ·simp[h1]at hr
     exact⟨hh 4 hr.2,fun e=>by omega⟩
  ·cases x with
   | nd k' s a b l=>
    have e:k'=k:=h1;subst e;rw[RX.subs,RX.bM,if_neg (by omega),if_neg (by omega)];omega
 ·rw[if_neg h1]
  by_cases h2:k=3/\x.kind=1
  ·rw[if_pos h2]
   exact⟨fun t ht=>by(cases ht),by simp[RX.sizes],fun e=>absurd e h1,by simp[RX.aS]⟩
  ·rw[if_neg h2]
   refine⟨fun t ht=>?_,by simp[RX.sizes],fun e=>absurd e h1,?_⟩
   ·rw[List.mem_singleton.1 ht]
    exact⟨h,h1,fun e=>fun e2=>h2 ⟨e,e2⟩⟩
   ·simp[RX.aS];omega
theorem yJ {k:Nat} (hk:k=3\/k=4) {l:List RX} (h:∀ t∈l,t.fine/\t.kind≠k/\(k=3->t.kind≠1)):(eI k l).fine/\(eI k l).size<=RX.sizes l+1/\(eI k l).bM<=RX.aS l:=by
 match l with
 | []=>exact⟨rB,by simp[eI,cI,RX.size,RX.sizes],by simp[eI,cI,RX.bM,RX.aS]⟩
 | [x]=>
  refine⟨(h x (List.mem_cons_self ..)).1,?_,?_⟩
  ·simp[eI,RX.sizes]
  ·simp[eI,RX.aS]
 | x::y::r=>
  refine⟨kj.2 ⟨?_,fun t ht=>(h t ht).1⟩,?_,?_⟩
  ·have hh:∀ j,(∀ t∈x::y::r,t.kind≠j)->(RX.nd k 0 0 0 (x::y::r)).has j=false:=fun j hj=>by
    unfold RX.has;rw[List.any_eq_false];intro t ht;simpa using hj t ht
   unfold RX.ct;rw[if_neg (by rintro(h | h | h)<;>simp[RX.kind,RX.set,RX.mn,RX.mx]at h;omega)];rcases hk with rfl | rfl
   ·rw[hh 1 fun t ht=>(h t ht).2.2 rfl,hh 3 fun t ht=>(h t ht).2.1]
    simp[RX.kind,RX.subs]
   ·rw[hh 4 fun t ht=>(h t ht).2.1]
    simp[RX.kind,RX.subs]
  ·show RX.size (.nd k 0 0 0 (x::y::r))<=_
   rw[RX.size];omega
  ·show RX.bM (.nd k 0 0 0 (x::y::r))<=_
   rw[RX.bM,if_neg (by omega),if_neg (by omega)];omega
theorem yK (t:RX):t.bM<=10001:=by cases t;rw[RX.bM];omega
theorem rC {k:Nat} (hk:k=3\/k=4) {a b:RX} (ha:a.fine) (hb:b.fine):(bG k a b).fine/\(bG k a b).size<=a.size+b.size+1/\(bG k a b).bM<=a.bM+b.bM:=by
 obtain⟨a1,a2,_,a4⟩:=nP hk ha;obtain⟨b1,b2,_,b4⟩:=nP hk hb;obtain⟨g1,g2,g3⟩:=yJ hk (l:=dp k a++dp k b) fun t ht=>(List.mem_append.1 ht).elim (a1 t) (b1 t)
 rw[dC]at g2;rw[dD]at g3;have:=yK (bG k a b);refine⟨g1,?_,?_⟩
 ·show(eI k (dp k a++dp k b)).size<=_
  omega
 ·have e:(bG k a b).bM=(eI k (dp k a++dp k b)).bM:=rfl
  omega
theorem LZ (a b:Int) (s:BS) (x:RX):(RX.nd 5 s a b [x]).bM<=x.bM*RX.times a b:=by rw[RX.bM,if_neg (by decide),if_pos rfl,RX.aS,RX.aS,Nat.zero_add,Nat.add_zero];refine Nat.le_trans (Nat.min_le_left _ _) (Nat.mul_le_mul_left _ (Nat.min_le_left _ _))
theorem tQ (n m:Nat):gI (dY n) (iK n m)=true/\RX.times (dY n) (iK n m)=gj n m/\1<=gj n m:=by
 have h1:n%3<3:=Nat.mod_lt _ (by decide);have h2:m%4<4:=Nat.mod_lt _ (by decide);unfold gj iK dY;generalize n%3=p at*;generalize m%4=q at*;have key:∀ p:Nat,p<3->∀ q:Nat,q<4->gI (p:Int) (if q<p\/q=0\/(p=1/\q=1)then-1 else(q:Int))=true/\RX.times (p:Int) (if q<p\/q=0\/(p=1/\q=1)then-1 else(q:Int))=(max (max (p:Int) (if q<p\/q=0\/(p=1/\q=1)then-1 else(q:Int))) 1).toNat/\1<=(max (max (p:Int) (if q<p\/q=0\/(p=1/\q=1)then-1 else(q:Int))) 1).toNat:=by decide+kernel
 exact key p h1 q h2
structure cw.ok (P:cw) (c:Nat):Prop where
 fine:∀ t∈P.all,t.fine
 kind:∀ t∈P.all,t.kind≠0
 size:RX.sizes P.all<=c
 bM:RX.aS P.all<=c*P.kJ
 kJ:1<=P.kJ
 xh:P.kJ<=16
 len:P.all.length<=c
theorem jM {l:List RX} (h:0<l.length):l=l.take (l.length-1)++ [l.getD (l.length-1) cI]:=by
 have e:l.getD (l.length-1) cI=l[l.length-1]'(by omega):=by rw[List.getD_eq_getElem?_getD,List.getElem?_eq_getElem (by omega)];rfl
 rw[e,List.take_append_getElem (by omega),show l.length-1+1=l.length by omega,List.take_length]
theorem EZ {l:List RX} (h:1<l.length):l=l.take (l.length-2)++ [l.getD (l.length-2) cI,l.getD (l.length-1) cI]:=by
 have e1:=jM (l:=l) (by omega);have e2:=jM (l:=l.take (l.length-1)) (by simp;omega);rw[List.length_take,Nat.min_eq_left (by omega),show l.length-1-1=l.length-2 by omega]at e2;rw[List.take_take,Nat.min_eq_left (by omega)]at e2;have e3:(l.take (l.length-1)).getD (l.length-2) cI=l.getD (l.length-2) cI:=by rw[List.getD_eq_getElem?_getD,List.getD_eq_getElem?_getD,List.getElem?_take,if_pos (by omega)]
 rw[e3]at e2;rw[e2]at e1;rw[e1.trans (List.append_assoc _ _ _)];simp
theorem mC {l:List RX} {k:Nat} (h:k<l.length):l.getD k cI∈l:=by rw[List.getD_eq_getElem?_getD,List.getElem?_eq_getElem h];exact List.getElem_mem h
theorem mD {t:RX} (h:t.fine):t.kind≠0:=(bS t (qA h)).2.2.1
theorem cw.ok.more {P:cw} {c:Nat} (h:P.ok c):P.ok (c+1):=
 ⟨h.fine,h.kind,by have:=h.size;omega,by have:=h.bM;rw[Nat.succ_mul];omega,h.kJ,h.xh,by have:=h.len;omega⟩
theorem cw.ok.push {P:cw} {c:Nat} (h:P.ok c) {x:RX} (hx:x.fine) (hs:x.size<=1) (hp:x.bM<=1):(⟨P.put 0 x,P.kJ,P.vv⟩:cw).ok (c+1):=by
 have e:P.put 0 x=P.all++ [x]:=by unfold cw.put;rw[Nat.sub_zero,List.take_length]
 have hf:∀ t∈P.put 0 x,t.fine:=fun t ht=>by
  rw[e]at ht;rcases List.mem_append.1 ht with ht | ht
  ·exact h.fine t ht
  ·rw[List.mem_singleton.1 ht];exact hx
 refine⟨hf,fun t ht=>mD (hf t ht),?_,?_,h.kJ,h.xh,?_⟩
 ·show RX.sizes (P.put 0 x)<=_
  rw[e,dC];have:=h.size;simp[RX.sizes];omega
 ·show RX.aS (P.put 0 x)<=(c+1)*P.kJ
  rw[e,dD,Nat.succ_mul];have:=h.bM;have:=h.kJ;simp[RX.aS];omega
 ·show(P.put 0 x).length<=_
  rw[e];have:=h.len;simp;omega
theorem cw.ok.join {P:cw} {c:Nat} (h:P.ok c) {k:Nat} (hk:k=3\/k=4) (hn:1<P.all.length):(⟨P.put 2 (bG k P.fH P.last),P.kJ,P.vv⟩:cw).ok (c+1):=by
 have e:=EZ hn;obtain⟨g1,g2,g3⟩:=rC hk (h.fine _ (mC (show P.all.length-2<P.all.length by omega))) (h.fine _ (mC (show P.all.length-1<P.all.length by omega)));have hf:∀ t∈P.put 2 (bG k P.fH P.last),t.fine:=fun t ht=>by
  rcases List.mem_append.1 ht with ht | ht
  ·exact h.fine t (List.mem_of_mem_take ht)
  ·rw[List.mem_singleton.1 ht];exact g1
 have hs:=h.size;have hp:=h.bM;have hl:=h.len;rw[e,dC]at hs;rw[e,dD]at hp;simp only[RX.sizes,RX.aS]at hs hp;refine⟨hf,fun t ht=>mD (hf t ht),?_,?_,h.kJ,h.xh,?_⟩
 ·show RX.sizes (P.all.take (P.all.length-2)++ [bG k P.fH P.last])<=_
  rw[dC];simp only[RX.sizes];show _+((bG k (P.all.getD (P.all.length-2) cI) (P.all.getD (P.all.length-1) cI)).size+0)<=_;omega
 ·show RX.aS (P.all.take (P.all.length-2)++ [bG k P.fH P.last])<=(c+1)*P.kJ
  rw[dD,Nat.succ_mul];simp only[RX.aS];show _+((bG k (P.all.getD (P.all.length-2) cI) (P.all.getD (P.all.length-1) cI)).bM+0)<=_;omega
 ·show(P.all.take (P.all.length-2)++ [bG k P.fH P.last]).length<=_
  rw[List.length_append,List.length_take];simp;omega
theorem cw.ok.turn {P:cw} {c:Nat} (h:P.ok c) (hn:0<P.all.length) {x:RX} {f:Nat} (hx:x.fine) (hs:x.size<=P.last.size+1) (hp:x.bM<=P.last.bM*f) (L8:1<=f) (adk:P.kJ*f<=16) (g:Nat):(⟨P.put 1 x,P.kJ*f,g⟩:cw).ok (c+1):=by
 have e:=jM hn;have hf:∀ t∈P.put 1 x,t.fine:=fun t ht=>by
  rcases List.mem_append.1 ht with ht | ht
  ·exact h.fine t (List.mem_of_mem_take ht)
  ·rw[List.mem_singleton.1 ht];exact hx
 have hs2:=h.size;have Si:=h.bM;have hl:=h.len;have hu:=h.kJ;rw[e,dC]at hs2;rw[e,dD]at Si;simp only[RX.sizes,RX.aS]at hs2 Si;refine⟨hf,fun t ht=>mD (hf t ht),?_,?_,Nat.mul_pos hu L8,adk,?_⟩
 ·show RX.sizes (P.all.take (P.all.length-1)++ [x])<=_
  rw[dC];simp only[RX.sizes];have:P.last.size=(P.all.getD (P.all.length-1) cI).size:=rfl;omega
 ·show RX.aS (P.all.take (P.all.length-1)++ [x])<=(c+1)*(P.kJ*f)
  rw[dD];simp only[RX.aS];have e2:P.last.bM=(P.all.getD (P.all.length-1) cI).bM:=rfl;rw[e2]at hp;have h1:RX.aS (P.all.take (P.all.length-1))+(P.all.getD (P.all.length-1) cI).bM*f<=(RX.aS (P.all.take (P.all.length-1))+(P.all.getD (P.all.length-1) cI).bM)*f:=by rw[Nat.add_mul];exact Nat.add_le_add_right (Nat.le_mul_of_pos_right _ L8) _
  have h2:(RX.aS (P.all.take (P.all.length-1))+(P.all.getD (P.all.length-1) cI).bM)*f<=c*P.kJ*f:=Nat.mul_le_mul_right _ (by omega);have h3:(c+1)*(P.kJ*f)=c*P.kJ*f+P.kJ*f:=by rw[Nat.succ_mul,Nat.mul_assoc]
  omega
 ·show(P.all.take (P.all.length-1)++ [x]).length<=_
  rw[List.length_append,List.length_take];simp;omega
theorem Fa {x:RX} (h:x.fine):(RX.nd 6 0 0 0 [x]).fine/\(RX.nd 6 0 0 0 [x]).size<=x.size+1/\(RX.nd 6 0 0 0 [x]).bM<=x.bM*1:=by
 refine⟨kj.2 ⟨?_,fun t ht=>by rw[List.mem_singleton.1 ht];exact h⟩,?_,?_⟩
 ·unfold RX.ct
  simp[RX.kind,RX.set,RX.mn,RX.mx,RX.subs]
 ·simp[RX.size,RX.sizes];omega
 ·rw[RX.bM,if_neg (by decide),if_neg (by decide),RX.aS,RX.aS];omega
theorem L9 {x:RX} (h:x.fine) (hk:x.kind≠1) (n m:Nat):(RX.nd 5 0 (dY n) (iK n m) [x]).fine/\(RX.nd 5 0 (dY n) (iK n m) [x]).size<=x.size+1:=by
 refine⟨kj.2 ⟨?_,fun t ht=>by rw[List.mem_singleton.1 ht];exact h⟩,?_⟩
 ·have hh:(RX.nd 5 0 (dY n) (iK n m) [x]).has 1=false:=by
   unfold RX.has RX.subs;simpa using hk
  unfold RX.ct;rw[if_neg (by rintro(h | h | h)<;>simp[RX.kind,RX.set,RX.mn,RX.mx]at h),hh];simp[RX.kind,RX.subs,RX.mn,RX.mx,(tQ n m).1]
 ·simp[RX.size,RX.sizes];omega
theorem cw.ok.step {P:cw} {c:Nat} (h:P.ok c) (s:Nat×Nat×Nat):(P.step s).ok (c+1):=by
 unfold cw.step;split
 ·exact h.push (rA _) (by simp[lO,RX.size,RX.sizes]) (by simp[lO,RX.bM,RX.aS])
 split
 ·exact h.push rB (by decide) (by decide)
 split
 ·rename_i hc;exact h.join (.inl rfl) hc.2
 split
 ·rename_i hc;exact h.join (.inr rfl) hc.2
 split
 ·rename_i hc
  obtain⟨g1,g2,g3⟩:=Fa (h.fine _ (mC (show P.all.length-1<P.all.length by omega)));have:=h.turn hc.2.1 g1 g2 g3 (Nat.le_refl 1) (by rw[Nat.mul_one];exact h.xh) (P.vv+1);rwa[Nat.mul_one]at this
 split
 ·rename_i hc
  split
  ·rename_i hu
   obtain⟨r1,r2,r3⟩:=tQ s.2.1 s.2.2;obtain⟨g1,g2⟩:=L9 (h.fine _ (mC (show P.all.length-1<P.all.length by omega))) hc.2.2 s.2.1 s.2.2;exact h.turn hc.2.1 g1 g2 (by rw[<-r2];exact LZ _ _ _ _) r3 hu P.vv
  ·exact h.more
 ·exact h.more
theorem tR (l:List (Nat×Nat×Nat)):(gU l).ok l.length:=by
 have:∀ (l:List (Nat×Nat×Nat)) (P:cw) (c:Nat),P.ok c->(l.foldl cw.step P).ok (c+l.length):=by
  intro l;induction l with
  | nil=>intro P c h;exact h
  | cons s l ih=>
   intro P c h;rw[List.foldl_cons,List.length_cons,show c+(l.length+1)=c+1+l.length by omega];exact ih _ _ (h.step s)
 have h:=this l ⟨[],1,0⟩ 0 ⟨fun t ht=>by(cases ht),fun t ht=>by(cases ht),by simp[RX.sizes],by simp[RX.aS],Nat.le_refl _,by decide,Nat.zero_le _⟩;rwa[Nat.zero_add]at h
theorem nQ:∀ (r:List RX) (x:RX),x.fine->(∀ t∈r,t.fine)->(r.foldl (bG 4) x).fine/\(r.foldl (bG 4) x).size<=x.size+RX.sizes r+r.length/\(r.foldl (bG 4) x).bM<=x.bM+RX.aS r
 | [],x,h,_=>⟨h,by simp[RX.sizes],by simp[RX.aS]⟩
 | y::r,x,h,hr=>by
  rw[List.foldl_cons,List.length_cons,RX.sizes,RX.aS];obtain⟨g1,g2,g3⟩:=rC (.inr rfl) h (hr y (List.mem_cons_self ..)) (k:=4);obtain⟨k1,k2,k3⟩:=nQ r _ g1 fun t ht=>hr t (List.mem_cons_of_mem _ ht)
  exact⟨k1,by omega,by omega⟩
structure Fb (t:RX):Prop where
 fine:t.fine
 size:t.size<=60
 bM:t.bM<=400
theorem lQ (l:List (Nat×Nat×Nat)):Fb (jk l):=by
 have H:=tR (l.take 25);have hl:(l.take 25).length<=25:=by rw[List.length_take];omega
 have h16:=H.xh;have hlen:=H.len;have hsz:=H.size;have Ht:RX.aS (gU (l.take 25)).all<=400:=Nat.le_trans H.bM (Nat.le_trans (Nat.mul_le_mul hl h16) (by decide));have Sj:=H.fine;unfold jk;generalize (gU (l.take 25)).all=p at*;cases p with
 | nil=>exact⟨rA 0,by decide,by decide+kernel⟩
 | cons x r=>
  rw[RX.sizes]at hsz;rw[RX.aS]at Ht;rw[List.length_cons]at hlen;obtain⟨g1,g2,g3⟩:=nQ r x (Sj x (List.mem_cons_self ..)) fun t ht=>Sj t (List.mem_cons_of_mem _ ht)
  exact⟨g1,by show(r.foldl (bG 4) x).size<=60;omega,by show(r.foldl (bG 4) x).bM<=400;omega⟩
theorem Fb.clean {t:RX} (h:Fb t):t.clean=true:=by unfold RX.clean;rw[Bool.and_eq_true,List.all_eq_true];exact⟨decide_eq_true (by have:=h.size;omega),h.fine⟩
end Go.Proofs.YtbiboekhakbnpaaGreatDoor
