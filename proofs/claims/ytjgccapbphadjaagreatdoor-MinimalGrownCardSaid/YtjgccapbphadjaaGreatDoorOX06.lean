/- The maker of automata of positions: loop. -/
import Derived.Test.YtjgccapbphadjaaGreatDoorOX05
set_option maxRecDepth 100000
set_option maxHeartbeats 16000000
open Go.Lib (hid)
open Option renaming some->An,none->As,map_some->P_
open Go renaming World->AF,TypeId->C',bodyPost_end->Kx,callsIn_wide->K_,results_none->Lw,undef->M_,Addr->SO
open Go.Value renaming pointer->AI,int->AM,slice->AT,agg->IT,bool->P'
open List renaming mem_singleton->AN,flatMap_cons->AS,mem_append->A_,length_cons->By,getElem_mem->DH,cons_append->DP,length_take->DQ,getElem?_mapIdx->DS,getElem?_eq_some_iff->Ft,size_toArray->FG,append_assoc->F_,mem_cons->GB,length_eq_one_iff->G',mem_filter->H_,length_nil->H',contains_iff_mem->If,mem_of_mem_take->It,flatMap_append->I_,append_toArray->I',any_eq_false->J',push_toArray->Lo,all_eq_true->Ly,map_toArray->L7,take_length->L_,ext_getElem->MY,foldl_cons->OR,nil_append->O_,map_cons->Rr,map_nil->Sf
open Go.IntKind renaming u64->A',i64->Iv
open Nat renaming zero_add->Bm,succ_mul->D_,le_trans->D',le_mul_of_pos_right->GW,mul_one->Is,mod_lt->J_,add_mul->NX,min_le_left->N',min_eq_left->On,add_assoc->Q_,reduceAdd->R_,reduceSub->Se,zero_mul->St
open Bool renaming and_eq_true->Bs,true->B_,false->D0,or_eq_true->N_,eq_iff_iff->O'
open BitVec renaming getLsbD_extractLsb'->B',getLsbD_or->FF,getLsbD_shiftLeft->GO,eq_of_getLsbD_eq->G_,twoPow->RE
open Go.Ending renaming returned->Cd
open Array renaming length_toList->C_,getElem?_eq_some_iff->EV,replicate_succ->IF,replicate_zero->IN
open Go.Lib renaming hid->DE
open Go.IntWalk renaming i64_in->E_
open Go.World renaming frozen?->GS,setCell->RC
namespace Go.Proofs.YtjgccapbphadjaaGreatDoor
section
open Go Go.RowKit Go.Shelf Go.Maps
def P8 (Q:AF->Value->NF->Prop) (w:AF) (x:PT) (f:Nat->Option Value):Prop:=
 ∃ v0 v1 v2 v3,Q w (IT #[v0,v1,v2,v3,P' x.nf.emp]) x.nf/\f 0=An v0/\f 1=An v1/\f 2=An v2/\f 3=An v3/\f 4=An (P' x.nf.emp)/\f 5=An (P' x.za)/\f 6=An (AM Iv x.mark)
theorem P8.mono {Q R:AF->Value->NF->Prop} {w w':AF} {x:PT} {f g:Nat->Option Value} (h:P8 Q w x f) (hq:∀ v,Q w v x.nf->R w' v x.nf) (hf:∀ j,j<7->∀ u,f j=An u->g j=An u):P8 R w' x g:=by obtain⟨v0,v1,v2,v3,h0,h1,h2,h3,h4,h5,h6,h7⟩:=h;exact⟨v0,v1,v2,v3,hq _ h0,hf 0 (by decide) _ h1,hf 1 (by decide) _ h2,hf 2 (by decide) _ h3,hf 3 (by decide) _ h4,hf 4 (by decide) _ h5,hf 5 (by decide) _ h6,hf 6 (by decide) _ h7⟩
theorem gX.below {base:Nat} {w w':AF} {v:Value} {a:NF} (h:gX base w v a) (hk:aa w w'):gX base w' v a:=by obtain⟨v0,v1,v2,v3,e,h0,h1,h2,h3⟩:=h;exact⟨v0,v1,v2,v3,e,ai h0 hk,h1.below hk,ai h2 hk,ai h3 hk⟩
theorem gX.base {base base':Nat} {w:AF} {v:Value} {a:NF} (h:gX base w v a) (hb:base'<=base):gX base' w v a:=by obtain⟨v0,v1,v2,v3,e,h0,h1,h2,h3⟩:=h;exact⟨v0,v1,v2,v3,e,aC h0 hb,h1.base hb,aC h2 hb,aC h3 hb⟩
theorem ri {w w':AF} {b1 b2 s1 s2 n1 n2:Nat} {e1 e2:C'} {v1 v2:Value} {x1 x2:List Value} (he:e1≠e2) (h1:w.ownsRow b1 e1 s1 v1 n1 x1) (h2:w.ownsRow b2 e2 s2 v2 n2 x2) (hk:ae (fun x=>x<w.heap.size/\v2.ownBlock≠An x) w w'):w'.ownsRow b1 e1 s1 v1 n1 x1:=
 ak h1 hk fun x hx=>⟨(h1.lt x hx).2,fun e=>by
  rcases ownBlock_ne he h1 h2 with h5 | h5
  ·rw[h5]at hx;cases hx
  ·exact h5 (hx.trans e.symm)⟩
theorem aS.far {w w':AF} {b1 b2 s2 n2:Nat} {e2:C'} {v1 v2:Value} {x2:List Value} {ll:List (List Int)} (h1:aS b1 w v1 ll) (h2:w.ownsRow b2 e2 s2 v2 n2 x2) (ha:39≠e2) (hb:3≠e2) (hk:ae (fun x=>x<w.heap.size/\v2.ownBlock≠An x) w w'):aS b1 w' v1 ll:=by obtain⟨us,e,o1,o2⟩:=h1;exact⟨us,e,ri ha o1 h2 hk,fun i u l hu hl=>ri hb (o2 i u l hu hl) h2 hk⟩
theorem gX.far {w w':AF} {b1 b2 s2 n2:Nat} {e2:C'} {v1 v2:Value} {x2:List Value} {a:NF} (h1:gX b1 w v1 a) (h2:w.ownsRow b2 e2 s2 v2 n2 x2) (h0:56≠e2) (ha:39≠e2) (hb:3≠e2) (hk:ae (fun x=>x<w.heap.size/\v2.ownBlock≠An x) w w'):gX b1 w' v1 a:=by obtain⟨v0,v1,v2,v3,e,o0,o1,o2,o3⟩:=h1;exact⟨v0,v1,v2,v3,e,ri h0 o0 h2 hk,o1.far h2 ha hb hk,ri hb o2 h2 hk,ri hb o3 h2 hk⟩
end
section
open Go Go.ChangeShapes Go.WideShapes Go.ChangeAt Go.RowKit Go.Deep
section
variable {H:Type} {enc:C'×Value→H} {W:AF}
theorem vI {b j:Nat} {u:Value} (h:W.cell? ⟨b,j,As⟩=An u):b<W.heap.size:=by
 unfold World.cell? at h;cases hh:W.heap[b]? with
 | none=>rw[hh]at h;cases h
 | some o=>exact(EV.1 hh).1
theorem nC (b o i:Nat):(⟨b,o,As⟩:SO).add i=⟨b,o+i,As⟩:=by
 unfold Addr.add;split
 ·rename_i h;subst h;rfl
 ·rfl
end
end
section
open Go Go.RowKit
inductive RX where
 | nd (kind:Nat) (set:BS) (mn mx:Int) (subs:List RX)
def RX.kind:RX->Nat | .nd k _ _ _ _=>k
def RX.set:RX->BS | .nd _ s _ _ _=>s
def RX.mn:RX->Int | .nd _ _ a _ _=>a
def RX.mx:RX->Int | .nd _ _ _ b _=>b
def RX.subs:RX->List RX | .nd _ _ _ _ l=>l
theorem RX.ind {P:RX->Prop} (h:∀ k s a b l,(∀ t∈l,P t)->P (.nd k s a b l)):∀ t,P t:=by
 intro t;induction t using RX.rec (motive_2:=fun l=>∀ t∈l,P t)with
 | nd k s a b l ih=>exact h k s a b l ih
 | nil=>
  rename_i x hx;cases hx
 | cons t l h1 h2=>
  rename_i x hx;rcases GB.1 hx with e | e
  ·rw[e];exact h1
  ·exact h2 _ e
mutual
def RX.size:RX->Nat
 | .nd _ _ _ _ l=>1+RX.sizes l
def RX.sizes:List RX->Nat
 | []=>0
 | t::l=>t.size+RX.sizes l
end
mutual
def RX.pre:RX->List RX
 | .nd k s a b l=>.nd k s a b l::RX.kY l
def RX.kY:List RX->List RX
 | []=>[]
 | t::l=>t.pre++RX.kY l
end
def RX.times (mn mx:Int):Nat:=if mx= -1 then max mn.toNat 1 else max mn.toNat mx.toNat
mutual
def RX.cy:RX->Nat
 | .nd k _ a b l=>min (((if k=2 then 1 else 0)+RX.bF l)*(if k=5 then min (RX.times a b) 10001 else 1)) 10001
def RX.bF:List RX->Nat
 | []=>0
 | t::l=>t.cy+RX.bF l
end
def RX.has (t:RX) (k:Nat):Bool:=t.subs.any fun x=>x.kind==k
def iA (a b:Int):Bool:=if a<0\/16<a\/(a=1/\b=1)then D0 else decide (b= -1) || (decide (1<=b)&&decide (b<=16)&&decide (a<=b))
def RX.cZ (t:RX):Bool:=
 if(t.kind≠2/\t.set≠0)\/(t.kind≠5/\(t.mn≠0\/t.mx≠0))\/(t.kind<3/\0<t.subs.length)then D0 else
 if t.kind=1 then B_ else
 if t.kind=2 then decide (t.set≠0)else
 if t.kind=3 then decide (1<t.subs.length)&& !t.has 1&& !t.has 3 else
 if t.kind=4 then decide (1<t.subs.length)&& !t.has 4 else
 if t.kind=5 then decide (t.subs.length=1)&&iA t.mn t.mx&& !t.has 1 else
 decide (t.kind=6)&&decide (t.subs.length=1)
def RX.clean (t:RX):Bool:=decide (t.size<=10000)&&t.pre.all RX.cZ
abbrev PB:=BitVec 448
structure GP where
 fst:PB
 cL:PB
 emp:Bool
structure GM where
 aO:List BS
 cB:List PB
def iD (m:GM) (last first:PB):GM:=⟨m.aO,m.cB.mapIdx fun p f=>if last.getLsbD p then f ||| first else f⟩
def cH (m:GM) (a b:GP):GM×GP:=(iD m a.cL b.fst,⟨if a.emp then a.fst ||| b.fst else a.fst,if b.emp then b.cL ||| a.cL else b.cL,a.emp&&b.emp⟩)
def eC (n:Nat):PB:=1#448 <<< n
def eR (mn mx:Int):Nat:=if mx= -1 then(max mn 1).toNat else mx.toNat
def AX (mn mx:Int) (k:Nat) (a:GP) (x:GM×GP):GM×GP:=
 cH (if mx= -1/\k+1=eR mn mx then iD x.1 x.2.cL x.2.fst else x.1) a ⟨x.2.fst,x.2.cL,x.2.emp || decide (mn<=k)⟩
def dS (mn mx:Int) (f:GM->GM×GP) (m:GM):Nat->GM×GP
 | 0=>(m,⟨0,0,B_⟩)
 | k+1=>let y:=dS mn mx f m k;AX mn mx k y.2 (f y.1)
mutual
def RX.dw:RX->GM->GM×GP
 | .nd k s a b l,m=>
  if k=0 then(m,⟨0,0,D0⟩)else
  if k=1 then(m,⟨0,0,B_⟩)else
  if k=2 then(⟨m.aO++ [s],m.cB++ [0]⟩,⟨eC m.aO.length,eC m.aO.length,D0⟩)else
  if k=3 then RX.iT l (m,⟨0,0,B_⟩)else
  if k=4 then RX.fM l (m,⟨0,0,D0⟩)else
  if k=5 then RX.rpG a b l m else RX.hdG l m
def RX.iT:List RX->GM×GP->GM×GP
 | [],st=>st
 | t::l,st=>let x:=t.dw st.1;RX.iT l (cH x.1 st.2 x.2)
def RX.fM:List RX->GM×GP->GM×GP
 | [],st=>st
 | t::l,st=>let x:=t.dw st.1;RX.fM l (x.1,⟨st.2.fst ||| x.2.fst,st.2.cL ||| x.2.cL,st.2.emp || x.2.emp⟩)
def RX.rpG (mn mx:Int):List RX->GM->GM×GP
 | [],m=>(m,⟨0,0,B_⟩)
 | t::_,m=>dS mn mx (fun m=>t.dw m) m (eR mn mx)
def RX.hdG:List RX->GM->GM×GP
 | [],m=>(m,⟨0,0,D0⟩)
 | t::_,m=>t.dw m
end
def dT (x:PB):List Int:=((List.range 448).filter fun p=>x.getLsbD p).map Int.ofNat
def dy (x:PB) (n:Nat):Prop:=∀ p,x.getLsbD p=B_->p<n
theorem dy.zero (n:Nat):dy 0 n:=fun p h=>by simp at h
theorem dy.mono {x:PB} {n n':Nat} (h:dy x n) (hn:n<=n'):dy x n':=fun p hp=>ay (h p hp) hn
theorem dy.or {x y:PB} {n:Nat} (h:dy x n) (h':dy y n):dy (x ||| y) n:=fun p hp=>by
 rw[FF]at hp;rcases Bool.or_eq_true_iff.1 hp with hp | hp
 ·exact h p hp
 ·exact h' p hp
theorem JT (n p:Nat):(eC n).getLsbD p=(decide (p<448)&&decide (p=n)):=by
 unfold eC;rw[GO,BitVec.getLsbD_one];by_cases h1:p<448
 ·by_cases h2:p=n
  ·subst h2;simp[h1]
  ·by_cases h3:p<n
   ·simp[h1,h2,h3]
   ·have h4:p-n≠0:=by omega
    simp[h1,h2,h3,h4]
 ·simp[h1]
theorem dy.bit (n:Nat):dy (eC n) (n+1):=fun p hp=>by
 rw[JT]at hp;simp at hp;omega
structure GM.ok (m:GM):Prop where
 len:m.cB.length=m.aO.length
 cB:∀ f∈m.cB,dy f m.aO.length
 ne:∀ s∈m.aO,s≠0
structure GP.ok (a:GP) (n:Nat):Prop where
 fst:dy a.fst n
 cL:dy a.cL n
theorem GP.ok.mono {a:GP} {n n':Nat} (h:a.ok n) (hn:n<=n'):a.ok n':=⟨h.fst.mono hn,h.cL.mono hn⟩
theorem Ec {m:GM} (h:m.ok) {last first:PB} (hf:dy first m.aO.length):(iD m last first).ok:=by
 refine⟨?_,fun f hf'=>?_,h.ne⟩
 ·show(m.cB.mapIdx _).length=_
  rw[List.length_mapIdx];exact h.len
 ·obtain⟨i,hi,rfl⟩:=List.mem_mapIdx.1 hf'
  have h1:=h.cB _ (DH hi);show dy (if last.getLsbD i=B_ then m.cB[i] ||| first else m.cB[i]) m.aO.length;split
  ·exact h1.or hf
  ·exact h1
theorem Ed {m:GM} (h:m.ok) {a b:GP} (ha:a.ok m.aO.length) (hb:b.ok m.aO.length):(cH m a b).1.ok/\(cH m a b).1.aO=m.aO/\(cH m a b).2.ok m.aO.length:=by
 refine⟨Ec h hb.fst,rfl,?_,?_⟩
 ·show dy (if a.emp=B_ then a.fst ||| b.fst else a.fst) _
  split
  ·exact ha.fst.or hb.fst
  ·exact ha.fst
 ·show dy (if b.emp=B_ then b.cL ||| a.cL else b.cL) _
  split
  ·exact hb.cL.or ha.cL
  ·exact hb.cL
mutual
def RX.cnt:RX->Nat
 | .nd k _ a b l=>if k=0 then 0 else if k=1 then 0 else if k=2 then 1 else if k=3 then RX.gi l else if k=4 then RX.gi l else if k=5 then eR a b*RX.cnt1 l else RX.cnt1 l
def RX.gi:List RX->Nat
 | []=>0
 | t::l=>t.cnt+RX.gi l
def RX.cnt1:List RX->Nat
 | []=>0
 | t::_=>t.cnt
end
structure iY (m:GM) (r:GM×GP) (c:Nat):Prop where
 ok:r.1.ok
 len:r.1.aO.length=m.aO.length+c
 gp:r.2.ok r.1.aO.length
theorem AY:∀ (l:List RX),(∀ t∈l,∀ m:GM,m.ok->iY m (t.dw m) t.cnt)->∀ (m:GM) (st:GM×GP) (c:Nat),iY m st c->iY m (RX.iT l st) (c+RX.gi l)
 | [],_,m,st,c,h=>by rw[RX.iT,RX.gi];exact h
 | t::l,hl,m,st,c,h=>by
  rw[RX.iT,RX.gi, <-Q_];refine AY l (fun x hx=>hl x (bM _ hx)) m _ _ ?_;have h1:=hl t (bu ..) st.1 h.ok;obtain⟨g1,g2,g3⟩:=Ed h1.ok (h.gp.mono (by rw[h1.len];omega)) h1.gp;refine⟨g1,?_,?_⟩
  ·rw[g2,h1.len,h.len];omega
  ·rw[g2];exact g3
theorem AZ:∀ (l:List RX),(∀ t∈l,∀ m:GM,m.ok->iY m (t.dw m) t.cnt)->∀ (m:GM) (st:GM×GP) (c:Nat),iY m st c->iY m (RX.fM l st) (c+RX.gi l)
 | [],_,m,st,c,h=>by rw[RX.fM,RX.gi];exact h
 | t::l,hl,m,st,c,h=>by
  rw[RX.fM,RX.gi, <-Q_];refine AZ l (fun x hx=>hl x (bM _ hx)) m _ _ ?_;have h1:=hl t (bu ..) st.1 h.ok;have h2:=h.gp.mono (n':=(t.dw st.1).1.aO.length) (by rw[h1.len];omega);refine⟨h1.ok,?_,h2.fst.or h1.gp.fst,h2.cL.or h1.gp.cL⟩;show(t.dw st.1).1.aO.length=_;rw[h1.len,h.len];omega
theorem UD {mn mx:Int} {k c:Nat} {m:GM} {a:GP} (ha:a.ok m.aO.length) {x:GM×GP} (h:iY m x c):iY m (AX mn mx k a x) c:=by
 unfold AX;have h1:(if mx= -1/\k+1=eR mn mx then iD x.1 x.2.cL x.2.fst else x.1).ok/\(if mx= -1/\k+1=eR mn mx then iD x.1 x.2.cL x.2.fst else x.1).aO=x.1.aO:=by
  split
  ·exact⟨Ec h.ok h.gp.fst,rfl⟩
  ·exact⟨h.ok,rfl⟩
 obtain⟨g1,g2,g3⟩:=Ed h1.1 (a:=a) (b:=⟨x.2.fst,x.2.cL,x.2.emp || decide (mn<=k)⟩) (by rw[h1.2];exact ha.mono (by rw[h.len];omega)) (by rw[h1.2];exact⟨h.gp.fst,h.gp.cL⟩);refine⟨g1,?_,?_⟩
 ·rw[g2,h1.2,h.len]
 ·rw[g2];exact g3
theorem vJ {mn mx:Int} {c:Nat} {f:GM->GM×GP} (hf:∀ m:GM,m.ok->iY m (f m) c) {m:GM} (h:m.ok):∀ k,iY m (dS mn mx f m k) (k*c)
 | 0=>⟨h,by simp[dS],dy.zero _,dy.zero _⟩
 | k+1=>by
  have ih:=vJ hf h (mn:=mn) (mx:=mx) k;have h1:=UD (mn:=mn) (mx:=mx) (k:=k) ih.gp (hf _ ih.ok);refine⟨h1.ok,?_,h1.gp⟩;show(AX mn mx k (dS mn mx f m k).2 (f (dS mn mx f m k).1)).1.aO.length=_;rw[h1.len,ih.len,D_];omega
mutual
def RX.full:RX->Bool
 | .nd k s _ _ l=>(k != 2 || s != 0)&&RX.zm l
def RX.zm:List RX->Bool
 | []=>B_
 | t::l=>t.full&&RX.zm l
end
theorem zn:∀ {l:List RX},RX.zm l=B_->∀ t∈l,t.full=B_
 | [],_,t,h=>by cases h
 | x::l,h,t,ht=>by
  rw[RX.zm,Bs]at h;rcases GB.1 ht with rfl | ht
  ·exact h.1
  ·exact zn h.2 t ht
theorem nD (t:RX):t.full=B_->∀ m:GM,m.ok->iY m (t.dw m) t.cnt:=by
 induction t using RX.ind with
 | h k s a b l ih=>
  intro hf m hm;rw[RX.full,Bs]at hf;have hl:∀ t∈l,∀ m:GM,m.ok->iY m (t.dw m) t.cnt:=fun t ht=>ih t ht (zn hf.2 t ht)
  rw[RX.dw,RX.cnt];by_cases h0:k=0
  ·rw[if_pos h0,if_pos h0];exact⟨hm,rfl,dy.zero _,dy.zero _⟩
  rw[if_neg h0,if_neg h0];by_cases h1:k=1
  ·rw[if_pos h1,if_pos h1];exact⟨hm,rfl,dy.zero _,dy.zero _⟩
  rw[if_neg h1,if_neg h1];by_cases h2:k=2
  ·rw[if_pos h2,if_pos h2]
   have hs:s≠0:=by rw[h2]at hf;simpa using hf.1
   have e:(m.aO++ [s]).length=m.aO.length+1:=by simp
   refine⟨⟨by simp[hm.len],fun f hf'=>?_,fun x hx=>?_⟩,e,?_,?_⟩
   ·show dy f (m.aO++ [s]).length
    rw[e];rcases A_.1 hf' with hf' | hf'
    ·exact(hm.cB f hf').mono (by omega)
    ·rw[AN.1 hf'];exact dy.zero _
   ·rcases A_.1 hx with hx | hx
    ·exact hm.ne x hx
    ·rw[AN.1 hx];exact hs
   ·show dy (eC m.aO.length) (m.aO++ [s]).length
    rw[e];exact dy.bit _
   ·show dy (eC m.aO.length) (m.aO++ [s]).length
    rw[e];exact dy.bit _
  rw[if_neg h2,if_neg h2];have hz:∀ e,iY m (m,⟨0,0,e⟩) 0:=fun e=>⟨hm,rfl,dy.zero _,dy.zero _⟩
  by_cases h3:k=3
  ·rw[if_pos h3,if_pos h3]
   have:=AY l hl m _ 0 (hz B_);rwa[Bm]at this
  rw[if_neg h3,if_neg h3];by_cases h4:k=4
  ·rw[if_pos h4,if_pos h4]
   have:=AZ l hl m _ 0 (hz D0);rwa[Bm]at this
  rw[if_neg h4,if_neg h4];cases l with
  | nil=>
   by_cases h5:k=5
   ·rw[if_pos h5,if_pos h5,RX.rpG,RX.cnt1];exact hz B_
   ·rw[if_neg h5,if_neg h5,RX.hdG,RX.cnt1];exact hz D0
  | cons t l=>
   have ht:=hl t (bu ..);by_cases h5:k=5
   ·rw[if_pos h5,if_pos h5,RX.rpG,RX.cnt1];exact vJ ht hm _
   ·rw[if_neg h5,if_neg h5,RX.hdG,RX.cnt1];exact ht m hm
def RX.nf (t:RX):NF:=⟨(t.dw ⟨[],[]⟩).1.aO,(t.dw ⟨[],[]⟩).1.cB.map dT,dT (t.dw ⟨[],[]⟩).2.fst,dT (t.dw ⟨[],[]⟩).2.cL,(t.dw ⟨[],[]⟩).2.emp⟩
theorem vK {x:PB} {n:Nat} (h:dy x n):dQ 0 ((n:Int)-1) (dT x)=true:=by
 refine oo (ny _ _) fun y hy=>?_
 obtain⟨q,hq,rfl⟩:=List.mem_map.1 hy;have:=h q (H_.1 hq).2;show(0:Int)<=(q:Int)/\(q:Int)<=_;omega
theorem acd {t:RX} (h:t.full=B_) (hc:t.cnt<=400):Nt t.nf:=by
 have H:=nD t h ⟨[],[]⟩ ⟨rfl,fun f hf=>(by cases hf),fun s hs=>(by cases hs)⟩;have hl:=H.len;simp only[H',Bm]at hl;refine⟨?_,?_,vK H.gp.fst,vK H.gp.cL,fun p hp=>?_,fun p hp=>?_⟩
 ·show(t.dw ⟨[],[]⟩).1.aO.length<=400
  omega
 ·show((t.dw ⟨[],[]⟩).1.cB.map dT).length=_
  rw[aP];exact H.ok.len
 ·show dQ 0 _ (((t.dw ⟨[],[]⟩).1.cB.map dT).getD p [])=B_
  have Wi:p<(t.dw ⟨[],[]⟩).1.cB.length:=by rw[H.ok.len];exact hp
  rw[bB,aN,aB Wi];exact vK (H.ok.cB _ (DH Wi))
 ·show(t.dw ⟨[],[]⟩).1.aO.getD p 0≠0
  have hp3:p<(t.dw ⟨[],[]⟩).1.aO.length:=hp;rw[bB,aB hp3];exact H.ok.ne _ (DH hp3)
theorem Ee:∀ {l:List RX} {t x:RX},t∈l->x∈t.pre->x∈RX.kY l
 | y::l,t,x,ht,hx=>by
  rw[RX.kY];rcases GB.1 ht with rfl | ht
  ·exact List.mem_append_left _ hx
  ·exact List.mem_append_right _ (Ee ht hx)
theorem Ef (t:RX):t∈t.pre:=by cases t;rw[RX.pre];exact bu ..
theorem A0 {k:Nat} {s:BS} {a b:Int} {l:List RX} {P:RX->Prop} (h:∀ x∈(RX.nd k s a b l).pre,P x):P (.nd k s a b l)/\∀ t∈l,∀ x∈t.pre,P x:=by refine⟨h _ (Ef _),fun t ht x hx=>h x ?_⟩;rw[RX.pre];exact bM _ (Ee ht hx)
theorem cI (t:RX) (h:t.cZ=B_):(t.kind=2->t.set≠0)/\(t.kind<3->t.subs=[])/\(t.kind≠0)/\(t.kind<=6)/\(t.kind=5\/t.kind=6->t.subs.length=1)/\(t.kind=5->iA t.mn t.mx=B_)/\(t.kind=3\/t.kind=4->1<t.subs.length):=by
 unfold RX.cZ at h;generalize t.kind=k at*;generalize t.set=s at*;generalize t.mn=a at*;generalize t.mx=b at*;generalize t.has 1=i1 at*;generalize t.has 3=i3 at*;generalize t.has 4=i4 at*;generalize t.subs=l at*;split at h
 ·cases h
 rename_i h0;have hl:k<3->l=[]:=fun hk=>by
  apply List.eq_nil_of_length_eq_zero;have:¬ (k<3/\0<l.length):=fun e=>h0 (.inr (.inr e))
  omega
 refine⟨fun hk=>?_,hl,fun hk=>?_,?_,fun hk=>?_,fun hk=>?_,fun hk=>?_⟩
 ·subst hk;simpa using h
 ·subst hk;simp at h
 ·split at h
  ·omega
  split at h
  ·omega
  split at h
  ·omega
  split at h
  ·omega
  split at h
  ·omega
  ·simp at h;omega
 ·rcases hk with rfl | rfl
  ·simp at h;exact h.1.1
  ·simp at h;exact h
 ·subst hk;simp at h;exact h.1.2
 ·rcases hk with rfl | rfl
  ·simp at h;exact h.1.1
  ·simp at h;exact h.1
theorem sB {k:Nat} {s:BS} {a b:Int} {l:List RX} (h:(RX.nd k s a b l).cZ=B_):(k=2->s≠0)/\(k<3->l=[])/\(k≠0)/\(k<=6)/\(k=5\/k=6->l.length=1)/\(k=5->iA a b=B_)/\(k=3\/k=4->1<l.length):=cI _ h
theorem pV (t:RX):(∀ x∈t.pre,x.cZ=B_)->t.full=true:=by
 induction t using RX.ind with
 | h k s a b l ih=>
  intro h;obtain⟨h1,h2⟩:=A0 h;rw[RX.full,Bs];refine⟨?_,?_⟩
  ·by_cases hk:k=2
   ·rw[N_]
    exact .inr (bne_iff_ne.2 ((sB h1).1 hk))
   ·simp[hk]
  ·have:∀ l':List RX,(∀ t∈l',t∈l)->RX.zm l'=true:=by
    intro l';induction l' with
    | nil=>intro _;rfl
    | cons x l' YA=>
     intro hs;rw[RX.zm,Bs];exact⟨ih x (hs x (bu ..)) (h2 x (hs x (bu ..))),YA fun t ht=>hs t (bM _ ht)⟩
   exact this l fun t ht=>ht
theorem tB {a b:Int} (h:iA a b=B_):RX.times a b=eR a b/\1<=eR a b/\eR a b<=16:=by
 unfold iA at h;split at h
 ·cases h
 ·unfold RX.times eR
  simp only[N_,Bs,decide_eq_true_eq]at h;by_cases hb:b= -1
  ·rw[if_pos hb,if_pos hb];omega
  ·rw[if_neg hb,if_neg hb];omega
theorem Eg (t:RX):(∀ x∈t.pre,x.cZ=B_)->t.cy<=400->t.cnt=t.cy:=by
 induction t using RX.ind with
 | h k s a b l ih=>
  intro h hp;obtain⟨h1,h2⟩:=A0 h;obtain⟨_,hk3,rS,hk6,h56,h5,_⟩:=sB h1;rw[RX.cy]at hp ⊢;have ace:∀ l':List RX,(∀ t∈l',t∈l)->RX.bF l'<=400->RX.gi l'=RX.bF l':=by
   intro l';induction l' with
   | nil=>intro _ _;rfl
   | cons x l' YA=>
    intro hs hle;rw[RX.bF]at hle;rw[RX.gi,RX.bF,ih x (hs x (bu ..)) (h2 x (hs x (bu ..))) (by omega),YA (fun t ht=>hs t (bM _ ht)) (by omega)]
  rw[RX.cnt,if_neg rS];by_cases h1k:k=1
  ·subst h1k
   rw[hk3 (by omega)];simp[RX.bF]
  rw[if_neg h1k];by_cases h2k:k=2
  ·subst h2k
   rw[hk3 (by omega)];simp[RX.bF]
  rw[if_neg h2k];rw[if_neg h2k,Bm]at hp ⊢;by_cases h5k:k=5
  ·subst h5k
   obtain⟨e1,e2,e3⟩:=tB (h5 rfl);rw[if_pos rfl,e1]at hp ⊢;have hm:min (eR a b) 10001=eR a b:=by omega
   rw[hm]at hp ⊢;obtain⟨x,rfl⟩:=G'.1 (h56 (.inl rfl));have hx:RX.bF [x]=x.cy:=by simp[RX.bF]
   rw[hx]at hp ⊢;have hle:x.cy<=x.cy*eR a b:=GW _ e2;rw[if_neg (by omega),if_neg (by omega),if_pos rfl,RX.cnt1,ih x (bu ..) (h2 x (bu ..)) (by omega)];rw[Nat.mul_comm];omega
  ·rw[if_neg h5k,Is]at hp
   simp only[if_neg h5k,Is];have hle:RX.bF l<=400:=by omega
   have e:=ace l (fun t ht=>ht) hle;by_cases h3k:k=3
   ·rw[if_pos h3k,e];omega
   rw[if_neg h3k];by_cases h4k:k=4
   ·rw[if_pos h4k,e];omega
   rw[if_neg h4k];obtain⟨x,rfl⟩:=G'.1 (h56 (.inr (by omega)));rw[RX.cnt1];simp[RX.gi,RX.bF]at e;simp[RX.bF]at hle ⊢;omega
theorem Eh {t:RX} (h:t.clean=B_) (hp:t.cy<=400):Nt t.nf:=by unfold RX.clean at h;rw[Bs,Ly]at h;exact acd (pV t h.2) (by rw[Eg t h.2 hp];exact hp)
def aq (k:Nat) (s:BS) (mn mx:Int) (a:Value):Array Value:= #[AM .u8 k,AM A' (wd s 0).toNat,AM A' (wd s 1).toNat,AM A' (wd s 2).toNat,AM A' (wd s 3).toNat,AM Iv mn,AM Iv mx,a]
inductive aH (F:Nat->Prop) (w:AF):Value->RX->Prop
 | mk (k:Nat) (s:BS) (mn mx:Int) (l:List RX) (a:Value) (b off cap:Nat) (vs:Nat->Value)
  (h0:l=[]->∃ p c,a=AT p 0 c)
  (h1:l≠[]->a=AT (An ⟨b,off,As⟩) l.length cap/\F b/\b<w.heap.size/\l.length<=cap)
  (hc:∀ (i:Nat) (t:RX),l[i]? =An t->∃ cs:Array Value,vs i=IT cs/\∀ (j:Nat) (u:Value),cs[j]? =An u->w.cell? ⟨b,off+i*8+j,As⟩=An u)
  (hr:∀ (i:Nat) (t:RX),l[i]? =An t->aH F w (vs i) t):aH F w (IT (aq k s mn mx a)) (.nd k s mn mx l)
theorem aH.form {F:Nat->Prop} {w:AF} {v:Value} {t:RX} (h:aH F w v t):∃ p c,v=IT (aq t.kind t.set t.mn t.mx (AT p t.subs.length c)):=by
 cases h with
 | mk k s mn mx l a b off cap vs h0 h1 hc hr=>
  cases l with
  | nil=>obtain⟨p,c,rfl⟩:=h0 rfl;exact⟨p,c,rfl⟩
  | cons x l=>obtain⟨rfl,_⟩:=h1 (by simp);exact⟨_,_,rfl⟩
theorem aH.keeps {F R:Nat->Prop} {w w':AF} (hk:ae R w w') (hR:∀ b,F b->R b) {v:Value} {t:RX} (h:aH F w v t):aH F w' v t:=by
 induction h with
 | mk k s mn mx l a b off cap vs h0 h1 hc hr ih=>
  refine .mk k s mn mx l a b off cap vs h0 (fun hl=>?_) (fun i t hi=>?_) ih
  ·obtain⟨e,hF,hb,mD⟩:=h1 hl
   exact⟨e,hF,ay hb hk.size,mD⟩
  ·obtain⟨cs,e,hcs⟩:=hc i t hi
   have hl:l≠[]:=fun e=>by rw[e]at hi;simp at hi
   obtain⟨_,hF,_⟩:=h1 hl;exact⟨cs,e,fun j u hj=>(hk.cell (p:=⟨b,off+i*8+j,As⟩) (hR b hF)).trans (hcs j u hj)⟩
theorem aH.mono {F F':Nat->Prop} {w:AF} (hF:∀ b,F b->F' b) {v:Value} {t:RX} (h:aH F w v t):aH F' w v t:=by
 induction h with
 | mk k s mn mx l a b off cap vs h0 h1 hc hr ih=>exact .mk k s mn mx l a b off cap vs h0 (fun hl=>by obtain⟨e,h2,h3⟩:=h1 hl;exact⟨e,hF b h2,h3⟩) hc ih
theorem aH.mF {n:Nat} {w w':AF} {v:Value} {t:RX} (h:aH (· <n) w v t) (hk:Below n w w'):aH (· <n) w' v t:=h.keeps (ae.aj hk fun _ h=>h) fun _ h=>h
theorem aH.kept {n:Nat} {w w':AF} {v:Value} {t:RX} (h:aH (· <n) w v t) (hk:ae (· <n) w w'):aH (· <n) w' v t:=h.keeps hk fun _ h=>h
theorem aH.elem {F:Nat->Prop} {w:AF} {k n c:Nat} {s:BS} {mn mx:Int} {p:Option SO} {l:List RX} (h:aH F w (IT (aq k s mn mx (AT p n c))) (.nd k s mn mx l)) {i:Nat} {t:RX} (hi:l[i]? =An t): ∃ b off p' c',p=An ⟨b,off,As⟩/\F b/\b<w.heap.size/\n<=c/\ (w.cell? ⟨b,off+i*8,As⟩=An (AM .u8 t.kind)/\w.cell? ⟨b,off+i*8+1,As⟩=An (AM A' (wd t.set 0).toNat)/\w.cell? ⟨b,off+i*8+2,As⟩=An (AM A' (wd t.set 1).toNat)/\w.cell? ⟨b,off+i*8+3,As⟩=An (AM A' (wd t.set 2).toNat)/\w.cell? ⟨b,off+i*8+4,As⟩=An (AM A' (wd t.set 3).toNat)/\w.cell? ⟨b,off+i*8+5,As⟩=An (AM Iv t.mn)/\w.cell? ⟨b,off+i*8+6,As⟩=An (AM Iv t.mx)/\w.cell? ⟨b,off+i*8+7,As⟩=An (AT p' t.subs.length c'))/\ aH F w (IT (aq t.kind t.set t.mn t.mx (AT p' t.subs.length c'))) t:=by
 generalize hv:(IT (aq k s mn mx (AT p n c)))=v at h;generalize ht:RX.nd k s mn mx l=T at h;cases h with
 | mk k' s' mn' mx' l' a b off cap vs h0 h1 hc hr=>
  injection ht with e1 e2 e3 e4 e5
  subst e1 e2 e3 e4 e5;have hl:l≠[]:=fun e=>by rw[e]at hi;simp at hi
  obtain⟨ea,hF,hb,mD⟩:=h1 hl;rw[ea]at hv;have e7:(aq k s mn mx (AT p n c))[7]? =(aq k s mn mx (AT (An ⟨b,off,As⟩) l.length cap))[7]? :=by injection hv with e;rw[e]
  have e8:AT p n c=AT (An ⟨b,off,As⟩) l.length cap:=by simpa[aq]using e7
  obtain⟨rfl,rfl,rfl⟩:p=An ⟨b,off,As⟩/\n=l.length/\c=cap:=by injection e8 with a1 a2 a3;exact⟨a1,a2,a3⟩
  have ht:=hr i t hi;obtain⟨cs,ec,hcs⟩:=hc i t hi;obtain⟨p',c',ev⟩:=ht.form;rw[ev]at ht ec;injection ec with ec
  subst ec;exact⟨b,off,p',c',rfl,hF,hb,mD,⟨hcs 0 _ rfl,hcs 1 _ rfl,hcs 2 _ rfl,hcs 3 _ rfl,hcs 4 _ rfl,hcs 5 _ rfl,hcs 6 _ rfl,hcs 7 _ rfl⟩,ht⟩
theorem aH.leaf (F:Nat->Prop) (w:AF) (k:Nat) (s:BS) (mn mx:Int) (p:Option SO) (c:Nat):aH F w (IT (aq k s mn mx (AT p 0 c))) (.nd k s mn mx []):=
 .mk k s mn mx [] _ 0 0 0 (fun _=>M_) (fun _=>⟨p,c,rfl⟩) (fun h=>absurd rfl h) (fun i t h=>by simp at h) (fun i t h=>by simp at h)
theorem pD {P:Program} {fn:Func} {tmps:Array Value} {R:Ending->AF->Prop} {v:Value} :∀ (Ds:List Nat) (W:AF),Ds.Nodup->(∀ D∈Ds,W.heap[D]? =An (.deferred (An [])))-> ((results fn tmps).run P (Ds.foldl (fun W D=>W.putObj D (.deferred As)) W)=.ok v (Ds.foldl (fun W D=>W.putObj D (.deferred As)) W))->R (Cd v) (Ds.foldl (fun W D=>W.putObj D (.deferred As)) W)-> LeavesInM Fence.wide 0 P fn tmps R (Ds.map fun D=> {target:=.collected D,args:= #[]}) .returning W
 | [],W,_,_,hr,hR=>⟨v,hr,hR⟩
 | D::Ds,W,hn,hD,hr,hR=>by
  obtain⟨h1,h2⟩:=List.nodup_cons.1 hn;refine⟨by simp,.inl ⟨_,_,rfl,run_takeDeferred (hD D (bu ..)),?_⟩⟩;refine pD Ds _ h2 (fun E hE=>?_) hr hR;have hne:E≠D:=fun e=>by rw[e]at hE;exact h1 hE
  exact(World.putObj_heap_other hne).trans (hD E (bM _ hE))
end
section
open Go Go.RowKit Go.Shelf Go.Maps
section
variable {P:Program} {ops:Array Oper}
theorem eT {rest:List Oper} {o:Oper} {a:Act} {w:AF} {Q:Exit->Act->AF->Prop} (hw:Region.wanted o (yielded ops a.tmps)=B_) (s x:Operand) (t:C') (ho:o.op=.call {callee:=.builtin .append,args:= #[s,x],argTypes:= #[t,t]}) (base:Nat) (e:C') (i:TypeInfo) (z:Value) (size bytes:Nat) (ht:P.underlying t=An (.slice e)) (hi:P.info? e=An i) (hz:i.zero=An z) (hsize:i.size=size) (hby:i.bytes=bytes) (hzs:z.cells.size=size) (hsz:0<size) (v:Value) (k:Nat) (xs:List Value) (hs:a.eval s=v) (hown:w.ownsRow base e size v k xs) (ad:SO) (m c:Nat) (news:List Value) (hx:a.eval x=AT (An ad) m c) (hnews:∀ j u,news[j]? =An u->w.cell? (ad.add j)=An u) (hl:news.length=m*size) (h1:∀ u∈news,u.oneCell'=B_) (h63:k+m<=maxLen) (hbytes:(k+m)*bytes<=140737488355328) (hbase:base<=w.heap.size) (h:∀ v' w',w'.ownsRow base e size v' (k+m) (xs++news)->w.grownBy w' v.ownBlock->(v'.ownBlock=v.ownBlock\/v'.ownBlock=An w.heap.size)->wpList P ops Q rest (a.put o.dst v') w'): wpList P ops Q (o::rest) a w:=by
 refine jH hw fun K hK=>?_
 obtain⟨v',w',hr,h2,h3,_,h5⟩:=run_append_own_at (P:=P) w base t o.type e i z size bytes ht hi hz hsize hby hzs hsz v k xs hown ad m c news hl hnews h1 h63 hbytes hbase;unfold Oper.wp execOp;simp only[ho,resolve,invoke,builtin,Sem.run_bind,Sem.run_pure,Result.andThen_ok,L7,Rr,Sf,hs,hx,hr];exact hK _ _ (h v' w' h2 h3 h5)
theorem jN {rest:List Oper} {o:Oper} {a:Act} {w:AF} {Q:Exit->Act->AF->Prop} (hw:Region.wanted o (yielded ops a.tmps)=B_) (s x:Operand) (t:C') (ho:o.op=.call {callee:=.builtin .append,args:= #[s,x],argTypes:= #[t,t]}) (base:Nat) (e:C') (i:TypeInfo) (z:Value) (size bytes:Nat) (ht:P.underlying t=An (.slice e)) (hi:P.info? e=An i) (hz:i.zero=An z) (hsize:i.size=size) (hby:i.bytes=bytes) (hzs:z.cells.size=size) (hsz:0<size) (b:SO) (k:Nat) (xs:List Value) (hs:a.eval s=AT (An b) k k) (Ad:xs.length=k*size) (holds:∀ j u,xs[j]? =An u->w.cell? (b.add j)=An u) (ad:SO) (m c:Nat) (news:List Value) (hx:a.eval x=AT (An ad) m c) (hnews:∀ j u,news[j]? =An u->w.cell? (ad.add j)=An u) (hl:news.length=m*size) (hm:0<m) (h63:k+m<=maxLen) (hbytes:(k+m)*bytes<=140737488355328) (hbase:base<=w.heap.size) (h:∀ v' w',w'.ownsRow base e size v' (k+m) (xs++news)->aa w w'->v'.ownBlock=An w.heap.size->wpList P ops Q rest (a.put o.dst v') w'): wpList P ops Q (o::rest) a w:=by
 refine jH hw fun K hK=>?_
 subst hsize;subst hby;have agL:k+m<=9223372036854775807:=by simp only[maxLen]at h63;omega
 have hr:=run_append_grow (P:=P) w t o.type e i z ht hi hz b k k xs Ad holds ad m c news hl hnews (by omega) (by omega) (growslice_fits (by omega) hbytes);unfold Oper.wp execOp;simp only[ho,resolve,invoke,builtin,Sem.run_bind,Sem.run_pure,Result.andThen_ok,L7,Rr,Sf,hs,hx,hr];have VL:=grownCap_ge w (k+m) k e;have hcm:grownCap w (k+m) k e<=maxLen:=grownCap_le_maxLen w (k+m) k e h63;have hlen:(xs++news).length=(k+m)*i.size:=by rw[aJ,Ad,hl,NX]
 refine hK _ _ (h _ _ ⟨hlen,.inr ⟨w.heap.size,_,_,rfl,hbase,heap_alloc_new w.drew _,VL,hcm,?_,?_⟩⟩ ((Ext.refl w).drew.alloc _).below rfl)
 ·simp only[Array.size_append,FG,size_zeroCells,hzs,Ad,hl, <-NX]
  congr 1
  omega
 ·simp only[Array.toList_append,F_]
  rw[<-F_, <-hlen];exact List.take_left
end
def bD (cs:List (Array Value)):List Value:=cs.flatMap Array.toList
theorem fO:∀ {cs:List (Array Value)},(∀ c∈cs,c.size=8)->(bD cs).length=cs.length*8
 | [],_=>rfl
 | c::cs,h=>by
  unfold bD;rw[AS,aJ,By];have:=fO fun x hx=>h x (bM _ hx)
  unfold bD at this;rw[this,C_,h c (bu ..)];omega
theorem im:∀ {cs:List (Array Value)} {i j:Nat} {c:Array Value} {u:Value},(∀ c∈cs,c.size=8)->cs[i]? =An c->c[j]? =An u->(bD cs)[i*8+j]? =An u
 | x::cs,0,j,c,u,h,hi,hj=>by
  simp at hi;subst hi;unfold bD;have hl:=(EV.1 hj).1;rw[AS,bH (by rw[C_];omega),St,Bm,Array.getElem?_toList];exact hj
 | x::cs,i+1,j,c,u,h,hi,hj=>by
  have ih:=im (cs:=cs) (i:=i) (fun y hy=>h y (bM _ hy)) (by simpa using hi) hj;unfold bD at ih ⊢;rw[AS,cF (by rw[C_,h x (bu ..)];omega), <-ih];congr 1;rw[C_,h x (bu ..)];omega
theorem lQ (a b:List (Array Value)):bD (a++b)=bD a++bD b:=by unfold bD;rw[I_]
theorem cD (k:Nat) (s:BS) (mn mx:Int) (p:Option SO) (n c:Nat):(aq k s mn mx (AT p n c)).size=8/\∀ u∈(aq k s mn mx (AT p n c)).toList,u.oneCell'=true:=by refine⟨rfl,fun u hu=>?_⟩;simp[aq]at hu;rcases hu with rfl | rfl | rfl | rfl | rfl | rfl | rfl | rfl<;>rfl
def bT (base:Nat) (w:AF) (v:Value) (l:List RX):Prop:=∃ cs:List (Array Value),cs.length=l.length/\w.ownsRow base 97 8 v l.length (bD cs)/\(∀ c∈cs,c.size=8/\∀ u∈c.toList,u.oneCell'=B_)/\
 ∀ (i:Nat) (c:Array Value) (t:RX),cs[i]? =An c->l[i]? =An t->aH (fun x=>base<=x/\x<w.heap.size/\v.ownBlock≠An x) w (IT c) t
theorem bT.nil (base:Nat) (w:AF):bT base w (AT As 0 0) []:=⟨[],rfl,World.ownsRow_nil _ _ _ _,(fun _ h=>nomatch h),fun i c t h=>by simp at h⟩
theorem bT.form {base:Nat} {w:AF} {v:Value} {l:List RX} (h:bT base w v l):∃ a c,v=AT a l.length c:=by obtain⟨cs,h1,h2,h3,h4⟩:=h;exact ownsRow_form h2
theorem bT.keeps {base:Nat} {R:Nat->Prop} {w w':AF} {v:Value} {l:List RX} (h:bT base w v l) (hk:ae R w w') (hR:∀ x,x<w.heap.size->base<=x\/v.ownBlock≠An x->R x):bT base w' v l:=by obtain⟨cs,h1,h2,h3,h4⟩:=h;refine⟨cs,h1,ak h2 hk fun x hx=>hR x (h2.lt x hx).2 (.inl (h2.lt x hx).1),h3,fun i c t hi ht=>?_⟩;exact((h4 i c t hi ht).keeps hk fun x hx=>hR x hx.2.1 (.inl hx.1)).mono fun x hx=>⟨hx.1,ay hx.2.1 hk.size,hx.2.2⟩
theorem bT.below {base:Nat} {w w':AF} {v:Value} {l:List RX} (h:bT base w v l) (hk:aa w w'):bT base w' v l:=h.keeps (ae.aj hk fun _ h=>h:ae (· <w.heap.size) w w') fun _ hx _=>hx
theorem bT.elem {base:Nat} {w:AF} {a:Option SO} {n cap:Nat} {l:List RX} (h:bT base w (AT a n cap) l) {i:Nat} {t:RX} (hi:l[i]? =An t): ∃ g p' c',a=An ⟨g,0,As⟩/\n=l.length/\n<=cap/\base<=g/\g<w.heap.size/\ (w.cell? ⟨g,i*8,As⟩=An (AM .u8 t.kind)/\w.cell? ⟨g,i*8+1,As⟩=An (AM A' (wd t.set 0).toNat)/\w.cell? ⟨g,i*8+2,As⟩=An (AM A' (wd t.set 1).toNat)/\w.cell? ⟨g,i*8+3,As⟩=An (AM A' (wd t.set 2).toNat)/\w.cell? ⟨g,i*8+4,As⟩=An (AM A' (wd t.set 3).toNat)/\w.cell? ⟨g,i*8+5,As⟩=An (AM Iv t.mn)/\w.cell? ⟨g,i*8+6,As⟩=An (AM Iv t.mx)/\w.cell? ⟨g,i*8+7,As⟩=An (AT p' t.subs.length c'))/\ aH (fun x=>base<=x/\x<w.heap.size/\x≠g) w (IT (aq t.kind t.set t.mn t.mx (AT p' t.subs.length c'))) t:=by
 obtain⟨cs,h1,h2,h3,h4⟩:=h;have fT:=(Ft.1 hi).1;obtain⟨c,hc⟩:∃ c,cs[i]? =An c:=⟨_,aB (by omega)⟩;have hr:=h4 i c t hc hi;obtain⟨p',c',e⟩:=hr.form;injection e with e
 subst e;rcases h2.2 with⟨e1,e2⟩ | ⟨g,cap',cur,e1,e2,e3,e4,e5,_⟩
 ·exfalso;omega
 ·injection e1 with a1 a2 a3
  subst a1 a2 a3;have hlt:=h2.lt g rfl;have ce:∀ (j:Nat) (u:Value),(aq t.kind t.set t.mn t.mx (AT p' t.subs.length c'))[j]? =An u->w.cell? ⟨g,i*8+j,As⟩=An u:=fun j u hj=>by
   have:=h2.cells (g:=g) rfl _ _ (im (fun c hc=>(h3 c hc).1) hc hj);rw[Addr.add_mid]at this;simpa using this
  refine⟨g,p',c',rfl,rfl,e4,hlt.1,hlt.2,⟨ce 0 _ rfl,ce 1 _ rfl,ce 2 _ rfl,ce 3 _ rfl,ce 4 _ rfl,ce 5 _ rfl,ce 6 _ rfl,ce 7 _ rfl⟩,?_⟩;exact hr.mono fun x hx=>⟨hx.1,hx.2.1,fun e=>hx.2.2 (by rw[e];rfl)⟩
theorem bT.app {base:Nat} {w w':AF} {v v':Value} {l l2:List RX} {cs cs2:List (Array Value)} (h1:cs.length=l.length) (h3:∀ c∈cs,c.size=8/\∀ u∈c.toList,u.oneCell'=B_) (h4:∀ (i:Nat) (c:Array Value) (t:RX),cs[i]? =An c->l[i]? =An t->aH (fun x=>base<=x/\x<w.heap.size/\v.ownBlock≠An x) w (IT c) t) (g1:cs2.length=l2.length) (g3:∀ c∈cs2,c.size=8/\∀ u∈c.toList,u.oneCell'=B_) (g4:∀ (i:Nat) (c:Array Value) (t:RX),cs2[i]? =An c->l2[i]? =An t->aH (fun x=>base<=x/\x<w.heap.size/\v.ownBlock≠An x) w (IT c) t) (ho:w'.ownsRow base 97 8 v' (l.length+l2.length) (bD cs++bD cs2)) (hg:w.grownBy w' v.ownBlock) (kA:v'.ownBlock=v.ownBlock\/v'.ownBlock=An w.heap.size):bT base w' v' (l++l2):=by
 have key:∀ (c:Array Value) (t:RX),aH (fun x=>base<=x/\x<w.heap.size/\v.ownBlock≠An x) w (IT c) t->aH (fun x=>base<=x/\x<w'.heap.size/\v'.ownBlock≠An x) w' (IT c) t:=fun c t h=>by
  refine(h.keeps (ae.aZ hg fun x (hx:base<=x/\x<w.heap.size/\v.ownBlock≠An x)=>⟨hx.2.1,fun e=>hx.2.2 e.symm⟩) fun x hx=>hx).mono fun x hx=>⟨hx.1,ay hx.2.1 hg.size,fun e=>?_⟩
  rcases kA with e2 | e2
  ·exact hx.2.2 (by rw[<-e2,e])
  ·rw[e2]at e
   cases e
   exact Nat.lt_irrefl _ hx.2.1
 refine⟨cs++cs2,by simp[h1,g1],by rw[aJ,lQ];exact ho,fun c hc=>(A_.1 hc).elim (h3 c) (g3 c),fun i c t hi ht=>?_⟩;rcases Nat.lt_or_ge i l.length with fT | fT
 ·rw[bH (by omega)]at hi ht
  exact key c t (h4 i c t hi ht)
 ·rw[cF (by omega)]at hi ht
  rw[h1]at hi;exact key c t (g4 _ c t hi ht)
end
section
open Go Go.RowKit
def dU (n:Nat):List Nat:=[[97],[98],[97,98],[97],[98],[99],[97,98,99],[98,99],[10],[0,255],[97],[98]].getD (n%12) []
def nE (n:Nat):RX:=.nd 2 (pK fun c=>(dU n).contains c) 0 0 []
def dA:RX:=.nd 1 0 0 0 []
def dV (kind:Nat) (x:RX):List RX:=if x.kind=kind then x.subs else if kind=3/\x.kind=1 then []else [x]
def fH (kind:Nat) (l:List RX):RX:=match l with | []=>dA | [x]=>x | x::y::r=>.nd kind 0 0 0 (x::y::r)
def cr (kind:Nat) (a b:RX):RX:=fH kind (dV kind a++dV kind b)
structure dp where
 all:List RX
 mq:Nat
 xH:Nat
def dp.last (P:dp):RX:=P.all.getD (P.all.length-1) dA
def dp.gO (P:dp):RX:=P.all.getD (P.all.length-2) dA
def dp.put (P:dp) (k:Nat) (x:RX):List RX:=P.all.take (P.all.length-k)++ [x]
def eU (n:Nat):Nat:=n%3
def jO (n m:Nat):Int:=if m%4<eU n\/m%4=0\/(eU n=1/\m%4=1)then-1 else((m%4:Nat):Int)
def iq (n m:Nat):Nat:=(max (max (eU n:Int) (jO n m)) 1).toNat
def dp.step (P:dp) (s:Nat×Nat×Nat):dp:=
 if s.1%12<4 then⟨P.put 0 (nE s.2.1),P.mq,P.xH⟩else
 if s.1%12=4 then⟨P.put 0 dA,P.mq,P.xH⟩else
 if s.1%12<7/\1<P.all.length then⟨P.put 2 (cr 3 P.gO P.last),P.mq,P.xH⟩else
 if s.1%12<9/\1<P.all.length then⟨P.put 2 (cr 4 P.gO P.last),P.mq,P.xH⟩else
 if s.1%12=9/\0<P.all.length/\P.xH<9 then⟨P.put 1 (.nd 6 0 0 0 [P.last]),P.mq,P.xH+1⟩else
 if 9<s.1%12/\0<P.all.length/\P.last.kind≠1 then
  if P.mq*iq s.2.1 s.2.2<=16 then⟨P.put 1 (.nd 5 0 (eU s.2.1) (jO s.2.1 s.2.2) [P.last]),P.mq*iq s.2.1 s.2.2,P.xH⟩else P
 else P
def iZ (l:List (Nat×Nat×Nat)):dp:=l.foldl dp.step ⟨[],1,0⟩
def acf (l:List RX):RX:=match l with | []=>nE 0 | x::r=>r.foldl (cr 4) x
def gP (l:List (Nat×Nat×Nat)):RX:=acf (iZ (l.take 25)).all
def RX.fine (t:RX):Prop:=∀ x∈t.pre,x.cZ=B_
theorem lR {k:Nat} {s:BS} {a b:Int} {l:List RX} :(RX.nd k s a b l).fine↔(RX.nd k s a b l).cZ=B_/\∀ t∈l,t.fine:=by
 constructor
 ·intro h
  exact A0 h
 ·rintro⟨h1,h2⟩ x hx
  rw[RX.pre]at hx;rcases GB.1 hx with rfl | hx
  ·exact h1
  ·have:∀ l':List RX,(∀ t∈l',t.fine)->x∈RX.kY l'->x.cZ=true:=by
    intro l';induction l' with
    | nil=>intro _ h;rw[RX.kY]at h;cases h
    | cons y l' ih=>
     intro hf h;rw[RX.kY]at h;rcases A_.1 h with h | h
     ·exact hf y (bu ..) x h
     ·exact ih (fun t ht=>hf t (bM _ ht)) h
   exact this l h2 hx
theorem sD {t:RX} (h:t.fine):t.cZ=true:=h t (Ef t)
theorem L8 {t:RX} (h:t.fine):∀ x∈t.subs,x.fine:=by
 cases t with
 | nd k s a b l=>exact(lR.1 h).2
theorem Ei (n:Nat):(pK fun c=>(dU n).contains c)≠0:=by
 have h:n%12<12:=J_ _ (by decide);have key:∀ k,k<12->(pK fun c=>(dU k).contains c)≠0:=by decide+kernel
 have e:dU n=dU (n%12):=by unfold dU;rw[Nat.mod_mod]
 rw[e];exact key _ h
theorem tC (n:Nat):(nE n).fine:=by refine lR.2 ⟨?_,fun t h=>by cases h⟩;obtain⟨s,hs⟩:=ag (pK fun c=>(dU n).contains c);have h:=Ei n;rw[<-hs]at h ⊢;unfold RX.cZ RX.kind RX.set RX.mn RX.mx RX.subs;simpa using h
theorem tD:dA.fine:=lR.2 ⟨by decide,fun t h=>by cases h⟩
theorem et (a b:List RX):RX.sizes (a++b)=RX.sizes a+RX.sizes b:=by
 induction a with
 | nil=>simp[RX.sizes]
 | cons x a ih=>rw[DP,RX.sizes,RX.sizes,ih];omega
theorem eu (a b:List RX):RX.bF (a++b)=RX.bF a+RX.bF b:=by
 induction a with
 | nil=>simp[RX.bF]
 | cons x a ih=>rw[DP,RX.bF,RX.bF,ih];omega
theorem size_pos (t:RX):1<=t.size:=by cases t;rw[RX.size];omega
theorem zo (t:RX):RX.sizes t.subs+1=t.size:=by cases t;rw[RX.size,RX.subs];omega
theorem pW {k:Nat} (hk:k=3\/k=4) {x:RX} (h:x.fine):(∀ t∈dV k x,t.fine/\t.kind≠k/\(k=3->t.kind≠1))/\RX.sizes (dV k x)<=x.size/\(x.kind=k->RX.sizes (dV k x)+1<=x.size)/\min (RX.bF (dV k x)) 10001<=x.cy:=by
 unfold dV;by_cases h1:x.kind=k
 ·rw[if_pos h1]
  have hs:=zo x;refine⟨fun t ht=>⟨L8 h t ht,?_⟩,by omega,fun _=>by omega,?_⟩
  ·have hr:=sD h
   unfold RX.cZ at hr;split at hr
   ·cases hr
   ·have hh:∀ j,x.has j=D0->t.kind≠j:=fun j hj=>by
     unfold RX.has at hj;have:=J'.1 hj t ht;simpa using this
    rcases hk with rfl | rfl
    ·simp[h1]at hr
     exact⟨hh 3 hr.2,fun _=>hh 1 hr.1.2⟩
    ·simp[h1]at hr
     exact⟨hh 4 hr.2,fun e=>by omega⟩
  ·cases x with
   | nd k' s a b l=>
    have e:k'=k:=h1;subst e;rw[RX.subs,RX.cy,if_neg (by omega),if_neg (by omega)];omega
 ·rw[if_neg h1]
  by_cases h2:k=3/\x.kind=1
  ·rw[if_pos h2]
   exact⟨fun t ht=>by(cases ht),by simp[RX.sizes],fun e=>absurd e h1,by simp[RX.bF]⟩
  ·rw[if_neg h2]
   refine⟨fun t ht=>?_,by simp[RX.sizes],fun e=>absurd e h1,?_⟩
   ·rw[AN.1 ht]
    exact⟨h,h1,fun e=>fun e2=>h2 ⟨e,e2⟩⟩
   ·simp[RX.bF];omega
theorem A6 {k:Nat} (hk:k=3\/k=4) {l:List RX} (h:∀ t∈l,t.fine/\t.kind≠k/\(k=3->t.kind≠1)):(fH k l).fine/\(fH k l).size<=RX.sizes l+1/\(fH k l).cy<=RX.bF l:=by
 match l with
 | []=>exact⟨tD,by simp[fH,dA,RX.size,RX.sizes],by simp[fH,dA,RX.cy,RX.bF]⟩
 | [x]=>
  refine⟨(h x (bu ..)).1,?_,?_⟩
  ·simp[fH,RX.sizes]
  ·simp[fH,RX.bF]
 | x::y::r=>
  refine⟨lR.2 ⟨?_,fun t ht=>(h t ht).1⟩,?_,?_⟩
  ·have hh:∀ j,(∀ t∈x::y::r,t.kind≠j)->(RX.nd k 0 0 0 (x::y::r)).has j=false:=fun j hj=>by
    unfold RX.has;rw[J'];intro t ht;simpa using hj t ht
   unfold RX.cZ;rw[if_neg (by rintro(h | h | h)<;>simp[RX.kind,RX.set,RX.mn,RX.mx]at h;omega)];rcases hk with rfl | rfl
   ·rw[hh 1 fun t ht=>(h t ht).2.2 rfl,hh 3 fun t ht=>(h t ht).2.1]
    simp[RX.kind,RX.subs]
   ·rw[hh 4 fun t ht=>(h t ht).2.1]
    simp[RX.kind,RX.subs]
  ·show RX.size (.nd k 0 0 0 (x::y::r))<=_
   rw[RX.size];omega
  ·show RX.cy (.nd k 0 0 0 (x::y::r))<=_
   rw[RX.cy,if_neg (by omega),if_neg (by omega)];omega
theorem A7 (t:RX):t.cy<=10001:=by cases t;rw[RX.cy];omega
theorem tE {k:Nat} (hk:k=3\/k=4) {a b:RX} (ha:a.fine) (hb:b.fine):(cr k a b).fine/\(cr k a b).size<=a.size+b.size+1/\(cr k a b).cy<=a.cy+b.cy:=by
 obtain⟨a1,a2,_,a4⟩:=pW hk ha;obtain⟨b1,b2,_,b4⟩:=pW hk hb;obtain⟨g1,g2,g3⟩:=A6 hk (l:=dV k a++dV k b) fun t ht=>(A_.1 ht).elim (a1 t) (b1 t)
 rw[et]at g2;rw[eu]at g3;have:=A7 (cr k a b);refine⟨g1,?_,?_⟩
 ·show(fH k (dV k a++dV k b)).size<=_
  omega
 ·have e:(cr k a b).cy=(fH k (dV k a++dV k b)).cy:=rfl
  omega
theorem Qa (a b:Int) (s:BS) (x:RX):(RX.nd 5 s a b [x]).cy<=x.cy*RX.times a b:=by rw[RX.cy,if_neg (by decide),if_pos rfl,RX.bF,RX.bF,Bm,Nat.add_zero];refine D' (N' _ _) (Nat.mul_le_mul_left _ (N' _ _))
theorem vL (n m:Nat):iA (eU n) (jO n m)=B_/\RX.times (eU n) (jO n m)=iq n m/\1<=iq n m:=by
 have h1:n%3<3:=J_ _ (by decide);have h2:m%4<4:=J_ _ (by decide);unfold iq jO eU;generalize n%3=p at*;generalize m%4=q at*;have key:∀ p:Nat,p<3->∀ q:Nat,q<4->iA (p:Int) (if q<p\/q=0\/(p=1/\q=1)then-1 else(q:Int))=B_/\RX.times (p:Int) (if q<p\/q=0\/(p=1/\q=1)then-1 else(q:Int))=(max (max (p:Int) (if q<p\/q=0\/(p=1/\q=1)then-1 else(q:Int))) 1).toNat/\1<=(max (max (p:Int) (if q<p\/q=0\/(p=1/\q=1)then-1 else(q:Int))) 1).toNat:=by decide+kernel
 exact key p h1 q h2
structure dp.ok (P:dp) (c:Nat):Prop where
 fine:∀ t∈P.all,t.fine
 kind:∀ t∈P.all,t.kind≠0
 size:RX.sizes P.all<=c
 cy:RX.bF P.all<=c*P.mq
 mq:1<=P.mq
 zq:P.mq<=16
 len:P.all.length<=c
theorem kZ {l:List RX} (h:0<l.length):l=l.take (l.length-1)++ [l.getD (l.length-1) dA]:=by
 have e:l.getD (l.length-1) dA=l[l.length-1]'(by omega):=by rw[bB,aB (by omega)];rfl
 rw[e,List.take_append_getElem (by omega),show l.length-1+1=l.length by omega,L_]
theorem Hl {l:List RX} (h:1<l.length):l=l.take (l.length-2)++ [l.getD (l.length-2) dA,l.getD (l.length-1) dA]:=by
 have e1:=kZ (l:=l) (by omega);have e2:=kZ (l:=l.take (l.length-1)) (by simp;omega);rw[DQ,On (by omega),show l.length-1-1=l.length-2 by omega]at e2;rw[List.take_take,On (by omega)]at e2;have e3:(l.take (l.length-1)).getD (l.length-2) dA=l.getD (l.length-2) dA:=by rw[bB,bB,List.getElem?_take,if_pos (by omega)]
 rw[e3]at e2;rw[e2]at e1;rw[e1.trans (F_ _ _ _)];simp
theorem ot {l:List RX} {k:Nat} (h:k<l.length):l.getD k dA∈l:=by rw[bB,aB h];exact DH h
theorem ow {t:RX} (h:t.fine):t.kind≠0:=(cI t (sD h)).2.2.1
theorem dp.ok.more {P:dp} {c:Nat} (h:P.ok c):P.ok (c+1):=
 ⟨h.fine,h.kind,by have:=h.size;omega,by have:=h.cy;rw[D_];omega,h.mq,h.zq,by have:=h.len;omega⟩
theorem dp.ok.push {P:dp} {c:Nat} (h:P.ok c) {x:RX} (hx:x.fine) (hs:x.size<=1) (hp:x.cy<=1):(⟨P.put 0 x,P.mq,P.xH⟩:dp).ok (c+1):=by
 have e:P.put 0 x=P.all++ [x]:=by unfold dp.put;rw[Nat.sub_zero,L_]
 have hf:∀ t∈P.put 0 x,t.fine:=fun t ht=>by
  rw[e]at ht;rcases A_.1 ht with ht | ht
  ·exact h.fine t ht
  ·rw[AN.1 ht];exact hx
 refine⟨hf,fun t ht=>ow (hf t ht),?_,?_,h.mq,h.zq,?_⟩
 ·show RX.sizes (P.put 0 x)<=_
  rw[e,et];have:=h.size;simp[RX.sizes];omega
 ·show RX.bF (P.put 0 x)<=(c+1)*P.mq
  rw[e,eu,D_];have:=h.cy;have:=h.mq;simp[RX.bF];omega
 ·show(P.put 0 x).length<=_
  rw[e];have:=h.len;simp;omega
theorem dp.ok.join {P:dp} {c:Nat} (h:P.ok c) {k:Nat} (hk:k=3\/k=4) (hn:1<P.all.length):(⟨P.put 2 (cr k P.gO P.last),P.mq,P.xH⟩:dp).ok (c+1):=by
 have e:=Hl hn;obtain⟨g1,g2,g3⟩:=tE hk (h.fine _ (ot (show P.all.length-2<P.all.length by omega))) (h.fine _ (ot (show P.all.length-1<P.all.length by omega)));have hf:∀ t∈P.put 2 (cr k P.gO P.last),t.fine:=fun t ht=>by
  rcases A_.1 ht with ht | ht
  ·exact h.fine t (It ht)
  ·rw[AN.1 ht];exact g1
 have hs:=h.size;have hp:=h.cy;have hl:=h.len;rw[e,et]at hs;rw[e,eu]at hp;simp only[RX.sizes,RX.bF]at hs hp;refine⟨hf,fun t ht=>ow (hf t ht),?_,?_,h.mq,h.zq,?_⟩
 ·show RX.sizes (P.all.take (P.all.length-2)++ [cr k P.gO P.last])<=_
  rw[et];simp only[RX.sizes];show _+((cr k (P.all.getD (P.all.length-2) dA) (P.all.getD (P.all.length-1) dA)).size+0)<=_;omega
 ·show RX.bF (P.all.take (P.all.length-2)++ [cr k P.gO P.last])<=(c+1)*P.mq
  rw[eu,D_];simp only[RX.bF];show _+((cr k (P.all.getD (P.all.length-2) dA) (P.all.getD (P.all.length-1) dA)).cy+0)<=_;omega
 ·show(P.all.take (P.all.length-2)++ [cr k P.gO P.last]).length<=_
  rw[aJ,DQ];simp;omega
theorem dp.ok.turn {P:dp} {c:Nat} (h:P.ok c) (hn:0<P.all.length) {x:RX} {f:Nat} (hx:x.fine) (hs:x.size<=P.last.size+1) (hp:x.cy<=P.last.cy*f) (Qb:1<=f) (agM:P.mq*f<=16) (g:Nat):(⟨P.put 1 x,P.mq*f,g⟩:dp).ok (c+1):=by
 have e:=kZ hn;have hf:∀ t∈P.put 1 x,t.fine:=fun t ht=>by
  rcases A_.1 ht with ht | ht
  ·exact h.fine t (It ht)
  ·rw[AN.1 ht];exact hx
 have hs2:=h.size;have Wi:=h.cy;have hl:=h.len;have hu:=h.mq;rw[e,et]at hs2;rw[e,eu]at Wi;simp only[RX.sizes,RX.bF]at hs2 Wi;refine⟨hf,fun t ht=>ow (hf t ht),?_,?_,Nat.mul_pos hu Qb,agM,?_⟩
 ·show RX.sizes (P.all.take (P.all.length-1)++ [x])<=_
  rw[et];simp only[RX.sizes];have:P.last.size=(P.all.getD (P.all.length-1) dA).size:=rfl;omega
 ·show RX.bF (P.all.take (P.all.length-1)++ [x])<=(c+1)*(P.mq*f)
  rw[eu];simp only[RX.bF];have e2:P.last.cy=(P.all.getD (P.all.length-1) dA).cy:=rfl;rw[e2]at hp;have h1:RX.bF (P.all.take (P.all.length-1))+(P.all.getD (P.all.length-1) dA).cy*f<=(RX.bF (P.all.take (P.all.length-1))+(P.all.getD (P.all.length-1) dA).cy)*f:=by rw[NX];exact Nat.add_le_add_right (GW _ Qb) _
  have h2:(RX.bF (P.all.take (P.all.length-1))+(P.all.getD (P.all.length-1) dA).cy)*f<=c*P.mq*f:=Nat.mul_le_mul_right _ (by omega);have h3:(c+1)*(P.mq*f)=c*P.mq*f+P.mq*f:=by rw[D_,Nat.mul_assoc]
  omega
 ·show(P.all.take (P.all.length-1)++ [x]).length<=_
  rw[aJ,DQ];simp;omega
theorem Hm {x:RX} (h:x.fine):(RX.nd 6 0 0 0 [x]).fine/\(RX.nd 6 0 0 0 [x]).size<=x.size+1/\(RX.nd 6 0 0 0 [x]).cy<=x.cy*1:=by
 refine⟨lR.2 ⟨?_,fun t ht=>by rw[AN.1 ht];exact h⟩,?_,?_⟩
 ·unfold RX.cZ
  simp[RX.kind,RX.set,RX.mn,RX.mx,RX.subs]
 ·simp[RX.size,RX.sizes];omega
 ·rw[RX.cy,if_neg (by decide),if_neg (by decide),RX.bF,RX.bF];omega
theorem Qc {x:RX} (h:x.fine) (hk:x.kind≠1) (n m:Nat):(RX.nd 5 0 (eU n) (jO n m) [x]).fine/\(RX.nd 5 0 (eU n) (jO n m) [x]).size<=x.size+1:=by
 refine⟨lR.2 ⟨?_,fun t ht=>by rw[AN.1 ht];exact h⟩,?_⟩
 ·have hh:(RX.nd 5 0 (eU n) (jO n m) [x]).has 1=false:=by
   unfold RX.has RX.subs;simpa using hk
  unfold RX.cZ;rw[if_neg (by rintro(h | h | h)<;>simp[RX.kind,RX.set,RX.mn,RX.mx]at h),hh];simp[RX.kind,RX.subs,RX.mn,RX.mx,(vL n m).1]
 ·simp[RX.size,RX.sizes];omega
theorem dp.ok.step {P:dp} {c:Nat} (h:P.ok c) (s:Nat×Nat×Nat):(P.step s).ok (c+1):=by
 unfold dp.step;split
 ·exact h.push (tC _) (by simp[nE,RX.size,RX.sizes]) (by simp[nE,RX.cy,RX.bF])
 split
 ·exact h.push tD (by decide) (by decide)
 split
 ·rename_i hc;exact h.join (.inl rfl) hc.2
 split
 ·rename_i hc;exact h.join (.inr rfl) hc.2
 split
 ·rename_i hc
  obtain⟨g1,g2,g3⟩:=Hm (h.fine _ (ot (show P.all.length-1<P.all.length by omega)));have:=h.turn hc.2.1 g1 g2 g3 (aF 1) (by rw[Is];exact h.zq) (P.xH+1);rwa[Is]at this
 split
 ·rename_i hc
  split
  ·rename_i hu
   obtain⟨r1,r2,r3⟩:=vL s.2.1 s.2.2;obtain⟨g1,g2⟩:=Qc (h.fine _ (ot (show P.all.length-1<P.all.length by omega))) hc.2.2 s.2.1 s.2.2;exact h.turn hc.2.1 g1 g2 (by rw[<-r2];exact Qa _ _ _ _) r3 hu P.xH
  ·exact h.more
 ·exact h.more
theorem vM (l:List (Nat×Nat×Nat)):(iZ l).ok l.length:=by
 have:∀ (l:List (Nat×Nat×Nat)) (P:dp) (c:Nat),P.ok c->(l.foldl dp.step P).ok (c+l.length):=by
  intro l;induction l with
  | nil=>intro P c h;exact h
  | cons s l ih=>
   intro P c h;rw[OR,By,show c+(l.length+1)=c+1+l.length by omega];exact ih _ _ (h.step s)
 have h:=this l ⟨[],1,0⟩ 0 ⟨fun t ht=>by(cases ht),fun t ht=>by(cases ht),by simp[RX.sizes],by simp[RX.bF],aF _,by decide,Nat.zero_le _⟩;rwa[Bm]at h
theorem pX:∀ (r:List RX) (x:RX),x.fine->(∀ t∈r,t.fine)->(r.foldl (cr 4) x).fine/\(r.foldl (cr 4) x).size<=x.size+RX.sizes r+r.length/\(r.foldl (cr 4) x).cy<=x.cy+RX.bF r
 | [],x,h,_=>⟨h,by simp[RX.sizes],by simp[RX.bF]⟩
 | y::r,x,h,hr=>by
  rw[OR,By,RX.sizes,RX.bF];obtain⟨g1,g2,g3⟩:=tE (.inr rfl) h (hr y (bu ..)) (k:=4);obtain⟨k1,k2,k3⟩:=pX r _ g1 fun t ht=>hr t (bM _ ht)
  exact⟨k1,by omega,by omega⟩
structure Hn (t:RX):Prop where
 fine:t.fine
 size:t.size<=60
 cy:t.cy<=400
theorem nG (l:List (Nat×Nat×Nat)):Hn (gP l):=by
 have H:=vM (l.take 25);have hl:(l.take 25).length<=25:=by rw[DQ];omega
 have h16:=H.zq;have hlen:=H.len;have hsz:=H.size;have Ta:RX.bF (iZ (l.take 25)).all<=400:=D' H.cy (D' (Nat.mul_le_mul hl h16) (by decide));have Wj:=H.fine;unfold gP;generalize (iZ (l.take 25)).all=p at*;cases p with
 | nil=>exact⟨tC 0,by decide,by decide+kernel⟩
 | cons x r=>
  rw[RX.sizes]at hsz;rw[RX.bF]at Ta;rw[By]at hlen;obtain⟨g1,g2,g3⟩:=pX r x (Wj x (bu ..)) fun t ht=>Wj t (bM _ ht)
  exact⟨g1,by show(r.foldl (cr 4) x).size<=60;omega,by show(r.foldl (cr 4) x).cy<=400;omega⟩
theorem Hn.clean {t:RX} (h:Hn t):t.clean=true:=by unfold RX.clean;rw[Bs,Ly];exact⟨decide_eq_true (by have:=h.size;omega),h.fine⟩
end
section
open Go Go.RowKit Go.Shelf Go.Maps
def fP (w:AF) (g off:Nat) (s:Nat->BitVec 64):Prop:=g<w.heap.size/\∀ i,i<7->w.cell? ⟨g,off+i,As⟩=An (AM A' (s i).toNat)
theorem fP.keeps {w w':AF} {g off:Nat} {s:Nat->BitVec 64} (h:fP w g off s) {R:Nat->Prop} (hk:ae R w w') (hR:R g):fP w' g off s:=⟨ay h.1 hk.size,fun i hi=>(hk.cell (p:=⟨g,off+i,As⟩) hR).trans (h.2 i hi)⟩
theorem fP.Qd {w:AF} {b:Nat} {s:Nat->BitVec 64} {t:C'} (h:ar w b (cA s) t):fP w b 0 s:=⟨h.lt,fun i hi=>by rw[Bm];exact(h.cell i).trans (kU s hi)⟩
theorem pE {R:Nat->Prop} {w W:AF} (h:ae R w W) (p:SO) (u:Value):ae R (w.setCell p u) (W.setCell p u):=by
 refine⟨h.os,h.tape,h.output,by simpa[RC]using h.size,fun k hk=>?_⟩;by_cases e:k=p.block
 ·have h1:=h.keep k hk
  subst e;unfold RC;simp only[Array.getElem?_modify,h1]
 ·rw[Below.heap_setCell _ _ _ _ e,Below.heap_setCell _ _ _ _ e]
  exact h.keep k hk
theorem L9 (s:Nat->BitVec 64) (b off p:Nat) (hp:p<448) (w:AF) (h:fP w b off s): ah 210 #[AI (An ⟨b,off,As⟩),AM Iv p] w fun e w'=>e=Cd (P' (sj s p))/\w'=w:=by
 obtain⟨q,hq⟩:=ag (p/64);obtain⟨r,hr⟩:=ag (p%64);have PE:q<7:=by omega
 have PF:r<64:=by omega
 have c1:w.cell? ⟨b,off+q,As⟩=An (AM A' (s q).toNat):=h.2 q PE;have e1:(p:Int).tdiv 64=(q:Int):=by rw[Int.tdiv_eq_ediv_of_nonneg (by omega)];omega
 have e2:(p:Int).tmod 64=(r:Int):=by rw[Int.tmod_eq_emod_of_nonneg (by omega)];omega
 have w1:Iv.wrap (q:Int)=q:=E_ _ (by omega);have w2:Iv.wrap (r:Int)=r:=E_ _ (by omega);have q7i:(q:Int)<7:=by omega
 have r0i:¬ ((r:Int)<0):=by omega
 have kB:sj s p=(s q).getLsbD r:=by unfold sj;rw[<-hq, <-hr]
 rw[kB];clear kB hq hr h;go_enter Tryz.func210,Tryz.ntmps210;go_wp2;go_ret;exact⟨congrArg (fun b=>Cd (P' b)) (zb (s q) r),rfl⟩
theorem zr (s:Nat->BitVec 64) (b off p:Nat) (hp:p<448) (w:AF) (h:fP w b off s) (hz:w.frozen? ⟨b,off+p/64,As⟩=D0): ah 201 #[AI (An ⟨b,off,As⟩),AM Iv p] w fun e w'=>(∃ u,e=Cd u)/\ae (· <w.heap.size) (w.setCell ⟨b,off+p/64,As⟩ (AM A' (jK s p (p/64)).toNat)) w':=by
 obtain⟨q,hq⟩:=ag (p/64);obtain⟨r,hr⟩:=ag (p%64);have PE:q<7:=by omega
 have PF:r<64:=by omega
 have hpw:jK s p (p/64)=s q ||| RE 64 r:=by unfold jK;rw[if_pos rfl, <-hq, <-hr];rfl
 rw[hpw];rw[<-hq]at hz ⊢;have c1:w.cell? ⟨b,off+q,As⟩=An (AM A' (s q).toNat):=h.2 q PE;have e1:(p:Int).tdiv 64=(q:Int):=by rw[Int.tdiv_eq_ediv_of_nonneg (by omega)];omega
 have e2:(p:Int).tmod 64=(r:Int):=by rw[Int.tmod_eq_emod_of_nonneg (by omega)];omega
 have w1:Iv.wrap (q:Int)=q:=E_ _ (by omega);have w2:Iv.wrap (r:Int)=r:=E_ _ (by omega);have q7i:(q:Int)<7:=by omega
 have r0i:¬ ((r:Int)<0):=by omega
 have q0i:¬ ((q:Int)<0):=by omega
 have kA:=Gx (s q) PF;have H:=DE h;have HZ:=DE hz;clear hq hr h hpw hz;go_enter Tryz.func201,Tryz.ntmps201;go_wp2;refine aI D0 (fun _=>False) (by kernel_rfl) 11 [0,0,2,1,15,31,0,64,192,511,1,2047,4095] (fun i=>i==12) (by kernel_rfl) (fun _=>aU.any _) ?_;intro C hC hne;have HC:=DE hC;have f1:=aD hC (p:=⟨b,off+q,As⟩) H.1 (fun h=>h) c1;clear hC c1
 repeat (refine au (fun K hK=>?_);first | (refine bL rfl ?_;try go_simp;refine hK _ _ ?_;clear hK K) | (refine bJ rfl rfl ?_;unfold az;go_simp;refine hK _ _ ?_;clear hK K))
 refine bC (fun W hW hH=>?_);have hM:=((HC W).1 hW);have HX:=DE hM.below;have c2:W.cell? ⟨b,off+q,As⟩=An (AM A' (s q).toNat):=(hM.keeps.cell (p:=⟨b,off+q,As⟩) ⟨H.1,fun h=>h⟩).trans (H.2 q PE);have z2:W.frozen? ⟨b,off+q,As⟩=false:=by
  have e:W.heap[b]? =w.heap[b]? :=hM.keeps.keep b ⟨H.1,fun h=>h⟩;have e3:=HZ.out;unfold GS at e3 ⊢;rw[e];exact e3
 clear hM hW hH HC hne f1;go_wp2;have hval:((s q).toNat ||| 2^r%18446744073709551616)=(s q ||| RE 64 r).toNat:=by rw[BitVec.toNat_or,BitVec.toNat_twoPow]
 refine Kx (v:=.tuple #[]) (by simp[results,Tryz.results201,go_sem]) rfl ⟨⟨_,rfl⟩,?_⟩;rw[hval];exact pE (ae.aj HX fun _ h=>h) _ _
def fA (w:AF) (g off:Nat) (z:Nat->BitVec 64):Nat->AF
 | 0=>w
 | i+1=>(fA w g off z i).setCell ⟨g,off+i,As⟩ (AM A' (z i).toNat)
theorem cJ (w:AF) (g off:Nat) (z:Nat->BitVec 64):∀ i,ae (· ≠g) w (fA w g off z i)
 | 0=>ae.refl _ _
 | i+1=>(cJ w g off z i).setCell (fun h=>h rfl) _
theorem nH (w:AF) (g off:Nat) (z:Nat->BitVec 64) {j:Nat} {v:Value} (h:w.cell? ⟨g,j,As⟩=An v):∀ i,(off+i<=j)->(fA w g off z i).cell? ⟨g,j,As⟩=An v
 | 0,_=>h
 | i+1,hj=>by
  have ih:=nH w g off z h i (by omega);exact(World.cell?_setCell_other _ _ _ _ (by intro e;injection e with _ e2;omega)).trans ih
theorem pF (w:AF) (g off:Nat) (z:Nat->BitVec 64) {j:Nat} (h:w.frozen? ⟨g,j,As⟩=D0):∀ i,(fA w g off z i).frozen? ⟨g,j,As⟩=D0
 | 0=>h
 | i+1=>by
  have ih:=pF w g off z h i;show((fA w g off z i).setCell _ _).frozen? _=D0;rw[World.frozen?_setCell];exact ih
theorem jP (s c:Nat->BitVec 64) (b off:Nat) (w:AF) (h:fP w b off s) (hz:∀ i,i<7->w.frozen? ⟨b,off+i,As⟩=D0): ah 205 #[AI (An ⟨b,off,As⟩),IT (cA c)] w fun e w'=>(∃ u,e=Cd u)/\ae (· <w.heap.size) (fA w b off (fun i=>s i ||| c i) 7) w':=by
 have H:=DE h;have HZ:=DE hz;have NK:=h.1;obtain⟨z,hz0⟩:=ag (fun i=>s i ||| c i:Nat->BitVec 64);rw[<-hz0];have HZ0:=DE hz0;clear h hz hz0;obtain⟨cv,hcv⟩:=ag (cA c);rw[<-hcv];have HCV:=DE hcv;clear hcv;unfold cA at HCV;rw[HCV.out];go_enter Tryz.func205,Tryz.ntmps205;go_wp2;refine aw ?_;intro V hV;have B1:Hid (ar V w.heap.size (cA c) 179):=by rw[hV];exact DE (ar.new _ _ _)
 have X1:Hid (ae (· <w.heap.size) w V):=by rw[hV];exact DE ((Ext.refl _).alloc _).keeps
 have yg:V.heap.size=w.heap.size+1:=by rw[hV];simp
 clear hV;go_loopw [5] (fun iv wr=>∃ i:Nat,i<=7/\iv=AM Iv i/\ar wr w.heap.size (cA c) 179/\ae (· <w.heap.size) (fA w b off z i) wr) (fun iv _=>7-(intOf iv).toNat);case atStart=>exact⟨0,by omega,rfl,B1,X1⟩
 case round=>
  obtain⟨i,hi,rfl,hb,hx⟩:=hrel;obtain⟨wo,rfl⟩:=ag (wr:AF);have HB:=DE hb;have HX:=DE hx;clear hb hx;by_cases hlt:i<7
  ·have ed:(i:Int)<7:=by omega
   have c1:wo.cell? ⟨b,off+i,As⟩=An (AM A' (s i).toNat):=(HX.cell (p:=⟨b,off+i,As⟩) NK).trans (nH w b off z (H.2 i hlt) i (aF _));have c2:wo.cell? ⟨w.heap.size,i,As⟩=An (AM A' (c i).toNat):=(HB.cell i).trans (kU c hlt);have z1:wo.frozen? ⟨b,off+i,As⟩=false:=by have e:wo.heap[b]? =(fA w b off z i).heap[b]? :=HX.keep b NK;have e3:=pF w b off z (HZ i hlt) i;unfold GS at e3 ⊢;rw[e];exact e3
   have hbo:b<wo.heap.size:=ay NK (D' (cJ w b off z i).size HX.size);have Z1:=DE z1;clear z1;go_upto_region 4 with fail
   refine aI D0 (fun _=>False) (by kernel_rfl) 10 [0,0,1,7,15,0,32,96,255,1,1023,2047] (fun i=>i==11) (by kernel_rfl) (fun _=>aU.any _) ?_;intro C hC hne;have HC:=DE hC;have f1:=aD hC (p:=⟨b,off+i,As⟩) hbo (fun h=>h) c1;have f2:=aD hC (p:=⟨w.heap.size,i,As⟩) HB.lt (fun h=>h) c2;clear hC c1 c2
   repeat (refine au (fun K hK=>?_);first | (refine bL rfl ?_;try go_simp;refine hK _ _ ?_;clear hK K) | (refine bJ rfl rfl ?_;unfold az;go_simp;refine hK _ _ ?_;clear hK K))
   refine bC (fun W hW hH=>?_);have hM:=((HC W).1 hW);have KX:Hid (ae (· <wo.heap.size) wo W):=DE (hM.keeps.mono fun k hk=>⟨hk,fun h=>h⟩);have z2:W.frozen? ⟨b,off+i,As⟩=false:=by
    have e:W.heap[b]? =wo.heap[b]? :=KX.keep b hbo;have e3:=Z1.out;unfold GS at e3 ⊢;rw[e];exact e3
   have c3:W.cell? ⟨b,off+i,As⟩=An (AM A' (s i).toNat):=(KX.cell (p:=⟨b,off+i,As⟩) hbo).trans ((HX.cell (p:=⟨b,off+i,As⟩) NK).trans (nH w b off z (H.2 i hlt) i (aF _)));clear hM hW hH HC hne f1 f2;go_wp2;go_roundw;case rel=>
    refine⟨i+1,by omega,by go_num,?_,?_⟩
    ·exact(HB.keeps KX HB.lt).other (by show b≠_;omega) _
    ·rw[Ag]
     have e:(s i ||| c i)=z i:=by rw[HZ0.out]
     rw[e];exact pE (HX.tr (KX.mono fun k hk=>by have h1:=HX.size;have h2:=(cJ w b off z i).size;have h3:k<w.heap.size:=hk;omega)) _ _
   case measure=>simp[intOf];omega
  ·obtain rfl:i=7:=by omega
   have ed:¬ (((7:Nat):Int)<7):=by omega
   go_wp2;refine Kx (v:=.tuple #[]) (by simp[results,Tryz.results205,go_sem]) rfl ⟨⟨_,rfl⟩,HX⟩
attribute [local go_sem] Oper.semAt_some gj dz
theorem zt (s:Nat->BitVec 64) (B b off:Nat) (w:AF) (hB:ar w B #[AI (An ⟨b,off,As⟩)] 255) (hb0:fP w b off s):Seq B_ Tryz.prog 209 #[AI (An ⟨B,0,As⟩)] (fun p:Nat=> #[AM Iv (p:Int)]) (fun k=>k=B\/k=b) (dF s 448) w:=by
 intro l J Jx W hK hJ Xw hY h0;have HY:=DE hY;have HH:=DE (L9 s b off);clear hY;have B0:=hB.keeps hK hB.lt;have B1:=hb0.keeps hK hb0.1;clear hB hb0;refine K_ (n:=0).1 ?_;refine callsIn_of_wp Tryz.func209 rfl trivial ?_ rfl;simp only[Tryz.ntmps209,FG,By,H',R_,Se,IF,IN,Lo,I',O_,DP]
 gi_wp2
 gi_loopw [4] (fun i wr=>∃ (k:Nat) (T:Nat->Prop),k<=448/\i=AM Iv k/\ar wr B #[AI (An ⟨b,off,As⟩)] 255/\fP wr b off s/\J (dF s k) T wr/\(∀ k,T k->W.heap.size<=k/\k<wr.heap.size)/\ae (fun k=>k=B\/k=b) W wr)
  (fun i _=>448-(intOf i).toNat)
 case atStart=>
  exact⟨0,fun _=>False,by omega,rfl,B0,B1,h0,fun _ h=>h.elim,ae.refl _ _⟩
 case round=>
  obtain⟨k,T,hk,rfl,hB,hb,hj,hT,hR⟩:=hrel;by_cases hlt:k<448
  ·have c0:wr.cell? ⟨B,0,As⟩=An (AI (An ⟨b,off,As⟩)):=hB.cell 0
   have Ur:=DE hB;have HB:=DE hb;have HJ:=DE hj;have HT:=DE hT;have HR:=DE hR;clear hB hb hj hT hR B0 B1;have bO:=sr s k;by_cases iC:sj s k=B_
   ·rw[if_pos iC]at bO
    have HP:=DE bO;have NH:dF s k++ [k]<+:dF s 448:=by rw[<-bO];exact tq s (by omega)
    have OS:=DE NH;have h1:ah 210 #[AI (An ⟨b,off,As⟩),AM Iv k] wr fun e w'=>e=Cd (P' B_)/\w'=wr:=by have:=HH.out k hlt wr HB;rwa[iC]at this
    have H1:=DE h1;clear bO NH h1 iC HH
    gi_wp2_with (gi_at_call 210;refine(K_.2 H1).mono ?_;rintro e w1 ⟨rfl,hw⟩;replace hw:=hw.symm;subst hw;obtain⟨fn,tm,Cv,bd,hy,De⟩:=HY.out (dF s k) k T _ OS HT HR HJ;have NI:=DE De;clear De)
    refine NI.mono ?_;rintro e W2 (⟨rfl,kN,hk2⟩ | ⟨rfl,kN,hk2⟩)
    ·have uz:=DE kN
     have pL:=DE hk2;clear kN hk2 hy
     gi_wp2
     go_roundw
     case rel=>
      refine⟨k+1,T,by omega,by go_num,?_,?_,?_,?_,?_⟩
      ·exact Ur.keeps pL (.inl (.inl rfl))
      ·exact HB.keeps pL (.inl (.inr rfl))
      ·rw[HP.out];exact uz
      ·exact fun j hj=>⟨(HT j hj).1,ay (HT j hj).2 pL.size⟩
      ·exact HR.tr (pL.mono fun j hj=>.inl hj)
     case measure=>simp[intOf];omega
    ·have uz:=DE kN
     have pL:=DE hk2;clear kN hk2 hy
     gi_wp2
     refine bodyPost_ret (Lw rfl _ _ _) rfl ?_;exact⟨⟨_,rfl⟩,T,fun j hj=>⟨(HT j hj).1,ay (HT j hj).2 pL.size⟩,.inr ⟨_,OS,uz⟩⟩
   ·have sX:sj s k=false:=by simpa using iC
    rw[if_neg iC,List.append_nil]at bO;have HP:=DE bO;have h1:ah 210 #[AI (An ⟨b,off,As⟩),AM Iv k] wr fun e w'=>e=Cd (P' D0)/\w'=wr:=by have:=HH.out k hlt wr HB;rwa[sX]at this
    have H1:=DE h1;clear bO h1 iC sX HH
    gi_wp2_with (gi_at_call 210;refine(K_.2 H1).mono ?_;rintro e w1 ⟨rfl,hw⟩;replace hw:=hw.symm;subst hw)
    go_roundw
    case rel=>
     refine⟨k+1,T,by omega,by go_num,Ur,HB,?_,HT,HR⟩;rw[HP.out];exact HJ
    case measure=>simp[intOf];omega
  ·obtain rfl:k=448:=by omega
   gi_wp2
   refine Kx (Lw rfl _ _ _) rfl ?_;exact⟨⟨_,rfl⟩,T,hT,.inl hj⟩
theorem vN (b off:Nat) (w:AF):ah 165 #[AI (An ⟨b,off,As⟩)] w fun e w'=>e=Cd (.func (.func 209) #[] #[AI (An ⟨w.heap.size,0,As⟩)])/\w'=w.alloc (.cells #[AI (An ⟨b,off,As⟩)] 255 (0,0)):=by
 go_enter Tryz.func165,Tryz.ntmps165
 go_wp2;go_ret;exact⟨rfl,rfl⟩
theorem Ho (s:Nat->BitVec 64) (b off:Nat) (w:AF) (hb:fP w b off s): ah 103 #[AI (An ⟨b,off,As⟩)] w fun e w'=>∃ v,e=Cd v/\w'.ownsRow w.heap.size 3 1 v (dF s 448).length ((dF s 448).map vG)/\aa w w':=by
 have eg:∀ args w,(callFunc 209 args).run Tryz.prog w=.ok (.enter 209 args) w:=enters_of Tryz.func209 (by kernel_rfl) rfl;have hlen:(dF s 448).length<=1000000:=D' (DU _ _) (by decide);have H:Hid (∀ (W:AF) (B:Nat),ar W B #[AI (An ⟨b,off,As⟩)] 255->fP W b off s->ah 164 #[.func (.func 209) #[] #[AI (An ⟨B,0,As⟩)]] W fun e w'=>∃ v,e=Cd v/\w'.ownsRow W.heap.size 3 1 v (dF s 448).length ((dF s 448).map vG)/\aa W w'):=
  fun W B hB hb=>qY _ W (zt s B b off W hB hb) eg (fun k hk=>hk.elim (fun e=>by rw[e];exact hB.lt) (fun e=>by rw[e];exact hb.1)) hlen
 have HB:=DE hb;clear eg hlen hb;generalize dF s 448=xs at H ⊢;go_enter Tryz.func103,Tryz.ntmps103;go_wp2_with (first | (go_at_call 165;refine(vN b off _).mono ?_;rintro e w1 ⟨rfl,rfl⟩) | (go_at_call 164;refine(H _ _ ((ar.new _ _ _).at (by simp)) (HB.keeps ((Ext.refl _).alloc _).keeps HB.1)).mono ?_;rintro e w1 ⟨v,rfl,h1,h2⟩;have H1:=DE h1;have H2:=DE h2;clear h1 h2));go_ret;refine⟨v,rfl,aC H1 (by simp),?_⟩;exact((Ext.refl w).alloc _).below.trans (H2.mono (by simp))
end
section
open Go Go.RowKit Go.Shelf Go.Maps
def bW (x:PB):Nat->BitVec 64:=fun i=>x.extractLsb' (64*i) 64
theorem vO (x y:PB) (i:Nat):bW (x ||| y) i=bW x i ||| bW y i:=by unfold bW;apply G_;intro j hj;simp[hj]
theorem Qe (x:PB) {p:Nat} :sj (bW x) p=x.getLsbD p:=by unfold sj bW;rw[B'];have h1:p%64<64:=J_ _ (by decide);rw[show 64*(p/64)+p%64=p by omega];simp[h1]
theorem Qf (x:PB) {p:Nat} (hp:p<448) (i:Nat):bW (x ||| eC p) i=jK (bW x) p i:=by
 apply G_;intro j hj;have e1:(bW (x ||| eC p) i).getLsbD j=(x ||| eC p).getLsbD (64*i+j):=by unfold bW;rw[B'];simp[hj]
 have e2:(bW x i).getLsbD j=x.getLsbD (64*i+j):=by unfold bW;rw[B'];simp[hj]
 rw[e1,FF,JT];unfold jK;by_cases hi:i=p/64
 ·rw[if_pos hi,FF,e2]
  congr 1
  rw[GO];by_cases h:64*i+j=p
  ·have kN:j=p%64:=by omega
   have h4:64*i+j<448:=by omega
   rw[decide_eq_true h4,decide_eq_true h,decide_eq_true hj,kN];simp
  ·by_cases h5:j<p%64
   ·simp[h,h5]
   ·have h6:j-p%64≠0:=by omega
    simp[h,h5,h6,hj]
 ·rw[if_neg hi,e2]
  have h:64*i+j≠p:=by omega
  simp[h]
theorem Ma (x:PB):(dF (bW x) 448).map Int.ofNat=dT x:=by unfold dF dT;congr 1;exact List.filter_congr fun p _=>Qe x
def aA (a:GP):Array Value:= #[AM A' (bW a.fst 0).toNat,AM A' (bW a.fst 1).toNat,AM A' (bW a.fst 2).toNat,AM A' (bW a.fst 3).toNat,AM A' (bW a.fst 4).toNat,AM A' (bW a.fst 5).toNat,AM A' (bW a.fst 6).toNat,
 AM A' (bW a.cL 0).toNat,AM A' (bW a.cL 1).toNat,AM A' (bW a.cL 2).toNat,AM A' (bW a.cL 3).toNat,AM A' (bW a.cL 4).toNat,AM A' (bW a.cL 5).toNat,AM A' (bW a.cL 6).toNat,P' a.emp]
theorem Mb (a:GP) {i:Nat} (hi:i<7):(aA a)[i]? =An (AM A' (bW a.fst i).toNat):=by
 match i,hi with
 | 0,_=>rfl
 | 1,_=>rfl
 | 2,_=>rfl
 | 3,_=>rfl
 | 4,_=>rfl
 | 5,_=>rfl
 | 6,_=>rfl
theorem Mc (a:GP) {i:Nat} (hi:i<7):(aA a)[7+i]? =An (AM A' (bW a.cL i).toNat):=by
 match i,hi with
 | 0,_=>rfl
 | 1,_=>rfl
 | 2,_=>rfl
 | 3,_=>rfl
 | 4,_=>rfl
 | 5,_=>rfl
 | 6,_=>rfl
theorem fP.fst {w:AF} {b:Nat} {a:GP} {t:C'} (h:ar w b (aA a) t):fP w b 0 (bW a.fst):=⟨h.lt,fun i hi=>by rw[Bm];exact(h.cell i).trans (Mb a hi)⟩
theorem fP.cL {w:AF} {b:Nat} {a:GP} {t:C'} (h:ar w b (aA a) t):fP w b 7 (bW a.cL):=⟨h.lt,fun _ hi=>(h.cell _).trans (Mc a hi)⟩
theorem Qg (v0 v1 v2 v3 v4 v5 v6 v7 v8 v9 v10 v11 v12 v13 v14 u0 u1 u2 u3 u4 u5 u6:Value) {w:AF} {b:Nat} {t:C'} (h:ar w b #[v0,v1,v2,v3,v4,v5,v6,v7,v8,v9,v10,v11,v12,v13,v14] t):ar (((((((w.setCell ⟨b,0,As⟩ u0).setCell ⟨b,1,As⟩ u1).setCell ⟨b,2,As⟩ u2).setCell ⟨b,3,As⟩ u3).setCell ⟨b,4,As⟩ u4).setCell ⟨b,5,As⟩ u5).setCell ⟨b,6,As⟩ u6) b #[u0,u1,u2,u3,u4,u5,u6,v7,v8,v9,v10,v11,v12,v13,v14] t:=by have h0:=h.qV 0 u0 (c':= #[u0,v1,v2,v3,v4,v5,v6,v7,v8,v9,v10,v11,v12,v13,v14]) rfl;have h1:=h0.qV 1 u1 (c':= #[u0,u1,v2,v3,v4,v5,v6,v7,v8,v9,v10,v11,v12,v13,v14]) rfl;have h2:=h1.qV 2 u2 (c':= #[u0,u1,u2,v3,v4,v5,v6,v7,v8,v9,v10,v11,v12,v13,v14]) rfl;have h3:=h2.qV 3 u3 (c':= #[u0,u1,u2,u3,v4,v5,v6,v7,v8,v9,v10,v11,v12,v13,v14]) rfl;have h4:=h3.qV 4 u4 (c':= #[u0,u1,u2,u3,u4,v5,v6,v7,v8,v9,v10,v11,v12,v13,v14]) rfl;have h5:=h4.qV 5 u5 (c':= #[u0,u1,u2,u3,u4,u5,v6,v7,v8,v9,v10,v11,v12,v13,v14]) rfl;have h6:=h5.qV 6 u6 (c':= #[u0,u1,u2,u3,u4,u5,u6,v7,v8,v9,v10,v11,v12,v13,v14]) rfl;exact h6
theorem Qh (v0 v1 v2 v3 v4 v5 v6 v7 v8 v9 v10 v11 v12 v13 v14 u0 u1 u2 u3 u4 u5 u6:Value) {w:AF} {b:Nat} {t:C'} (h:ar w b #[v0,v1,v2,v3,v4,v5,v6,v7,v8,v9,v10,v11,v12,v13,v14] t):ar (((((((w.setCell ⟨b,7,As⟩ u0).setCell ⟨b,8,As⟩ u1).setCell ⟨b,9,As⟩ u2).setCell ⟨b,10,As⟩ u3).setCell ⟨b,11,As⟩ u4).setCell ⟨b,12,As⟩ u5).setCell ⟨b,13,As⟩ u6) b #[v0,v1,v2,v3,v4,v5,v6,u0,u1,u2,u3,u4,u5,u6,v14] t:=by have h0:=h.qV 7 u0 (c':= #[v0,v1,v2,v3,v4,v5,v6,u0,v8,v9,v10,v11,v12,v13,v14]) rfl;have h1:=h0.qV 8 u1 (c':= #[v0,v1,v2,v3,v4,v5,v6,u0,u1,v9,v10,v11,v12,v13,v14]) rfl;have h2:=h1.qV 9 u2 (c':= #[v0,v1,v2,v3,v4,v5,v6,u0,u1,u2,v10,v11,v12,v13,v14]) rfl;have h3:=h2.qV 10 u3 (c':= #[v0,v1,v2,v3,v4,v5,v6,u0,u1,u2,u3,v11,v12,v13,v14]) rfl;have h4:=h3.qV 11 u4 (c':= #[v0,v1,v2,v3,v4,v5,v6,u0,u1,u2,u3,u4,v12,v13,v14]) rfl;have h5:=h4.qV 12 u5 (c':= #[v0,v1,v2,v3,v4,v5,v6,u0,u1,u2,u3,u4,u5,v13,v14]) rfl;have h6:=h5.qV 13 u6 (c':= #[v0,v1,v2,v3,v4,v5,v6,u0,u1,u2,u3,u4,u5,u6,v14]) rfl;exact h6
theorem pY {w:AF} {b:Nat} {a:GP} {t:C'} (h:ar w b (aA a) t) (x:PB) {z:Nat->BitVec 64} (hz:∀ i,i<7->z i=bW x i):ar (fA w b 0 z 7) b (aA ⟨x,a.cL,a.emp⟩) t:=by have e0:=hz 0 (by decide);have e1:=hz 1 (by decide);have e2:=hz 2 (by decide);have e3:=hz 3 (by decide);have e4:=hz 4 (by decide);have e5:=hz 5 (by decide);have e6:=hz 6 (by decide);unfold aA at h ⊢;dsimp only at h ⊢;rw[<-e0, <-e1, <-e2, <-e3, <-e4, <-e5, <-e6];clear e0 e1 e2 e3 e4 e5 e6 hz;exact Qg _ _ _ _ _ _ _ _ _ _ _ _ _ _ _ _ _ _ _ _ _ _ h
theorem pZ {w:AF} {b:Nat} {a:GP} {t:C'} (h:ar w b (aA a) t) (x:PB) {z:Nat->BitVec 64} (hz:∀ i,i<7->z i=bW x i):ar (fA w b 7 z 7) b (aA ⟨a.fst,x,a.emp⟩) t:=by have e0:=hz 0 (by decide);have e1:=hz 1 (by decide);have e2:=hz 2 (by decide);have e3:=hz 3 (by decide);have e4:=hz 4 (by decide);have e5:=hz 5 (by decide);have e6:=hz 6 (by decide);unfold aA at h ⊢;dsimp only at h ⊢;rw[<-e0, <-e1, <-e2, <-e3, <-e4, <-e5, <-e6];clear e0 e1 e2 e3 e4 e5 e6 hz;exact Qh _ _ _ _ _ _ _ _ _ _ _ _ _ _ _ _ _ _ _ _ _ _ h
def dW (l:List PB):List Value:=l.flatMap fun x=>(cA (bW x)).toList
theorem vP:∀ {l:List PB} {p i:Nat} {x:PB},l[p]? =An x->i<7->(dW l)[p*7+i]? =An (AM A' (bW x i).toNat)
 | y::l,0,_,x,h,hi=>by
  simp at h;subst h;unfold dW;rw[AS,bH (by simp[cA];omega),St,Bm];have:=kU (bW y) hi;simpa using this
 | y::l,p+1,i,x,h,hi=>by
  have ih:=vP (l:=l) (p:=p) (i:=i) (x:=x) (by simpa using h) hi;unfold dW at ih ⊢;rw[AS,cF (by simp[cA];omega)];rw[<-ih];congr 1;simp[cA];omega
theorem A8 (a b:List PB):dW (a++b)=dW a++dW b:=by unfold dW;rw[I_]
attribute [local go_sem] Oper.semAt_some gj dz
structure fE (base M:Nat) (F:Nat->Prop) (w:AF) (m:GM):Prop where
 fm:F M
 lt:∀ x,F x->base<=x/\x<w.heap.size
 row:∃ sv fv,ar w M #[sv,fv] 177/\w.ownsRow base 56 4 sv m.aO.length (aL m.aO)/\(∀ x,sv.ownBlock=An x->F x)/\w.ownsRow base 179 7 fv m.cB.length (dW m.cB)/\(∀ x,fv.ownBlock=An x->F x)
theorem fE.keeps {base M:Nat} {F R:Nat->Prop} {w w':AF} {m:GM} (h:fE base M F w m) (hk:ae R w w') (hR:∀ x,F x->R x):fE base M F w' m:=by obtain⟨sv,fv,h1,h2,h3,h4,h5⟩:=h.row;exact⟨h.fm,fun x hx=>⟨(h.lt x hx).1,ay (h.lt x hx).2 hk.size⟩,sv,fv,h1.keeps hk (hR M h.fm),ak h2 hk fun x e=>hR x (h3 x e),h3,ak h4 hk fun x e=>hR x (h5 x e),h5⟩
theorem zu:∀ {l:List PB} {p:Nat} (y:PB),p<l.length->((((((((dW l).set (p*7) (AM A' (bW y 0).toNat)).set (p*7+1) (AM A' (bW y 1).toNat)).set (p*7+2) (AM A' (bW y 2).toNat)).set (p*7+3) (AM A' (bW y 3).toNat)).set (p*7+4) (AM A' (bW y 4).toNat)).set (p*7+5) (AM A' (bW y 5).toNat)).set (p*7+6) (AM A' (bW y 6).toNat))=dW (l.set p y)
 | x::l,0,y,_=>by
  unfold dW;rw[List.set_cons_zero,AS,AS];simp[cA]
 | x::l,p+1,y,hp=>by
  have ih:=zu (l:=l) (p:=p) y (by simpa using hp);have e:∀ (l:List PB),dW (x::l)=(cA (bW x)).toList++dW l:=fun l=>by unfold dW;rw[AS]
  rw[List.set_cons_succ,e,e, <-ih];have h7:(cA (bW x)).toList.length=7:=by simp[cA]
  have hs:∀ (ys:List Value) (j:Nat) (v:Value),((cA (bW x)).toList++ys).set (7+j) v=(cA (bW x)).toList++ys.set j v:=fun ys j v=>by
   rw[List.set_append_right _ _ (by omega),h7,Nat.add_sub_cancel_left]
  rw[show(p+1)*7=7+p*7 by omega,hs,show 7+p*7+1=7+(p*7+1) by omega,hs,show 7+p*7+2=7+(p*7+2) by omega,hs,show 7+p*7+3=7+(p*7+3) by omega,hs,show 7+p*7+4=7+(p*7+4) by omega,hs,show 7+p*7+5=7+(p*7+5) by omega,hs,show 7+p*7+6=7+(p*7+6) by omega,hs]
theorem fE.or {base M:Nat} {F:Nat->Prop} {w:AF} {m:GM} (h:fE base M F w m) {sv:Value} {g n cap:Nat} (hg:ar w M #[sv,AT (An ⟨g,0,As⟩) n cap] 177) {p:Nat} (hp:p<m.cB.length) (y:PB) {z:Nat->BitVec 64} (hz:∀ i,i<7->z i=bW y i):fE base M F (fA w g (p*7) z 7) ⟨m.aO,m.cB.set p y⟩:=by
 obtain⟨YC,fv,h1,h2,h3,h4,h5⟩:=h.row;have e: #[YC,fv]= #[sv,AT (An ⟨g,0,As⟩) n cap]:=by
  unfold ar at h1 hg;rw[h1]at hg;injection hg with h6
  injection h6
 have e2:fv=AT (An ⟨g,0,As⟩) n cap:=by have:=congrArg (fun a:Array Value=>a[1]?) e;simpa using this
 subst e2;have hk:=cJ w g (p*7) z 7;have hgM:g≠M:=fun e3=>by
  rcases h4.2 with⟨e4,_⟩ | ⟨g',c',cur,e4,_,h6,_⟩
  ·cases e4
  ·cases e4
   rw[e3]at h6;unfold ar at h1;rw[h1]at h6;injection h6 with h7
   injection h7 with _ h8
   exact absurd h8 (by decide)
 have hn:n=m.cB.length:=by obtain⟨_,_,e4⟩:=ownsRow_form h4;injection e4
 have hgs:∀ x,YC.ownBlock=An x->x≠g:=fun x e3 e4=>by
  rcases ownBlock_ne (by decide) h2 h4 with h6 | h6
  ·rw[h6]at e3;cases e3
  ·exact h6 (by rw[e3,e4];rfl)
 refine⟨h.fm,fun x hx=>⟨(h.lt x hx).1,ay (h.lt x hx).2 hk.size⟩,YC,_,h1.keeps hk (fun e3=>hgM e3.symm),ak h2 hk hgs,h3,?_,h5⟩;subst hn;rw[List.length_set, <-zu y hp];have h7:=((((((((((((((h4.stored (p*7+0) (AM A' (z 0).toNat)).1).stored (p*7+1) (AM A' (z 1).toNat)).1).stored (p*7+2) (AM A' (z 2).toNat)).1).stored (p*7+3) (AM A' (z 3).toNat)).1).stored (p*7+4) (AM A' (z 4).toNat)).1).stored (p*7+5) (AM A' (z 5).toNat)).1).stored (p*7+6) (AM A' (z 6).toNat)).1);rw[<-hz 0 (by decide), <-hz 1 (by decide), <-hz 2 (by decide), <-hz 3 (by decide), <-hz 4 (by decide), <-hz 5 (by decide), <-hz 6 (by decide)];exact h7
def lj (m:GM) (pre:List Nat) (first:PB):GM:=⟨m.aO,m.cB.mapIdx fun p f=>if pre.contains p then f ||| first else f⟩
theorem Md (m:GM) (first:PB):lj m [] first=m:=by
 unfold lj;have:m.cB.mapIdx (fun p f=>if([]:List Nat).contains p then f ||| first else f)=m.cB:=by
  apply MY
  ·simp
  ·intro i h1 h2;simp
 rw[this]
theorem zv (m:GM) (pre:List Nat) (first:PB):(lj m pre first).cB.length=m.cB.length:=by unfold lj;simp
theorem Hp (m:GM) (pre:List Nat) (first:PB) {p:Nat} {x:PB} (hx:m.cB[p]? =An x):(⟨(lj m pre first).aO,(lj m pre first).cB.set p (x ||| first)⟩:GM)=lj m (pre++ [p]) first:=by
 unfold lj;congr 1;apply List.ext_getElem?;intro j;rw[List.getElem?_set,DS,DS];by_cases e:p=j
 ·subst e
  rw[if_pos rfl,hx];have hl:=(Ft.1 hx).1;simp[hl]
 ·rw[if_neg e]
  cases m.cB[j]? with
  | none=>rfl
  | some f=>
   have:(pre++ [p]).contains j=pre.contains j:=by rw[O'];simp;intro e2;exact absurd e2.symm e
   simp only[P_,this]
theorem Me (m:GM) (last first:PB) (hl:m.cB.length<=448):lj m (dF (bW last) 448) first=iD m last first:=by
 unfold lj iD;congr 1;apply MY
 ·simp
 ·intro i h1 h2
  simp only[List.getElem_mapIdx];have hi:i<448:=by simp at h1;omega
  have:(dF (bW last) 448).contains i=last.getLsbD i:=by rw[O',If];unfold dF;rw[H_,Qe,List.mem_range];simp[hi]
  rw[this]
theorem lp (base M:Nat) (F:Nat→Prop) (m:GM) (last first:PB) (w:AF) (h:fE base M F w m) (hl:dy last m.cB.length) (hn:m.cB.length≤448): ah 234 #[AI (An ⟨M,0,As⟩),IT (cA (bW last)),IT (cA (bW first))] w fun e w'=>(∃ u,e=Cd u)∧fE base M F w' (iD m last first)∧ae (fun x=>x<w.heap.size∧¬F x) w w':=by
  have H:=DE h;have HL:=DE hl;have Wk:M<w.heap.size:=(h.lt M h.fm).2;rw[←Me m last first hn];clear h hl;refine cd Tryz.func234 rfl ?_;simp only[Tryz.ntmps234,FG,By,H',R_,Se,IF,IN,Lo,I',O_,DP];go_wp2_with (go_at_call 165;refine(vN _ 0 _).mono ?_;rintro e w1 ⟨rfl,rfl⟩);refine aw ?_;intro W0 hW0;have B0:ar W0 w.heap.size #[AI (An ⟨M,0,As⟩)] 174:=by rw[hW0];exact(((ar.new _ _ _).alloc _).alloc _).alloc _
  have B1:ar W0 (w.heap.size+1) (cA (bW last)) 179:=by rw[hW0];exact(((ar.new _ _ _).at (by simp)).alloc _).alloc _
  have B2:ar W0 (w.heap.size+1+1) (cA (bW first)) 179:=by rw[hW0];exact((ar.new _ _ _).at (by simp)).alloc _
  have B3:ar W0 (w.heap.size+1+1+1) #[AI (An ⟨w.heap.size+1,0,As⟩)] 255:=by rw[hW0];exact(ar.new _ _ _).at (by simp)
  have hx:Ext w W0:=by rw[hW0];exact((((Ext.refl w).alloc _).alloc _).alloc _).alloc _
  have hsz:W0.heap.size=w.heap.size+1+1+1+1:=by rw[hW0];simp
  clear hW0;have hF:∀ x,F x→x<w.heap.size:=fun x hx=>(H.lt x hx).2
  have HND:Hid (∀ (pre:List Nat) (x:Nat),pre++ [x]<+:dF (bW last) 448→pre.contains x=D0∧x<m.cB.length):=DE fun pre x hp=>by
    have VI:(dF (bW last) 448).Nodup:=List.nodup_range.filter _;have h2:=VI.sublist hp.sublist;refine⟨?_,?_⟩
    · rw[Bool.eq_false_iff]
      intro e;rw[If]at e;exact(List.nodup_append.1 h2).2.2 x e x (by simp) rfl
    · have hm:x∈dF (bW last) 448:=hp.subset (by simp)
      unfold dF at hm;have:=(H_.1 hm).2;rw[Qe]at this;exact HL x this
  have HF:=DE hF;have HMi:=DE (H.keeps hx.keeps hF);have rS:ae (fun x=>x<w.heap.size∧¬F x) w W0:=hx.mono fun x hx=>hx.1
  have eg:∀ args w,(callFunc 209 args).run Tryz.prog w=.ok (.enter 209 args) w:=enters_of Tryz.func209 (by kernel_rfl) rfl
  refine ic (w:=W0) (d:=B_) (zt (bW last) (w.heap.size+1+1+1) (w.heap.size+1) 0 W0 B3 (fP.Qd B1)) (by rfl) eg (by intro _;rfl) (by intro k hk;rcases hk with hk | hk<;>omega)
    (fun pre _ W=>fE base M F W (lj m pre first)∧ar W w.heap.size #[AI (An ⟨M,0,As⟩)] 174∧ar W (w.heap.size+1+1) (cA (bW first)) 179∧ae (fun x=>x<w.heap.size∧¬F x) w W)
    (fun _ _ _ _=>False)
    (fun ys T T' W W' ⟨h1,h2,h3,h4⟩ hT OT hs hn hk=>⟨h1.keeps hk.1 fun x hx=>⟨(h1.lt x hx).2,fun e=>by have:=(hT x e).1;have:=HF.out x hx;omega⟩,h2.mJ hT hk (by omega),h3.mJ hT hk (by omega),h4.tr (hk.1.mono fun x hx=>⟨by have:=h4.size;have:=hx.1;omega,fun e=>by have:=(hT x e).1;have:=hx.1;omega⟩)⟩)
    (fun c ys T T' W W' h=>h.elim)
    ⟨by rw[Md];exact HMi,B0,B2,rS⟩
    (fun x=>⟨#[AI (An ⟨M,0,As⟩),IT (cA (bW last)),IT (cA (bW first)),AI (An ⟨w.heap.size,0,As⟩),AI (An ⟨w.heap.size+1,0,As⟩),AI (An ⟨w.heap.size+1+1,0,As⟩),AM Iv (x:Int),.func (.func 209) #[] #[AI (An ⟨w.heap.size+1+1+1,0,As⟩)],AM Iv (x:Int),M_,M_,M_,M_,M_,M_,M_,M_],[]⟩) ?assign ?body ?done ?stop
  case assign=>
    intro l x W K hK
    gi_wp2
    exact hK
  case body=>
    rintro lr pre x T W bO hT hR xO hl ⟨i1,i2,i3,i4⟩;obtain⟨hnc,yR⟩:=HND.out pre x bO;obtain⟨f,hf⟩:∃ f,m.cB[x]? =An f:=⟨_,aB yR⟩;have uZ:(lj m pre first).cB[x]? =An f:=by show(m.cB.mapIdx _)[x]? =_;rw[DS,hf];simp only[P_];rw[hnc];rfl
    obtain⟨sv,fv,r1,r2,r3,r4,r5⟩:=i1.row;have Yf:(lj m pre first).cB.length=m.cB.length:=zv _ _ _;rw[Yf]at r4
    obtain⟨g,cap,rfl⟩:∃ g cap,fv=AT (An ⟨g,0,As⟩) m.cB.length cap:=by
      rcases r4.2 with⟨_,e2⟩ | ⟨g,cap,cur,e2,_⟩
      · exfalso;omega
      · exact⟨g,cap,e2⟩
    have hFg:F g:=r5 g rfl;have hgw:g<w.heap.size:=HF.out g hFg;have hFM:F M:=i1.fm
    have hgM:M≠g:=fun e=>by
      subst e;rcases r4.2 with⟨e4,_⟩ | ⟨g',c',cur,e4,_,h6,_⟩
      · cases e4
      · cases e4
        unfold ar at r1;rw[r1]at h6;injection h6 with h7
        injection h7 with _ h8
        exact absurd h8 (by decide)
    have hwd:fP W g (x*7) (bW f):=⟨(i1.lt g hFg).2,fun i hi=>by
      have:=r4.cells (g:=g) rfl _ _ (vP uZ hi);rw[Addr.add_mid]at this
      simpa using this⟩
    have hfz:∀ i,i<7→W.frozen? ⟨g,x*7+i,As⟩=false:=fun i _=>r4.frozenAt _
    have nI:w.heap.size+1+1+1+1≤W.heap.size:=by have:=hR.size;omega
    have q0:W.cell? ⟨w.heap.size,0,As⟩=An (AI (An ⟨M,0,As⟩)):=i2.cell 0;have q1:W.cell? ⟨M,1,As⟩=An (AT (An ⟨g,0,As⟩) m.cB.length cap):=r1.cell 1;have hxi:(x:Int)<m.cB.length:=by omega
    have I1:=DE i1;have I2:=DE i2;have I3:=DE i3;have I4:=DE i4;have R1:=DE r1;have HWD:=DE hwd;have HFZ:=DE hfz;have HT:=DE hT;have ank:=DE uZ;have HFX:=DE hf;have hb3:=i3;obtain⟨nf,Cs⟩:=ag m.cB.length;rw[←Cs]at q1 hxi R1;have JS:=DE Cs;clear i1 i2 i3 i4 r1 r2 r3 r4 r5 hwd hfz hT hR xO hl bO uZ hf Yf Cs B0 B1 B2 B3 rS
    gi_upto_region 3 with fail
    refine rQ (fun _=>trivial) rfl (fun k=>k<W.heap.size∧k≠g) (by kernel_rfl) (fun i=>i==7) (by kernel_rfl) ?_;intro C hC hne W2 hK2 hblk agR hx2;have HC:=DE hC;have f0:=dh hC (p:=⟨w.heap.size,0,As⟩) ⟨I2.lt,by show w.heap.size≠g;omega⟩ q0;have f1:=dh hC (p:=⟨M,1,As⟩) ⟨R1.lt,hgM⟩ q1;have hb2:w.heap.size+1+1<W.heap.size:=I3.lt;have g0:=dh hC (p:=⟨w.heap.size+1+1,0,As⟩) ⟨hb2,by show w.heap.size+1+1≠g;omega⟩ (I3.cell 0);have g1:=dh hC (p:=⟨w.heap.size+1+1,1,As⟩) ⟨hb2,by show w.heap.size+1+1≠g;omega⟩ (I3.cell 1);have g2:=dh hC (p:=⟨w.heap.size+1+1,2,As⟩) ⟨hb2,by show w.heap.size+1+1≠g;omega⟩ (I3.cell 2);have g3:=dh hC (p:=⟨w.heap.size+1+1,3,As⟩) ⟨hb2,by show w.heap.size+1+1≠g;omega⟩ (I3.cell 3);have g4:=dh hC (p:=⟨w.heap.size+1+1,4,As⟩) ⟨hb2,by show w.heap.size+1+1≠g;omega⟩ (I3.cell 4);have g5:=dh hC (p:=⟨w.heap.size+1+1,5,As⟩) ⟨hb2,by show w.heap.size+1+1≠g;omega⟩ (I3.cell 5);have g6:=dh hC (p:=⟨w.heap.size+1+1,6,As⟩) ⟨hb2,by show w.heap.size+1+1≠g;omega⟩ (I3.cell 6);simp only[cA,List.getElem?_toArray,List.getElem?_cons_zero,List.getElem?_cons_succ]at g0 g1 g2 g3 g4 g5 g6;have pL:=DE hK2;have HBL:=DE hblk;have gh:=DE hx2;clear hC hK2 hblk hx2;refine ee.out ?_
    repeat (refine eX (fun K hK=>?_);first | (refine lexN rfl ?_;try go_simp;refine hK _ _ ?_;clear hK K) | (refine TH rfl rfl ?_;unfold az;go_simp;refine hK _ _ ?_;clear hK K))
    refine eX (fun K hK=>?_);refine Ol rfl rfl ?_;go_simp;have agS:fP W2 g (x*7) (bW f):=HWD.keeps gh.keeps HWD.1
    have agT:∀ i,i<7→W2.frozen? ⟨g,x*7+i,As⟩=false:=fun i hi=>by
      have e3:=HFZ.out i hi;unfold GS at e3 ⊢;rw[HBL.out g];exact e3
    refine Cz ((jP (bW f) (bW first) g (x*7) W2 agS agT).mono ?_);rintro e w2 ⟨⟨u,rfl⟩,hx⟩;have YD:=gh.size;have k1:ae (· ≠g) W2 (fA W2 g (x*7) (fun i=>bW f i ||| bW first i) 7):=cJ _ _ _ _ _;have k2:ae (fun k=>k<W.heap.size∧k≠g) W w2:=(gh.mono fun k hk=>hk.1:ae (fun k=>k<W.heap.size∧k≠g) W W2).tr ((k1.mono fun k hk=>hk.2).tr (hx.mono fun k hk=>by have:=hk.1;omega));refine⟨_,rfl,(HC _).2 k2,hK _ _ ?_⟩;clear hK K;refine CU ?_;refine⟨k2.mono fun k hk=>?_,?_,?_,?_,?_⟩
    · rcases hk with(hk | hk) | hk
      · exact⟨by omega,by omega⟩
      · exact⟨by omega,by omega⟩
      · have h9:=HT.out k hk
        exact⟨h9.2,by omega⟩
    · have h9:=(I1.keeps gh.keeps fun x hx=>(I1.lt x hx).2)
      have h8:=h9.or (R1.keeps gh.keeps R1.lt) (p:=x) (by rw[zv];exact yR) (f ||| first) (z:=fun i=>bW f i ||| bW first i) fun i _=>(vO f first i).symm
      rw[Hp m pre first HFX.out]at h8;exact h8.keeps hx fun y hy=>by have:=(h9.lt y hy).2;omega
    · exact I2.keeps k2 ⟨I2.lt,by omega⟩
    · exact I3.keeps k2 ⟨I3.lt,by omega⟩
    · exact I4.tr (k2.mono fun k hk=>⟨by have:=hk.1;omega,fun e=>hk.2 (by rw[e];exact hFg)⟩)
  case done=>
    rintro D T W hD xR hT ⟨i1,i2,i3,i4⟩ mB;have I1:=DE i1;have I4:=DE i4;have HD:=DE hD;have xF:=DE mB;clear i1 i2 i3 i4 xR hT mB hD B0 B1 B2 B3 rS;dsimp only;go_wp2;have hDw:=HD.out;refine tW rfl xF (Lw rfl _ _ _) ⟨⟨_,rfl⟩,?_,?_⟩
    · exact I1.keeps ((ae.refl (fun x=>x≠D) _).putObj (fun h=>h rfl) _) fun x hx e=>by have:=HF.out x hx;omega
    · exact I4.putObj (fun h=>by have:=h.1;omega) _
  case stop=>rintro D c pre T W _ _ _ _ h _;exact h.elim
end
end Go.Proofs.YtjgccapbphadjaaGreatDoor
