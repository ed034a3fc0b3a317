/- The maker of automata of positions: loop. -/
import Derived.Test.YtpcmhjbehdgdbaaGreatDoorOI06
set_option maxRecDepth 100000
set_option maxHeartbeats 16000000
open Go.Lib (hid)
namespace Go.Proofs.YtpcmhjbehdgdbaaGreatDoor
section
open Go Go.RowKit Go.Shelf Go.Maps
def La (Q:World->Value->NF->Prop) (w:World) (x:PT) (f:Nat->Option Value):Prop:=
 ∃ v0 v1 v2 v3,Q w (.agg #[v0,v1,v2,v3,.bool x.nf.emp]) x.nf/\f 0=some v0/\f 1=some v1/\f 2=some v2/\f 3=some v3/\f 4=some (.bool x.nf.emp)/\f 5=some (.bool x.OP)/\f 6=some (.int .i64 x.mark)
theorem La.mono {Q R:World->Value->NF->Prop} {w w':World} {x:PT} {f g:Nat->Option Value} (h:La Q w x f) (hq:∀ v,Q w v x.nf->R w' v x.nf) (hf:∀ j,j<7->∀ u,f j=some u->g j=some u):La R w' x g:=by obtain⟨v0,v1,v2,v3,h0,h1,h2,h3,h4,h5,h6,h7⟩:=h;exact⟨v0,v1,v2,v3,hq _ h0,hf 0 (by decide) _ h1,hf 1 (by decide) _ h2,hf 2 (by decide) _ h3,hf 3 (by decide) _ h4,hf 4 (by decide) _ h5,hf 5 (by decide) _ h6,hf 6 (by decide) _ h7⟩
theorem sf {w:World} {base size n:Nat} {v:Value} {e:TypeId} {xs:List Value} (h:w.ownsRow base e size v n xs) (hn:0<n):∃ g cap,v=.slice (some ⟨g,0,none⟩) n cap/\g<w.heap.size/\∀ j u,xs[j]? =some u->w.cell? ⟨g,j,none⟩=some u:=by
 rcases h.2 with⟨_,h2⟩ | ⟨g,cap,cur,hv,_,hg,hc,_,hs,ht⟩
 ·omega
 ·refine⟨g,cap,hv,(Array.getElem?_eq_some_iff.1 hg).1,fun j u hu=>?_⟩
  have hc:w.cell? ⟨g,j,none⟩=cur[j]? :=by simp[World.cell?,hg]
  rw[hc];rw[<-ht,List.getElem?_take]at hu;split at hu
  ·simpa using hu
  ·cases hu
theorem DR {w:World} {base:Nat} {v:Value} {ps:List PT} {e:TypeId} {cs:List Value} (h:w.ownsRow base e 7 v ps.length cs) (hp:∀ (i:Nat) (x:PT),ps[i]? =some x->La iZ w x fun j=>cs[i*7+j]?):jG w v ps:=by
 rcases Nat.eq_zero_or_pos ps.length with h0 | h0
 ·rcases h.2 with⟨h1,_⟩ | ⟨g,cap,cur,hv,_,hg,hc,_,hs,ht⟩
  ·exact .inl ⟨h1,List.eq_nil_of_length_eq_zero h0⟩
  ·exact .inr ⟨g,0,cap,hv,(Array.getElem?_eq_some_iff.1 hg).1,fun i x hx=>by
    have:=(List.getElem?_eq_some_iff.1 hx).1;omega⟩
 ·obtain⟨g,cap,hv,hb,hc⟩:=sf h h0
  refine .inr ⟨g,0,cap,hv,hb,fun i x hx=>?_⟩;obtain⟨v0,v1,v2,v3,h0,h1,h2,h3,h4,h5,h6,h7⟩:=hp i x hx;simp only[Nat.zero_add];exact⟨v0,v1,v2,v3,h0,hc _ _ h1,hc _ _ h2,hc _ _ h3,hc _ _ h4,hc _ _ h5,hc _ _ h6,hc _ _ h7⟩
theorem fM.below {base:Nat} {w w':World} {v:Value} {a:NF} (h:fM base w v a) (hk:aa w w'):fM base w' v a:=by obtain⟨v0,v1,v2,v3,e,h0,h1,h2,h3⟩:=h;exact⟨v0,v1,v2,v3,e,ay h0 hk,h1.below hk,ay h2 hk,ay h3 hk⟩
theorem fM.base {base base':Nat} {w:World} {v:Value} {a:NF} (h:fM base w v a) (hb:base'<=base):fM base' w v a:=by obtain⟨v0,v1,v2,v3,e,h0,h1,h2,h3⟩:=h;exact⟨v0,v1,v2,v3,e,aG h0 hb,h1.base hb,aG h2 hb,aG h3 hb⟩
end
section
open Go Go.ChangeShapes Go.WideShapes Go.ChangeAt Go.RowKit Go.Deep
section
variable {H:Type} {enc:TypeId×Value→H} {W:World}
theorem GQ {b j:Nat} {u:Value} (h:W.cell? ⟨b,j,none⟩=some u):b<W.heap.size:=by
 unfold World.cell? at h;cases hh:W.heap[b]? with
 | none=>rw[hh]at h;cases h
 | some o=>exact(Array.getElem?_eq_some_iff.1 hh).1
theorem nr (b o i:Nat):(⟨b,o,none⟩:Addr).add i=⟨b,o+i,none⟩:=by
 unfold Addr.add;split
 ·rename_i h;subst h;rfl
 ·rfl
end
end
section
open Go Go.RowKit
inductive RX where
 | nd (kind:Nat) (set:BS) (mn mx:Int) (subs:List RX)
def RX.kind:RX->Nat | .nd k _ _ _ _=>k
def RX.set:RX->BS | .nd _ s _ _ _=>s
def RX.mn:RX->Int | .nd _ _ a _ _=>a
def RX.mx:RX->Int | .nd _ _ _ b _=>b
def RX.subs:RX->List RX | .nd _ _ _ _ l=>l
theorem RX.ind {P:RX->Prop} (h:∀ k s a b l,(∀ t∈l,P t)->P (.nd k s a b l)):∀ t,P t:=by
 intro t;induction t using RX.rec (motive_2:=fun l=>∀ t∈l,P t)with
 | nd k s a b l ih=>exact h k s a b l ih
 | nil=>
  rename_i x hx;cases hx
 | cons t l h1 h2=>
  rename_i x hx;rcases List.mem_cons.1 hx with e | e
  ·rw[e];exact h1
  ·exact h2 _ e
mutual
def RX.size:RX->Nat
 | .nd _ _ _ _ l=>1+RX.sizes l
def RX.sizes:List RX->Nat
 | []=>0
 | t::l=>t.size+RX.sizes l
end
mutual
def RX.pre:RX->List RX
 | .nd k s a b l=>.nd k s a b l::RX.ja l
def RX.ja:List RX->List RX
 | []=>[]
 | t::l=>t.pre++RX.ja l
end
def RX.times (mn mx:Int):Nat:=if mx= -1 then max mn.toNat 1 else max mn.toNat mx.toNat
mutual
def RX.bZ:RX->Nat
 | .nd k _ a b l=>min (((if k=2 then 1 else 0)+RX.bE l)*(if k=5 then min (RX.times a b) 10001 else 1)) 10001
def RX.bE:List RX->Nat
 | []=>0
 | t::l=>t.bZ+RX.bE l
end
def RX.has (t:RX) (k:Nat):Bool:=t.subs.any fun x=>x.kind==k
def iA (a b:Int):Bool:=if a<0\/16<a\/(a=1/\b=1)then false else decide (b= -1) || (decide (1<=b)&&decide (b<=16)&&decide (a<=b))
def RX.cX (t:RX):Bool:=
 if(t.kind≠2/\t.set≠0)\/(t.kind≠5/\(t.mn≠0\/t.mx≠0))\/(t.kind<3/\0<t.subs.length)then false else
 if t.kind=1 then true else
 if t.kind=2 then decide (t.set≠0)else
 if t.kind=3 then decide (1<t.subs.length)&& !t.has 1&& !t.has 3 else
 if t.kind=4 then decide (1<t.subs.length)&& !t.has 4 else
 if t.kind=5 then decide (t.subs.length=1)&&iA t.mn t.mx&& !t.has 1 else
 decide (t.kind=6)&&decide (t.subs.length=1)
def RX.clean (t:RX):Bool:=decide (t.size<=10000)&&t.pre.all RX.cX
abbrev PB:=BitVec 448
structure GP where
 fst:PB
 cS:PB
 emp:Bool
structure GM where
 aL:List BS
 cG:List PB
def iD (m:GM) (last first:PB):GM:=⟨m.aL,m.cG.mapIdx fun p f=>if last.getLsbD p then f ||| first else f⟩
def cK (m:GM) (a b:GP):GM×GP:=(iD m a.cS b.fst,⟨if a.emp then a.fst ||| b.fst else a.fst,if b.emp then b.cS ||| a.cS else b.cS,a.emp&&b.emp⟩)
def eQ (n:Nat):PB:=1#448 <<< n
def fp (mn mx:Int):Nat:=if mx= -1 then(max mn 1).toNat else mx.toNat
def Ay (mn mx:Int) (k:Nat) (a:GP) (x:GM×GP):GM×GP:=
 cK (if mx= -1/\k+1=fp mn mx then iD x.1 x.2.cS x.2.fst else x.1) a ⟨x.2.fst,x.2.cS,x.2.emp || decide (mn<=k)⟩
def ee (mn mx:Int) (f:GM->GM×GP) (m:GM):Nat->GM×GP
 | 0=>(m,⟨0,0,true⟩)
 | k+1=>let y:=ee mn mx f m k;Ay mn mx k y.2 (f y.1)
mutual
def RX.dB:RX->GM->GM×GP
 | .nd k s a b l,m=>
  if k=0 then(m,⟨0,0,false⟩)else
  if k=1 then(m,⟨0,0,true⟩)else
  if k=2 then(⟨m.aL++ [s],m.cG++ [0]⟩,⟨eQ m.aL.length,eQ m.aL.length,false⟩)else
  if k=3 then RX.iK l (m,⟨0,0,true⟩)else
  if k=4 then RX.fU l (m,⟨0,0,false⟩)else
  if k=5 then RX.rpG a b l m else RX.hdG l m
def RX.iK:List RX->GM×GP->GM×GP
 | [],st=>st
 | t::l,st=>let x:=t.dB st.1;RX.iK l (cK x.1 st.2 x.2)
def RX.fU:List RX->GM×GP->GM×GP
 | [],st=>st
 | t::l,st=>let x:=t.dB st.1;RX.fU l (x.1,⟨st.2.fst ||| x.2.fst,st.2.cS ||| x.2.cS,st.2.emp || x.2.emp⟩)
def RX.rpG (mn mx:Int):List RX->GM->GM×GP
 | [],m=>(m,⟨0,0,true⟩)
 | t::_,m=>ee mn mx (fun m=>t.dB m) m (fp mn mx)
def RX.hdG:List RX->GM->GM×GP
 | [],m=>(m,⟨0,0,false⟩)
 | t::_,m=>t.dB m
end
def eh (x:PB):List Int:=((List.range 448).filter fun p=>x.getLsbD p).map Int.ofNat
def dC (x:PB) (n:Nat):Prop:=∀ p,x.getLsbD p=true->p<n
theorem dC.zero (n:Nat):dC 0 n:=fun p h=>by simp at h
theorem dC.mono {x:PB} {n n':Nat} (h:dC x n) (hn:n<=n'):dC x n':=fun p hp=>aw (h p hp) hn
theorem dC.or {x y:PB} {n:Nat} (h:dC x n) (h':dC y n):dC (x ||| y) n:=fun p hp=>by
 rw[BitVec.getLsbD_or]at hp;rcases Bool.or_eq_true_iff.1 hp with hp | hp
 ·exact h p hp
 ·exact h' p hp
theorem Jf (n p:Nat):(eQ n).getLsbD p=(decide (p<448)&&decide (p=n)):=by
 unfold eQ;rw[BitVec.getLsbD_shiftLeft,BitVec.getLsbD_one];by_cases h1:p<448
 ·by_cases h2:p=n
  ·subst h2;simp[h1]
  ·by_cases h3:p<n
   ·simp[h1,h2,h3]
   ·have h4:p-n≠0:=by omega
    simp[h1,h2,h3,h4]
 ·simp[h1]
theorem dC.bit (n:Nat):dC (eQ n) (n+1):=fun p hp=>by
 rw[Jf]at hp;simp at hp;omega
structure GM.ok (m:GM):Prop where
 len:m.cG.length=m.aL.length
 cG:∀ f∈m.cG,dC f m.aL.length
 ne:∀ s∈m.aL,s≠0
structure GP.ok (a:GP) (n:Nat):Prop where
 fst:dC a.fst n
 cS:dC a.cS n
theorem GP.ok.mono {a:GP} {n n':Nat} (h:a.ok n) (hn:n<=n'):a.ok n':=⟨h.fst.mono hn,h.cS.mono hn⟩
theorem DT {m:GM} (h:m.ok) {last first:PB} (hf:dC first m.aL.length):(iD m last first).ok:=by
 refine⟨?_,fun f hf'=>?_,h.ne⟩
 ·show(m.cG.mapIdx _).length=_
  rw[List.length_mapIdx];exact h.len
 ·obtain⟨i,hi,rfl⟩:=List.mem_mapIdx.1 hf'
  have h1:=h.cG _ (List.getElem_mem hi);show dC (if last.getLsbD i=true then m.cG[i] ||| first else m.cG[i]) m.aL.length;split
  ·exact h1.or hf
  ·exact h1
theorem DU {m:GM} (h:m.ok) {a b:GP} (ha:a.ok m.aL.length) (hb:b.ok m.aL.length):(cK m a b).1.ok/\(cK m a b).1.aL=m.aL/\(cK m a b).2.ok m.aL.length:=by
 refine⟨DT h hb.fst,rfl,?_,?_⟩
 ·show dC (if a.emp=true then a.fst ||| b.fst else a.fst) _
  split
  ·exact ha.fst.or hb.fst
  ·exact ha.fst
 ·show dC (if b.emp=true then b.cS ||| a.cS else b.cS) _
  split
  ·exact hb.cS.or ha.cS
  ·exact hb.cS
mutual
def RX.cnt:RX->Nat
 | .nd k _ a b l=>if k=0 then 0 else if k=1 then 0 else if k=2 then 1 else if k=3 then RX.gF l else if k=4 then RX.gF l else if k=5 then fp a b*RX.cnt1 l else RX.cnt1 l
def RX.gF:List RX->Nat
 | []=>0
 | t::l=>t.cnt+RX.gF l
def RX.cnt1:List RX->Nat
 | []=>0
 | t::_=>t.cnt
end
structure iT (m:GM) (r:GM×GP) (c:Nat):Prop where
 ok:r.1.ok
 len:r.1.aL.length=m.aL.length+c
 gp:r.2.ok r.1.aL.length
theorem Az:∀ (l:List RX),(∀ t∈l,∀ m:GM,m.ok->iT m (t.dB m) t.cnt)->∀ (m:GM) (st:GM×GP) (c:Nat),iT m st c->iT m (RX.iK l st) (c+RX.gF l)
 | [],_,m,st,c,h=>by rw[RX.iK,RX.gF];exact h
 | t::l,hl,m,st,c,h=>by
  rw[RX.iK,RX.gF, <-Nat.add_assoc];refine Az l (fun x hx=>hl x (cd _ hx)) m _ _ ?_;have h1:=hl t (bL ..) st.1 h.ok;obtain⟨g1,g2,g3⟩:=DU h1.ok (h.gp.mono (by rw[h1.len];omega)) h1.gp;refine⟨g1,?_,?_⟩
  ·rw[g2,h1.len,h.len];omega
  ·rw[g2];exact g3
theorem AA:∀ (l:List RX),(∀ t∈l,∀ m:GM,m.ok->iT m (t.dB m) t.cnt)->∀ (m:GM) (st:GM×GP) (c:Nat),iT m st c->iT m (RX.fU l st) (c+RX.gF l)
 | [],_,m,st,c,h=>by rw[RX.fU,RX.gF];exact h
 | t::l,hl,m,st,c,h=>by
  rw[RX.fU,RX.gF, <-Nat.add_assoc];refine AA l (fun x hx=>hl x (cd _ hx)) m _ _ ?_;have h1:=hl t (bL ..) st.1 h.ok;have h2:=h.gp.mono (n':=(t.dB st.1).1.aL.length) (by rw[h1.len];omega);refine⟨h1.ok,?_,h2.fst.or h1.gp.fst,h2.cS.or h1.gp.cS⟩;show(t.dB st.1).1.aL.length=_;rw[h1.len,h.len];omega
theorem Tj {mn mx:Int} {k c:Nat} {m:GM} {a:GP} (ha:a.ok m.aL.length) {x:GM×GP} (h:iT m x c):iT m (Ay mn mx k a x) c:=by
 unfold Ay;have h1:(if mx= -1/\k+1=fp mn mx then iD x.1 x.2.cS x.2.fst else x.1).ok/\(if mx= -1/\k+1=fp mn mx then iD x.1 x.2.cS x.2.fst else x.1).aL=x.1.aL:=by
  split
  ·exact⟨DT h.ok h.gp.fst,rfl⟩
  ·exact⟨h.ok,rfl⟩
 obtain⟨g1,g2,g3⟩:=DU h1.1 (a:=a) (b:=⟨x.2.fst,x.2.cS,x.2.emp || decide (mn<=k)⟩) (by rw[h1.2];exact ha.mono (by rw[h.len];omega)) (by rw[h1.2];exact⟨h.gp.fst,h.gp.cS⟩);refine⟨g1,?_,?_⟩
 ·rw[g2,h1.2,h.len]
 ·rw[g2];exact g3
theorem vN {mn mx:Int} {c:Nat} {f:GM->GM×GP} (hf:∀ m:GM,m.ok->iT m (f m) c) {m:GM} (h:m.ok):∀ k,iT m (ee mn mx f m k) (k*c)
 | 0=>⟨h,by simp[ee],dC.zero _,dC.zero _⟩
 | k+1=>by
  have ih:=vN hf h (mn:=mn) (mx:=mx) k;have h1:=Tj (mn:=mn) (mx:=mx) (k:=k) ih.gp (hf _ ih.ok);refine⟨h1.ok,?_,h1.gp⟩;show(Ay mn mx k (ee mn mx f m k).2 (f (ee mn mx f m k).1)).1.aL.length=_;rw[h1.len,ih.len,Nat.succ_mul];omega
mutual
def RX.full:RX->Bool
 | .nd k s _ _ l=>(k != 2 || s != 0)&&RX.zb l
def RX.zb:List RX->Bool
 | []=>true
 | t::l=>t.full&&RX.zb l
end
theorem ze:∀ {l:List RX},RX.zb l=true->∀ t∈l,t.full=true
 | [],_,t,h=>by cases h
 | x::l,h,t,ht=>by
  rw[RX.zb,Bool.and_eq_true]at h;rcases List.mem_cons.1 ht with rfl | ht
  ·exact h.1
  ·exact ze h.2 t ht
theorem nt (t:RX):t.full=true->∀ m:GM,m.ok->iT m (t.dB m) t.cnt:=by
 induction t using RX.ind with
 | h k s a b l ih=>
  intro hf m hm;rw[RX.full,Bool.and_eq_true]at hf;have hl:∀ t∈l,∀ m:GM,m.ok->iT m (t.dB m) t.cnt:=fun t ht=>ih t ht (ze hf.2 t ht)
  rw[RX.dB,RX.cnt];by_cases h0:k=0
  ·rw[if_pos h0,if_pos h0];exact⟨hm,rfl,dC.zero _,dC.zero _⟩
  rw[if_neg h0,if_neg h0];by_cases h1:k=1
  ·rw[if_pos h1,if_pos h1];exact⟨hm,rfl,dC.zero _,dC.zero _⟩
  rw[if_neg h1,if_neg h1];by_cases h2:k=2
  ·rw[if_pos h2,if_pos h2]
   have hs:s≠0:=by rw[h2]at hf;simpa using hf.1
   have e:(m.aL++ [s]).length=m.aL.length+1:=by simp
   refine⟨⟨by simp[hm.len],fun f hf'=>?_,fun x hx=>?_⟩,e,?_,?_⟩
   ·show dC f (m.aL++ [s]).length
    rw[e];rcases List.mem_append.1 hf' with hf' | hf'
    ·exact(hm.cG f hf').mono (by omega)
    ·rw[List.mem_singleton.1 hf'];exact dC.zero _
   ·rcases List.mem_append.1 hx with hx | hx
    ·exact hm.ne x hx
    ·rw[List.mem_singleton.1 hx];exact hs
   ·show dC (eQ m.aL.length) (m.aL++ [s]).length
    rw[e];exact dC.bit _
   ·show dC (eQ m.aL.length) (m.aL++ [s]).length
    rw[e];exact dC.bit _
  rw[if_neg h2,if_neg h2];have hz:∀ e,iT m (m,⟨0,0,e⟩) 0:=fun e=>⟨hm,rfl,dC.zero _,dC.zero _⟩
  by_cases h3:k=3
  ·rw[if_pos h3,if_pos h3]
   have:=Az l hl m _ 0 (hz true);rwa[Nat.zero_add]at this
  rw[if_neg h3,if_neg h3];by_cases h4:k=4
  ·rw[if_pos h4,if_pos h4]
   have:=AA l hl m _ 0 (hz false);rwa[Nat.zero_add]at this
  rw[if_neg h4,if_neg h4];cases l with
  | nil=>
   by_cases h5:k=5
   ·rw[if_pos h5,if_pos h5,RX.rpG,RX.cnt1];exact hz true
   ·rw[if_neg h5,if_neg h5,RX.hdG,RX.cnt1];exact hz false
  | cons t l=>
   have ht:=hl t (bL ..);by_cases h5:k=5
   ·rw[if_pos h5,if_pos h5,RX.rpG,RX.cnt1];exact vN ht hm _
   ·rw[if_neg h5,if_neg h5,RX.hdG,RX.cnt1];exact ht m hm
def RX.nf (t:RX):NF:=⟨(t.dB ⟨[],[]⟩).1.aL,(t.dB ⟨[],[]⟩).1.cG.map eh,eh (t.dB ⟨[],[]⟩).2.fst,eh (t.dB ⟨[],[]⟩).2.cS,(t.dB ⟨[],[]⟩).2.emp⟩
theorem vO {x:PB} {n:Nat} (h:dC x n):dX 0 ((n:Int)-1) (eh x)=true:=by
 refine nQ (ng _ _) fun y hy=>?_
 obtain⟨q,hq,rfl⟩:=List.mem_map.1 hy;have:=h q (List.mem_filter.1 hq).2;show(0:Int)<=(q:Int)/\(q:Int)<=_;omega
theorem aa4 {t:RX} (h:t.full=true) (hc:t.cnt<=400):Nt t.nf:=by
 have H:=nt t h ⟨[],[]⟩ ⟨rfl,fun f hf=>(by cases hf),fun s hs=>(by cases hs)⟩;have hl:=H.len;simp only[List.length_nil,Nat.zero_add]at hl;refine⟨?_,?_,vO H.gp.fst,vO H.gp.cS,fun p hp=>?_,fun p hp=>?_⟩
 ·show(t.dB ⟨[],[]⟩).1.aL.length<=400
  omega
 ·show((t.dB ⟨[],[]⟩).1.cG.map eh).length=_
  rw[bp];exact H.ok.len
 ·show dX 0 _ (((t.dB ⟨[],[]⟩).1.cG.map eh).getD p [])=true
  have Fo:p<(t.dB ⟨[],[]⟩).1.cG.length:=by rw[H.ok.len];exact hp
  rw[cq,bH,aC Fo];exact vO (H.ok.cG _ (List.getElem_mem Fo))
 ·show(t.dB ⟨[],[]⟩).1.aL.getD p 0≠0
  have hp3:p<(t.dB ⟨[],[]⟩).1.aL.length:=hp;rw[cq,aC hp3];exact H.ok.ne _ (List.getElem_mem hp3)
theorem DV:∀ {l:List RX} {t x:RX},t∈l->x∈t.pre->x∈RX.ja l
 | y::l,t,x,ht,hx=>by
  rw[RX.ja];rcases List.mem_cons.1 ht with rfl | ht
  ·exact List.mem_append_left _ hx
  ·exact List.mem_append_right _ (DV ht hx)
theorem DW (t:RX):t∈t.pre:=by cases t;rw[RX.pre];exact bL ..
theorem AB {k:Nat} {s:BS} {a b:Int} {l:List RX} {P:RX->Prop} (h:∀ x∈(RX.nd k s a b l).pre,P x):P (.nd k s a b l)/\∀ t∈l,∀ x∈t.pre,P x:=by refine⟨h _ (DW _),fun t ht x hx=>h x ?_⟩;rw[RX.pre];exact cd _ (DV ht hx)
theorem cL (t:RX) (h:t.cX=true):(t.kind=2->t.set≠0)/\(t.kind<3->t.subs=[])/\(t.kind≠0)/\(t.kind<=6)/\(t.kind=5\/t.kind=6->t.subs.length=1)/\(t.kind=5->iA t.mn t.mx=true)/\(t.kind=3\/t.kind=4->1<t.subs.length):=by
 unfold RX.cX at h;generalize t.kind=k at*;generalize t.set=s at*;generalize t.mn=a at*;generalize t.mx=b at*;generalize t.has 1=i1 at*;generalize t.has 3=i3 at*;generalize t.has 4=i4 at*;generalize t.subs=l at*;split at h
 ·cases h
 rename_i h0;have hl:k<3->l=[]:=fun hk=>by
  apply List.eq_nil_of_length_eq_zero;have:¬ (k<3/\0<l.length):=fun e=>h0 (.inr (.inr e))
  omega
 refine⟨fun hk=>?_,hl,fun hk=>?_,?_,fun hk=>?_,fun hk=>?_,fun hk=>?_⟩
 ·subst hk;simpa using h
 ·subst hk;simp at h
 ·split at h
  ·omega
  split at h
  ·omega
  split at h
  ·omega
  split at h
  ·omega
  split at h
  ·omega
  ·simp at h;omega
 ·rcases hk with rfl | rfl
  ·simp at h;exact h.1.1
  ·simp at h;exact h
 ·subst hk;simp at h;exact h.1.2
 ·rcases hk with rfl | rfl
  ·simp at h;exact h.1.1
  ·simp at h;exact h.1
theorem sg {k:Nat} {s:BS} {a b:Int} {l:List RX} (h:(RX.nd k s a b l).cX=true):(k=2->s≠0)/\(k<3->l=[])/\(k≠0)/\(k<=6)/\(k=5\/k=6->l.length=1)/\(k=5->iA a b=true)/\(k=3\/k=4->1<l.length):=cL _ h
theorem pE (t:RX):(∀ x∈t.pre,x.cX=true)->t.full=true:=by
 induction t using RX.ind with
 | h k s a b l ih=>
  intro h;obtain⟨h1,h2⟩:=AB h;rw[RX.full,Bool.and_eq_true];refine⟨?_,?_⟩
  ·by_cases hk:k=2
   ·rw[Bool.or_eq_true]
    exact .inr (bne_iff_ne.2 ((sg h1).1 hk))
   ·simp[hk]
  ·have:∀ l':List RX,(∀ t∈l',t∈l)->RX.zb l'=true:=by
    intro l';induction l' with
    | nil=>intro _;rfl
    | cons x l' Lb=>
     intro hs;rw[RX.zb,Bool.and_eq_true];exact⟨ih x (hs x (bL ..)) (h2 x (hs x (bL ..))),Lb fun t ht=>hs t (cd _ ht)⟩
   exact this l fun t ht=>ht
theorem tA {a b:Int} (h:iA a b=true):RX.times a b=fp a b/\1<=fp a b/\fp a b<=16:=by
 unfold iA at h;split at h
 ·cases h
 ·unfold RX.times fp
  simp only[Bool.or_eq_true,Bool.and_eq_true,decide_eq_true_eq]at h;by_cases hb:b= -1
  ·rw[if_pos hb,if_pos hb];omega
  ·rw[if_neg hb,if_neg hb];omega
theorem DX (t:RX):(∀ x∈t.pre,x.cX=true)->t.bZ<=400->t.cnt=t.bZ:=by
 induction t using RX.ind with
 | h k s a b l ih=>
  intro h hp;obtain⟨h1,h2⟩:=AB h;obtain⟨_,hk3,BH,hk6,h56,h5,_⟩:=sg h1;rw[RX.bZ]at hp ⊢;have aa5:∀ l':List RX,(∀ t∈l',t∈l)->RX.bE l'<=400->RX.gF l'=RX.bE l':=by
   intro l';induction l' with
   | nil=>intro _ _;rfl
   | cons x l' Lb=>
    intro hs hle;rw[RX.bE]at hle;rw[RX.gF,RX.bE,ih x (hs x (bL ..)) (h2 x (hs x (bL ..))) (by omega),Lb (fun t ht=>hs t (cd _ ht)) (by omega)]
  rw[RX.cnt,if_neg BH];by_cases h1k:k=1
  ·subst h1k
   rw[hk3 (by omega)];simp[RX.bE]
  rw[if_neg h1k];by_cases h2k:k=2
  ·subst h2k
   rw[hk3 (by omega)];simp[RX.bE]
  rw[if_neg h2k];rw[if_neg h2k,Nat.zero_add]at hp ⊢;by_cases h5k:k=5
  ·subst h5k
   obtain⟨e1,e2,e3⟩:=tA (h5 rfl);rw[if_pos rfl,e1]at hp ⊢;have hm:min (fp a b) 10001=fp a b:=by omega
   rw[hm]at hp ⊢;obtain⟨x,rfl⟩:=List.length_eq_one_iff.1 (h56 (.inl rfl));have hx:RX.bE [x]=x.bZ:=by simp[RX.bE]
   rw[hx]at hp ⊢;have hle:x.bZ<=x.bZ*fp a b:=Nat.le_mul_of_pos_right _ e2;rw[if_neg (by omega),if_neg (by omega),if_pos rfl,RX.cnt1,ih x (bL ..) (h2 x (bL ..)) (by omega)];rw[Nat.mul_comm];omega
  ·rw[if_neg h5k,Nat.mul_one]at hp
   simp only[if_neg h5k,Nat.mul_one];have hle:RX.bE l<=400:=by omega
   have e:=aa5 l (fun t ht=>ht) hle;by_cases h3k:k=3
   ·rw[if_pos h3k,e];omega
   rw[if_neg h3k];by_cases h4k:k=4
   ·rw[if_pos h4k,e];omega
   rw[if_neg h4k];obtain⟨x,rfl⟩:=List.length_eq_one_iff.1 (h56 (.inr (by omega)));rw[RX.cnt1];simp[RX.gF,RX.bE]at e;simp[RX.bE]at hle ⊢;omega
theorem DY {t:RX} (h:t.clean=true) (hp:t.bZ<=400):Nt t.nf:=by unfold RX.clean at h;rw[Bool.and_eq_true,List.all_eq_true]at h;exact aa4 (pE t h.2) (by rw[DX t h.2 hp];exact hp)
def aj (k:Nat) (s:BS) (mn mx:Int) (a:Value):Array Value:= #[.int .u8 k,.int .u64 (wd s 0).toNat,.int .u64 (wd s 1).toNat,.int .u64 (wd s 2).toNat,.int .u64 (wd s 3).toNat,.int .i64 mn,.int .i64 mx,a]
inductive aH (F:Nat->Prop) (w:World):Value->RX->Prop
 | mk (k:Nat) (s:BS) (mn mx:Int) (l:List RX) (a:Value) (b off cap:Nat) (vs:Nat->Value)
  (h0:l=[]->∃ p c,a=.slice p 0 c)
  (h1:l≠[]->a=.slice (some ⟨b,off,none⟩) l.length cap/\F b/\b<w.heap.size/\l.length<=cap)
  (hc:∀ (i:Nat) (t:RX),l[i]? =some t->∃ cs:Array Value,vs i=.agg cs/\∀ (j:Nat) (u:Value),cs[j]? =some u->w.cell? ⟨b,off+i*8+j,none⟩=some u)
  (hr:∀ (i:Nat) (t:RX),l[i]? =some t->aH F w (vs i) t):aH F w (.agg (aj k s mn mx a)) (.nd k s mn mx l)
theorem aH.form {F:Nat->Prop} {w:World} {v:Value} {t:RX} (h:aH F w v t):∃ p c,v=.agg (aj t.kind t.set t.mn t.mx (.slice p t.subs.length c)):=by
 cases h with
 | mk k s mn mx l a b off cap vs h0 h1 hc hr=>
  cases l with
  | nil=>obtain⟨p,c,rfl⟩:=h0 rfl;exact⟨p,c,rfl⟩
  | cons x l=>obtain⟨rfl,_⟩:=h1 (by simp);exact⟨_,_,rfl⟩
theorem aH.keeps {F R:Nat->Prop} {w w':World} (hk:ae R w w') (hR:∀ b,F b->R b) {v:Value} {t:RX} (h:aH F w v t):aH F w' v t:=by
 induction h with
 | mk k s mn mx l a b off cap vs h0 h1 hc hr ih=>
  refine .mk k s mn mx l a b off cap vs h0 (fun hl=>?_) (fun i t hi=>?_) ih
  ·obtain⟨e,hF,hb,jW⟩:=h1 hl
   exact⟨e,hF,aw hb hk.size,jW⟩
  ·obtain⟨cs,e,hcs⟩:=hc i t hi
   have hl:l≠[]:=fun e=>by rw[e]at hi;simp at hi
   obtain⟨_,hF,_⟩:=h1 hl;exact⟨cs,e,fun j u hj=>(hk.cell (p:=⟨b,off+i*8+j,none⟩) (hR b hF)).trans (hcs j u hj)⟩
theorem aH.mono {F F':Nat->Prop} {w:World} (hF:∀ b,F b->F' b) {v:Value} {t:RX} (h:aH F w v t):aH F' w v t:=by
 induction h with
 | mk k s mn mx l a b off cap vs h0 h1 hc hr ih=>exact .mk k s mn mx l a b off cap vs h0 (fun hl=>by obtain⟨e,h2,h3⟩:=h1 hl;exact⟨e,hF b h2,h3⟩) hc ih
theorem aH.eK {n:Nat} {w w':World} {v:Value} {t:RX} (h:aH (· <n) w v t) (hk:Below n w w'):aH (· <n) w' v t:=h.keeps (ae.ai hk fun _ h=>h) fun _ h=>h
theorem aH.kept {n:Nat} {w w':World} {v:Value} {t:RX} (h:aH (· <n) w v t) (hk:ae (· <n) w w'):aH (· <n) w' v t:=h.keeps hk fun _ h=>h
theorem aH.elem {F:Nat->Prop} {w:World} {k n c:Nat} {s:BS} {mn mx:Int} {p:Option Addr} {l:List RX} (h:aH F w (.agg (aj k s mn mx (.slice p n c))) (.nd k s mn mx l)) {i:Nat} {t:RX} (hi:l[i]? =some t): ∃ b off p' c',p=some ⟨b,off,none⟩/\F b/\b<w.heap.size/\n<=c/\ (w.cell? ⟨b,off+i*8,none⟩=some (.int .u8 t.kind)/\w.cell? ⟨b,off+i*8+1,none⟩=some (.int .u64 (wd t.set 0).toNat)/\w.cell? ⟨b,off+i*8+2,none⟩=some (.int .u64 (wd t.set 1).toNat)/\w.cell? ⟨b,off+i*8+3,none⟩=some (.int .u64 (wd t.set 2).toNat)/\w.cell? ⟨b,off+i*8+4,none⟩=some (.int .u64 (wd t.set 3).toNat)/\w.cell? ⟨b,off+i*8+5,none⟩=some (.int .i64 t.mn)/\w.cell? ⟨b,off+i*8+6,none⟩=some (.int .i64 t.mx)/\w.cell? ⟨b,off+i*8+7,none⟩=some (.slice p' t.subs.length c'))/\ aH F w (.agg (aj t.kind t.set t.mn t.mx (.slice p' t.subs.length c'))) t:=by
 generalize hv:(Value.agg (aj k s mn mx (.slice p n c)))=v at h;generalize ht:RX.nd k s mn mx l=T at h;cases h with
 | mk k' s' mn' mx' l' a b off cap vs h0 h1 hc hr=>
  injection ht with e1 e2 e3 e4 e5
  subst e1 e2 e3 e4 e5;have hl:l≠[]:=fun e=>by rw[e]at hi;simp at hi
  obtain⟨ea,hF,hb,jW⟩:=h1 hl;rw[ea]at hv;have e7:(aj k s mn mx (.slice p n c))[7]? =(aj k s mn mx (.slice (some ⟨b,off,none⟩) l.length cap))[7]? :=by injection hv with e;rw[e]
  have e8:Value.slice p n c=.slice (some ⟨b,off,none⟩) l.length cap:=by simpa[aj]using e7
  obtain⟨rfl,rfl,rfl⟩:p=some ⟨b,off,none⟩/\n=l.length/\c=cap:=by injection e8 with a1 a2 a3;exact⟨a1,a2,a3⟩
  have ht:=hr i t hi;obtain⟨cs,ec,hcs⟩:=hc i t hi;obtain⟨p',c',ev⟩:=ht.form;rw[ev]at ht ec;injection ec with ec
  subst ec;exact⟨b,off,p',c',rfl,hF,hb,jW,⟨hcs 0 _ rfl,hcs 1 _ rfl,hcs 2 _ rfl,hcs 3 _ rfl,hcs 4 _ rfl,hcs 5 _ rfl,hcs 6 _ rfl,hcs 7 _ rfl⟩,ht⟩
theorem aH.leaf (F:Nat->Prop) (w:World) (k:Nat) (s:BS) (mn mx:Int) (p:Option Addr) (c:Nat):aH F w (.agg (aj k s mn mx (.slice p 0 c))) (.nd k s mn mx []):=
 .mk k s mn mx [] _ 0 0 0 (fun _=>undef) (fun _=>⟨p,c,rfl⟩) (fun h=>absurd rfl h) (fun i t h=>by simp at h) (fun i t h=>by simp at h)
theorem oO {P:Program} {fn:Func} {tmps:Array Value} {R:Ending->World->Prop} {v:Value} :∀ (Ds:List Nat) (W:World),Ds.Nodup->(∀ D∈Ds,W.heap[D]? =some (.deferred (some [])))-> ((results fn tmps).run P (Ds.foldl (fun W D=>W.putObj D (.deferred none)) W)=.ok v (Ds.foldl (fun W D=>W.putObj D (.deferred none)) W))->R (.returned v) (Ds.foldl (fun W D=>W.putObj D (.deferred none)) W)-> LeavesInM Fence.wide 0 P fn tmps R (Ds.map fun D=> {target:=.collected D,args:= #[]}) .returning W
 | [],W,_,_,hr,hR=>⟨v,hr,hR⟩
 | D::Ds,W,hn,hD,hr,hR=>by
  obtain⟨h1,h2⟩:=List.nodup_cons.1 hn;refine⟨by simp,.inl ⟨_,_,rfl,run_takeDeferred (hD D (bL ..)),?_⟩⟩;refine oO Ds _ h2 (fun E hE=>?_) hr hR;have hne:E≠D:=fun e=>by rw[e]at hE;exact h1 hE
  exact(World.putObj_heap_other hne).trans (hD E (cd _ hE))
end
section
open Go Go.RowKit Go.Shelf Go.Maps
section
variable {P:Program} {ops:Array Oper}
theorem fq {rest:List Oper} {o:Oper} {a:Act} {w:World} {Q:Exit->Act->World->Prop} (hw:Region.wanted o (yielded ops a.tmps)=true) (s x:Operand) (t:TypeId) (ho:o.op=.call {callee:=.builtin .append,args:= #[s,x],argTypes:= #[t,t]}) (base:Nat) (e:TypeId) (i:TypeInfo) (z:Value) (size bytes:Nat) (ht:P.underlying t=some (.slice e)) (hi:P.info? e=some i) (hz:i.zero=some z) (hsize:i.size=size) (hby:i.bytes=bytes) (hzs:z.cells.size=size) (hsz:0<size) (v:Value) (k:Nat) (xs:List Value) (hs:a.eval s=v) (hown:w.ownsRow base e size v k xs) (ad:Addr) (m c:Nat) (news:List Value) (hx:a.eval x=.slice (some ad) m c) (hnews:∀ j u,news[j]? =some u->w.cell? (ad.add j)=some u) (hl:news.length=m*size) (h1:∀ u∈news,u.oneCell'=true) (h63:k+m<=maxLen) (hbytes:(k+m)*bytes<=140737488355328) (hbase:base<=w.heap.size) (h:∀ v' w',w'.ownsRow base e size v' (k+m) (xs++news)->w.grownBy w' v.ownBlock->(v'.ownBlock=v.ownBlock\/v'.ownBlock=some w.heap.size)->wpList P ops Q rest (a.put o.dst v') w'): wpList P ops Q (o::rest) a w:=by
 refine jt hw fun K hK=>?_
 obtain⟨v',w',hr,h2,h3,_,h5⟩:=run_append_own_at (P:=P) w base t o.type e i z size bytes ht hi hz hsize hby hzs hsz v k xs hown ad m c news hl hnews h1 h63 hbytes hbase;unfold Oper.wp execOp;simp only[ho,resolve,invoke,builtin,Sem.run_bind,Sem.run_pure,Result.andThen_ok,List.map_toArray,List.map_cons,List.map_nil,hs,hx,hr];exact hK _ _ (h v' w' h2 h3 h5)
theorem nu {rest:List Oper} {o:Oper} {a:Act} {w:World} {Q:Exit->Act->World->Prop} (hw:Region.wanted o (yielded ops a.tmps)=true) (s x:Operand) (t:TypeId) (ho:o.op=.call {callee:=.builtin .append,args:= #[s,x],argTypes:= #[t,t]}) (base:Nat) (e:TypeId) (i:TypeInfo) (z:Value) (size bytes:Nat) (ht:P.underlying t=some (.slice e)) (hi:P.info? e=some i) (hz:i.zero=some z) (hsize:i.size=size) (hby:i.bytes=bytes) (hzs:z.cells.size=size) (hsz:0<size) (b:Addr) (k:Nat) (xs:List Value) (hs:a.eval s=.slice (some b) k k) (Fj:xs.length=k*size) (holds:∀ j u,xs[j]? =some u->w.cell? (b.add j)=some u) (ad:Addr) (m c:Nat) (news:List Value) (hx:a.eval x=.slice (some ad) m c) (hnews:∀ j u,news[j]? =some u->w.cell? (ad.add j)=some u) (hl:news.length=m*size) (hm:0<m) (h63:k+m<=maxLen) (hbytes:(k+m)*bytes<=140737488355328) (hbase:base<=w.heap.size) (h:∀ v' w',w'.ownsRow base e size v' (k+m) (xs++news)->aa w w'->v'.ownBlock=some w.heap.size->wpList P ops Q rest (a.put o.dst v') w'): wpList P ops Q (o::rest) a w:=by
 refine jt hw fun K hK=>?_
 subst hsize;subst hby;have afH:k+m<=9223372036854775807:=by simp only[maxLen]at h63;omega
 have hr:=run_append_grow (P:=P) w t o.type e i z ht hi hz b k k xs Fj holds ad m c news hl hnews (by omega) (by omega) (growslice_fits (by omega) hbytes);unfold Oper.wp execOp;simp only[ho,resolve,invoke,builtin,Sem.run_bind,Sem.run_pure,Result.andThen_ok,List.map_toArray,List.map_cons,List.map_nil,hs,hx,hr];have Um:=grownCap_ge w (k+m) k e;have hcm:grownCap w (k+m) k e<=maxLen:=grownCap_le_maxLen w (k+m) k e h63;have hlen:(xs++news).length=(k+m)*i.size:=by rw[aQ,Fj,hl,Nat.add_mul]
 refine hK _ _ (h _ _ ⟨hlen,.inr ⟨w.heap.size,_,_,rfl,hbase,heap_alloc_new w.drew _,Um,hcm,?_,?_⟩⟩ ((Ext.refl w).drew.alloc _).below rfl)
 ·simp only[Array.size_append,List.size_toArray,size_zeroCells,hzs,Fj,hl, <-Nat.add_mul]
  congr 1
  omega
 ·simp only[Array.toList_append,List.append_assoc]
  rw[<-List.append_assoc, <-hlen];exact List.take_left
end
def bC (cs:List (Array Value)):List Value:=cs.flatMap Array.toList
theorem fV:∀ {cs:List (Array Value)},(∀ c∈cs,c.size=8)->(bC cs).length=cs.length*8
 | [],_=>rfl
 | c::cs,h=>by
  unfold bC;rw[List.flatMap_cons,aQ,List.length_cons];have:=fV fun x hx=>h x (cd _ hx)
  unfold bC at this;rw[this,Array.length_toList,h c (bL ..)];omega
theorem im:∀ {cs:List (Array Value)} {i j:Nat} {c:Array Value} {u:Value},(∀ c∈cs,c.size=8)->cs[i]? =some c->c[j]? =some u->(bC cs)[i*8+j]? =some u
 | x::cs,0,j,c,u,h,hi,hj=>by
  simp at hi;subst hi;unfold bC;have hl:=(Array.getElem?_eq_some_iff.1 hj).1;rw[List.flatMap_cons,bJ (by rw[Array.length_toList];omega),Nat.zero_mul,Nat.zero_add,Array.getElem?_toList];exact hj
 | x::cs,i+1,j,c,u,h,hi,hj=>by
  have ih:=im (cs:=cs) (i:=i) (fun y hy=>h y (cd _ hy)) (by simpa using hi) hj;unfold bC at ih ⊢;rw[List.flatMap_cons,cZ (by rw[Array.length_toList,h x (bL ..)];omega), <-ih];congr 1;rw[Array.length_toList,h x (bL ..)];omega
theorem lJ (a b:List (Array Value)):bC (a++b)=bC a++bC b:=by unfold bC;rw[List.flatMap_append]
theorem cH (k:Nat) (s:BS) (mn mx:Int) (p:Option Addr) (n c:Nat):(aj k s mn mx (.slice p n c)).size=8/\∀ u∈(aj k s mn mx (.slice p n c)).toList,u.oneCell'=true:=by refine⟨rfl,fun u hu=>?_⟩;simp[aj]at hu;rcases hu with rfl | rfl | rfl | rfl | rfl | rfl | rfl | rfl<;>rfl
def bT (base:Nat) (w:World) (v:Value) (l:List RX):Prop:=∃ cs:List (Array Value),cs.length=l.length/\w.ownsRow base 40 8 v l.length (bC cs)/\(∀ c∈cs,c.size=8/\∀ u∈c.toList,u.oneCell'=true)/\
 ∀ (i:Nat) (c:Array Value) (t:RX),cs[i]? =some c->l[i]? =some t->aH (fun x=>base<=x/\x<w.heap.size/\v.ownBlock≠some x) w (.agg c) t
theorem bT.nil (base:Nat) (w:World):bT base w (.slice none 0 0) []:=⟨[],rfl,World.ownsRow_nil _ _ _ _,(fun _ h=>nomatch h),fun i c t h=>by simp at h⟩
theorem bT.form {base:Nat} {w:World} {v:Value} {l:List RX} (h:bT base w v l):∃ a c,v=.slice a l.length c:=by obtain⟨cs,h1,h2,h3,h4⟩:=h;exact ownsRow_form h2
theorem bT.keeps {base:Nat} {R:Nat->Prop} {w w':World} {v:Value} {l:List RX} (h:bT base w v l) (hk:ae R w w') (hR:∀ x,x<w.heap.size->base<=x\/v.ownBlock≠some x->R x):bT base w' v l:=by obtain⟨cs,h1,h2,h3,h4⟩:=h;refine⟨cs,h1,au h2 hk fun x hx=>hR x (h2.lt x hx).2 (.inl (h2.lt x hx).1),h3,fun i c t hi ht=>?_⟩;exact((h4 i c t hi ht).keeps hk fun x hx=>hR x hx.2.1 (.inl hx.1)).mono fun x hx=>⟨hx.1,aw hx.2.1 hk.size,hx.2.2⟩
theorem bT.below {base:Nat} {w w':World} {v:Value} {l:List RX} (h:bT base w v l) (hk:aa w w'):bT base w' v l:=h.keeps (ae.ai hk fun _ h=>h:ae (· <w.heap.size) w w') fun _ hx _=>hx
theorem bT.elem {base:Nat} {w:World} {a:Option Addr} {n cap:Nat} {l:List RX} (h:bT base w (.slice a n cap) l) {i:Nat} {t:RX} (hi:l[i]? =some t): ∃ g p' c',a=some ⟨g,0,none⟩/\n=l.length/\n<=cap/\base<=g/\g<w.heap.size/\ (w.cell? ⟨g,i*8,none⟩=some (.int .u8 t.kind)/\w.cell? ⟨g,i*8+1,none⟩=some (.int .u64 (wd t.set 0).toNat)/\w.cell? ⟨g,i*8+2,none⟩=some (.int .u64 (wd t.set 1).toNat)/\w.cell? ⟨g,i*8+3,none⟩=some (.int .u64 (wd t.set 2).toNat)/\w.cell? ⟨g,i*8+4,none⟩=some (.int .u64 (wd t.set 3).toNat)/\w.cell? ⟨g,i*8+5,none⟩=some (.int .i64 t.mn)/\w.cell? ⟨g,i*8+6,none⟩=some (.int .i64 t.mx)/\w.cell? ⟨g,i*8+7,none⟩=some (.slice p' t.subs.length c'))/\ aH (fun x=>base<=x/\x<w.heap.size/\x≠g) w (.agg (aj t.kind t.set t.mn t.mx (.slice p' t.subs.length c'))) t:=by
 obtain⟨cs,h1,h2,h3,h4⟩:=h;have iR:=(List.getElem?_eq_some_iff.1 hi).1;obtain⟨c,hc⟩:∃ c,cs[i]? =some c:=⟨_,aC (by omega)⟩;have hr:=h4 i c t hc hi;obtain⟨p',c',e⟩:=hr.form;injection e with e
 subst e;rcases h2.2 with⟨e1,e2⟩ | ⟨g,cap',cur,e1,e2,e3,e4,e5,_⟩
 ·exfalso;omega
 ·injection e1 with a1 a2 a3
  subst a1 a2 a3;have hlt:=h2.lt g rfl;have ce:∀ (j:Nat) (u:Value),(aj t.kind t.set t.mn t.mx (.slice p' t.subs.length c'))[j]? =some u->w.cell? ⟨g,i*8+j,none⟩=some u:=fun j u hj=>by
   have:=h2.cells (g:=g) rfl _ _ (im (fun c hc=>(h3 c hc).1) hc hj);rw[Addr.add_mid]at this;simpa using this
  refine⟨g,p',c',rfl,rfl,e4,hlt.1,hlt.2,⟨ce 0 _ rfl,ce 1 _ rfl,ce 2 _ rfl,ce 3 _ rfl,ce 4 _ rfl,ce 5 _ rfl,ce 6 _ rfl,ce 7 _ rfl⟩,?_⟩;exact hr.mono fun x hx=>⟨hx.1,hx.2.1,fun e=>hx.2.2 (by rw[e];rfl)⟩
theorem bT.app {base:Nat} {w w':World} {v v':Value} {l l2:List RX} {cs cs2:List (Array Value)} (h1:cs.length=l.length) (h3:∀ c∈cs,c.size=8/\∀ u∈c.toList,u.oneCell'=true) (h4:∀ (i:Nat) (c:Array Value) (t:RX),cs[i]? =some c->l[i]? =some t->aH (fun x=>base<=x/\x<w.heap.size/\v.ownBlock≠some x) w (.agg c) t) (g1:cs2.length=l2.length) (g3:∀ c∈cs2,c.size=8/\∀ u∈c.toList,u.oneCell'=true) (g4:∀ (i:Nat) (c:Array Value) (t:RX),cs2[i]? =some c->l2[i]? =some t->aH (fun x=>base<=x/\x<w.heap.size/\v.ownBlock≠some x) w (.agg c) t) (ho:w'.ownsRow base 40 8 v' (l.length+l2.length) (bC cs++bC cs2)) (hg:w.grownBy w' v.ownBlock) (kh:v'.ownBlock=v.ownBlock\/v'.ownBlock=some w.heap.size):bT base w' v' (l++l2):=by
 have key:∀ (c:Array Value) (t:RX),aH (fun x=>base<=x/\x<w.heap.size/\v.ownBlock≠some x) w (.agg c) t->aH (fun x=>base<=x/\x<w'.heap.size/\v'.ownBlock≠some x) w' (.agg c) t:=fun c t h=>by
  refine(h.keeps (ae.bA hg fun x (hx:base<=x/\x<w.heap.size/\v.ownBlock≠some x)=>⟨hx.2.1,fun e=>hx.2.2 e.symm⟩) fun x hx=>hx).mono fun x hx=>⟨hx.1,aw hx.2.1 hg.size,fun e=>?_⟩
  rcases kh with e2 | e2
  ·exact hx.2.2 (by rw[<-e2,e])
  ·rw[e2]at e
   cases e
   exact Nat.lt_irrefl _ hx.2.1
 refine⟨cs++cs2,by simp[h1,g1],by rw[aQ,lJ];exact ho,fun c hc=>(List.mem_append.1 hc).elim (h3 c) (g3 c),fun i c t hi ht=>?_⟩;rcases Nat.lt_or_ge i l.length with iR | iR
 ·rw[bJ (by omega)]at hi ht
  exact key c t (h4 i c t hi ht)
 ·rw[cZ (by omega)]at hi ht
  rw[h1]at hi;exact key c t (g4 _ c t hi ht)
end
section
open Go Go.RowKit
def ei (n:Nat):List Nat:=[[97],[98],[97,98],[97],[98],[99],[97,98,99],[98,99],[10],[0,255],[97],[98]].getD (n%12) []
def lK (n:Nat):RX:=.nd 2 (oo fun c=>(ei n).contains c) 0 0 []
def cY:RX:=.nd 1 0 0 0 []
def dO (kind:Nat) (x:RX):List RX:=if x.kind=kind then x.subs else if kind=3/\x.kind=1 then []else [x]
def eY (kind:Nat) (l:List RX):RX:=match l with | []=>cY | [x]=>x | x::y::r=>.nd kind 0 0 0 (x::y::r)
def bU (kind:Nat) (a b:RX):RX:=eY kind (dO kind a++dO kind b)
structure cM where
 all:List RX
 l9:Nat
 pX:Nat
def cM.last (P:cM):RX:=P.all.getD (P.all.length-1) cY
def cM.fH (P:cM):RX:=P.all.getD (P.all.length-2) cY
def cM.put (P:cM) (k:Nat) (x:RX):List RX:=P.all.take (P.all.length-k)++ [x]
def eo (n:Nat):Nat:=n%3
def gY (n m:Nat):Int:=if m%4<eo n\/m%4=0\/(eo n=1/\m%4=1)then-1 else((m%4:Nat):Int)
def iq (n m:Nat):Nat:=(max (max (eo n:Int) (gY n m)) 1).toNat
def cM.step (P:cM) (s:Nat×Nat×Nat):cM:=
 if s.1%12<4 then⟨P.put 0 (lK s.2.1),P.l9,P.pX⟩else
 if s.1%12=4 then⟨P.put 0 cY,P.l9,P.pX⟩else
 if s.1%12<7/\1<P.all.length then⟨P.put 2 (bU 3 P.fH P.last),P.l9,P.pX⟩else
 if s.1%12<9/\1<P.all.length then⟨P.put 2 (bU 4 P.fH P.last),P.l9,P.pX⟩else
 if s.1%12=9/\0<P.all.length/\P.pX<9 then⟨P.put 1 (.nd 6 0 0 0 [P.last]),P.l9,P.pX+1⟩else
 if 9<s.1%12/\0<P.all.length/\P.last.kind≠1 then
  if P.l9*iq s.2.1 s.2.2<=16 then⟨P.put 1 (.nd 5 0 (eo s.2.1) (gY s.2.1 s.2.2) [P.last]),P.l9*iq s.2.1 s.2.2,P.pX⟩else P
 else P
def hZ (l:List (Nat×Nat×Nat)):cM:=l.foldl cM.step ⟨[],1,0⟩
def aa6 (l:List RX):RX:=match l with | []=>lK 0 | x::r=>r.foldl (bU 4) x
def fI (l:List (Nat×Nat×Nat)):RX:=aa6 (hZ (l.take 25)).all
def RX.fine (t:RX):Prop:=∀ x∈t.pre,x.cX=true
theorem lL {k:Nat} {s:BS} {a b:Int} {l:List RX} :(RX.nd k s a b l).fine↔(RX.nd k s a b l).cX=true/\∀ t∈l,t.fine:=by
 constructor
 ·intro h
  exact AB h
 ·rintro⟨h1,h2⟩ x hx
  rw[RX.pre]at hx;rcases List.mem_cons.1 hx with rfl | hx
  ·exact h1
  ·have:∀ l':List RX,(∀ t∈l',t.fine)->x∈RX.ja l'->x.cX=true:=by
    intro l';induction l' with
    | nil=>intro _ h;rw[RX.ja]at h;cases h
    | cons y l' ih=>
     intro hf h;rw[RX.ja]at h;rcases List.mem_append.1 h with h | h
     ·exact hf y (bL ..) x h
     ·exact ih (fun t ht=>hf t (cd _ ht)) h
   exact this l h2 hx
theorem si {t:RX} (h:t.fine):t.cX=true:=h t (DW t)
theorem Lc {t:RX} (h:t.fine):∀ x∈t.subs,x.fine:=by
 cases t with
 | nd k s a b l=>exact(lL.1 h).2
theorem DZ (n:Nat):(oo fun c=>(ei n).contains c)≠0:=by
 have h:n%12<12:=Nat.mod_lt _ (by decide);have key:∀ k,k<12->(oo fun c=>(ei k).contains c)≠0:=by decide+kernel
 have e:ei n=ei (n%12):=by unfold ei;rw[Nat.mod_mod]
 rw[e];exact key _ h
theorem tB (n:Nat):(lK n).fine:=by refine lL.2 ⟨?_,fun t h=>by cases h⟩;obtain⟨s,hs⟩:=ah (oo fun c=>(ei n).contains c);have h:=DZ n;rw[<-hs]at h ⊢;unfold RX.cX RX.kind RX.set RX.mn RX.mx RX.subs;simpa using h
theorem tC:cY.fine:=lL.2 ⟨by decide,fun t h=>by cases h⟩
theorem eD (a b:List RX):RX.sizes (a++b)=RX.sizes a+RX.sizes b:=by
 induction a with
 | nil=>simp[RX.sizes]
 | cons x a ih=>rw[List.cons_append,RX.sizes,RX.sizes,ih];omega
theorem eE (a b:List RX):RX.bE (a++b)=RX.bE a+RX.bE b:=by
 induction a with
 | nil=>simp[RX.bE]
 | cons x a ih=>rw[List.cons_append,RX.bE,RX.bE,ih];omega
theorem size_pos (t:RX):1<=t.size:=by cases t;rw[RX.size];omega
theorem zf (t:RX):RX.sizes t.subs+1=t.size:=by cases t;rw[RX.size,RX.subs];omega
theorem pF {k:Nat} (hk:k=3\/k=4) {x:RX} (h:x.fine):(∀ t∈dO k x,t.fine/\t.kind≠k/\(k=3->t.kind≠1))/\RX.sizes (dO k x)<=x.size/\(x.kind=k->RX.sizes (dO k x)+1<=x.size)/\min (RX.bE (dO k x)) 10001<=x.bZ:=by
 unfold dO;by_cases h1:x.kind=k
 ·rw[if_pos h1]
  have hs:=zf x;refine⟨fun t ht=>⟨Lc h t ht,?_⟩,by omega,fun _=>by omega,?_⟩
  ·have hr:=si h
   unfold RX.cX at hr;split at hr
   ·cases hr
   ·have hh:∀ j,x.has j=false->t.kind≠j:=fun j hj=>by
     unfold RX.has at hj;have:=List.any_eq_false.1 hj t ht;simpa using this
    rcases hk with rfl | rfl
    ·simp[h1]at hr
     exact⟨hh 3 hr.2,fun _=>hh 1 hr.1.2⟩
    ·simp[h1]at hr
     exact⟨hh 4 hr.2,fun e=>by omega⟩
  ·cases x with
   | nd k' s a b l=>
    have e:k'=k:=h1;subst e;rw[RX.subs,RX.bZ,if_neg (by omega),if_neg (by omega)];omega
 ·rw[if_neg h1]
  by_cases h2:k=3/\x.kind=1
  ·rw[if_pos h2]
   exact⟨fun t ht=>by(cases ht),by simp[RX.sizes],fun e=>absurd e h1,by simp[RX.bE]⟩
  ·rw[if_neg h2]
   refine⟨fun t ht=>?_,by simp[RX.sizes],fun e=>absurd e h1,?_⟩
   ·rw[List.mem_singleton.1 ht]
    exact⟨h,h1,fun e=>fun e2=>h2 ⟨e,e2⟩⟩
   ·simp[RX.bE];omega
theorem AD {k:Nat} (hk:k=3\/k=4) {l:List RX} (h:∀ t∈l,t.fine/\t.kind≠k/\(k=3->t.kind≠1)):(eY k l).fine/\(eY k l).size<=RX.sizes l+1/\(eY k l).bZ<=RX.bE l:=by
 match l with
 | []=>exact⟨tC,by simp[eY,cY,RX.size,RX.sizes],by simp[eY,cY,RX.bZ,RX.bE]⟩
 | [x]=>
  refine⟨(h x (bL ..)).1,?_,?_⟩
  ·simp[eY,RX.sizes]
  ·simp[eY,RX.bE]
 | x::y::r=>
  refine⟨lL.2 ⟨?_,fun t ht=>(h t ht).1⟩,?_,?_⟩
  ·have hh:∀ j,(∀ t∈x::y::r,t.kind≠j)->(RX.nd k 0 0 0 (x::y::r)).has j=false:=fun j hj=>by
    unfold RX.has;rw[List.any_eq_false];intro t ht;simpa using hj t ht
   unfold RX.cX;rw[if_neg (by rintro(h | h | h)<;>simp[RX.kind,RX.set,RX.mn,RX.mx]at h;omega)];rcases hk with rfl | rfl
   ·rw[hh 1 fun t ht=>(h t ht).2.2 rfl,hh 3 fun t ht=>(h t ht).2.1]
    simp[RX.kind,RX.subs]
   ·rw[hh 4 fun t ht=>(h t ht).2.1]
    simp[RX.kind,RX.subs]
  ·show RX.size (.nd k 0 0 0 (x::y::r))<=_
   rw[RX.size];omega
  ·show RX.bZ (.nd k 0 0 0 (x::y::r))<=_
   rw[RX.bZ,if_neg (by omega),if_neg (by omega)];omega
theorem AE (t:RX):t.bZ<=10001:=by cases t;rw[RX.bZ];omega
theorem tD {k:Nat} (hk:k=3\/k=4) {a b:RX} (ha:a.fine) (hb:b.fine):(bU k a b).fine/\(bU k a b).size<=a.size+b.size+1/\(bU k a b).bZ<=a.bZ+b.bZ:=by
 obtain⟨a1,a2,_,a4⟩:=pF hk ha;obtain⟨b1,b2,_,b4⟩:=pF hk hb;obtain⟨g1,g2,g3⟩:=AD hk (l:=dO k a++dO k b) fun t ht=>(List.mem_append.1 ht).elim (a1 t) (b1 t)
 rw[eD]at g2;rw[eE]at g3;have:=AE (bU k a b);refine⟨g1,?_,?_⟩
 ·show(eY k (dO k a++dO k b)).size<=_
  omega
 ·have e:(bU k a b).bZ=(eY k (dO k a++dO k b)).bZ:=rfl
  omega
theorem Pf (a b:Int) (s:BS) (x:RX):(RX.nd 5 s a b [x]).bZ<=x.bZ*RX.times a b:=by rw[RX.bZ,if_neg (by decide),if_pos rfl,RX.bE,RX.bE,Nat.zero_add,Nat.add_zero];refine Nat.le_trans (Nat.min_le_left _ _) (Nat.mul_le_mul_left _ (Nat.min_le_left _ _))
theorem vP (n m:Nat):iA (eo n) (gY n m)=true/\RX.times (eo n) (gY n m)=iq n m/\1<=iq n m:=by
 have h1:n%3<3:=Nat.mod_lt _ (by decide);have h2:m%4<4:=Nat.mod_lt _ (by decide);unfold iq gY eo;generalize n%3=p at*;generalize m%4=q at*;have key:∀ p:Nat,p<3->∀ q:Nat,q<4->iA (p:Int) (if q<p\/q=0\/(p=1/\q=1)then-1 else(q:Int))=true/\RX.times (p:Int) (if q<p\/q=0\/(p=1/\q=1)then-1 else(q:Int))=(max (max (p:Int) (if q<p\/q=0\/(p=1/\q=1)then-1 else(q:Int))) 1).toNat/\1<=(max (max (p:Int) (if q<p\/q=0\/(p=1/\q=1)then-1 else(q:Int))) 1).toNat:=by decide+kernel
 exact key p h1 q h2
structure cM.ok (P:cM) (c:Nat):Prop where
 fine:∀ t∈P.all,t.fine
 kind:∀ t∈P.all,t.kind≠0
 size:RX.sizes P.all<=c
 bZ:RX.bE P.all<=c*P.l9
 l9:1<=P.l9
 zg:P.l9<=16
 len:P.all.length<=c
theorem jm {l:List RX} (h:0<l.length):l=l.take (l.length-1)++ [l.getD (l.length-1) cY]:=by
 have e:l.getD (l.length-1) cY=l[l.length-1]'(by omega):=by rw[cq,aC (by omega)];rfl
 rw[e,List.take_append_getElem (by omega),show l.length-1+1=l.length by omega,List.take_length]
theorem vQ {l:List RX} (h:1<l.length):l=l.take (l.length-2)++ [l.getD (l.length-2) cY,l.getD (l.length-1) cY]:=by
 have e1:=jm (l:=l) (by omega);have e2:=jm (l:=l.take (l.length-1)) (by simp;omega);rw[List.length_take,Nat.min_eq_left (by omega),show l.length-1-1=l.length-2 by omega]at e2;rw[List.take_take,Nat.min_eq_left (by omega)]at e2;have e3:(l.take (l.length-1)).getD (l.length-2) cY=l.getD (l.length-2) cY:=by rw[cq,cq,List.getElem?_take,if_pos (by omega)]
 rw[e3]at e2;rw[e2]at e1;rw[e1.trans (List.append_assoc _ _ _)];simp
theorem nT {l:List RX} {k:Nat} (h:k<l.length):l.getD k cY∈l:=by rw[cq,aC h];exact List.getElem_mem h
theorem nU {t:RX} (h:t.fine):t.kind≠0:=(cL t (si h)).2.2.1
theorem cM.ok.more {P:cM} {c:Nat} (h:P.ok c):P.ok (c+1):=
 ⟨h.fine,h.kind,by have:=h.size;omega,by have:=h.bZ;rw[Nat.succ_mul];omega,h.l9,h.zg,by have:=h.len;omega⟩
theorem cM.ok.push {P:cM} {c:Nat} (h:P.ok c) {x:RX} (hx:x.fine) (hs:x.size<=1) (hp:x.bZ<=1):(⟨P.put 0 x,P.l9,P.pX⟩:cM).ok (c+1):=by
 have e:P.put 0 x=P.all++ [x]:=by unfold cM.put;rw[Nat.sub_zero,List.take_length]
 have hf:∀ t∈P.put 0 x,t.fine:=fun t ht=>by
  rw[e]at ht;rcases List.mem_append.1 ht with ht | ht
  ·exact h.fine t ht
  ·rw[List.mem_singleton.1 ht];exact hx
 refine⟨hf,fun t ht=>nU (hf t ht),?_,?_,h.l9,h.zg,?_⟩
 ·show RX.sizes (P.put 0 x)<=_
  rw[e,eD];have:=h.size;simp[RX.sizes];omega
 ·show RX.bE (P.put 0 x)<=(c+1)*P.l9
  rw[e,eE,Nat.succ_mul];have:=h.bZ;have:=h.l9;simp[RX.bE];omega
 ·show(P.put 0 x).length<=_
  rw[e];have:=h.len;simp;omega
theorem cM.ok.join {P:cM} {c:Nat} (h:P.ok c) {k:Nat} (hk:k=3\/k=4) (hn:1<P.all.length):(⟨P.put 2 (bU k P.fH P.last),P.l9,P.pX⟩:cM).ok (c+1):=by
 have e:=vQ hn;obtain⟨g1,g2,g3⟩:=tD hk (h.fine _ (nT (show P.all.length-2<P.all.length by omega))) (h.fine _ (nT (show P.all.length-1<P.all.length by omega)));have hf:∀ t∈P.put 2 (bU k P.fH P.last),t.fine:=fun t ht=>by
  rcases List.mem_append.1 ht with ht | ht
  ·exact h.fine t (List.mem_of_mem_take ht)
  ·rw[List.mem_singleton.1 ht];exact g1
 have hs:=h.size;have hp:=h.bZ;have hl:=h.len;rw[e,eD]at hs;rw[e,eE]at hp;simp only[RX.sizes,RX.bE]at hs hp;refine⟨hf,fun t ht=>nU (hf t ht),?_,?_,h.l9,h.zg,?_⟩
 ·show RX.sizes (P.all.take (P.all.length-2)++ [bU k P.fH P.last])<=_
  rw[eD];simp only[RX.sizes];show _+((bU k (P.all.getD (P.all.length-2) cY) (P.all.getD (P.all.length-1) cY)).size+0)<=_;omega
 ·show RX.bE (P.all.take (P.all.length-2)++ [bU k P.fH P.last])<=(c+1)*P.l9
  rw[eE,Nat.succ_mul];simp only[RX.bE];show _+((bU k (P.all.getD (P.all.length-2) cY) (P.all.getD (P.all.length-1) cY)).bZ+0)<=_;omega
 ·show(P.all.take (P.all.length-2)++ [bU k P.fH P.last]).length<=_
  rw[aQ,List.length_take];simp;omega
theorem cM.ok.turn {P:cM} {c:Nat} (h:P.ok c) (hn:0<P.all.length) {x:RX} {f:Nat} (hx:x.fine) (hs:x.size<=P.last.size+1) (hp:x.bZ<=P.last.bZ*f) (Fp:1<=f) (afI:P.l9*f<=16) (g:Nat):(⟨P.put 1 x,P.l9*f,g⟩:cM).ok (c+1):=by
 have e:=jm hn;have hf:∀ t∈P.put 1 x,t.fine:=fun t ht=>by
  rcases List.mem_append.1 ht with ht | ht
  ·exact h.fine t (List.mem_of_mem_take ht)
  ·rw[List.mem_singleton.1 ht];exact hx
 have hs2:=h.size;have Fo:=h.bZ;have hl:=h.len;have hu:=h.l9;rw[e,eD]at hs2;rw[e,eE]at Fo;simp only[RX.sizes,RX.bE]at hs2 Fo;refine⟨hf,fun t ht=>nU (hf t ht),?_,?_,Nat.mul_pos hu Fp,afI,?_⟩
 ·show RX.sizes (P.all.take (P.all.length-1)++ [x])<=_
  rw[eD];simp only[RX.sizes];have:P.last.size=(P.all.getD (P.all.length-1) cY).size:=rfl;omega
 ·show RX.bE (P.all.take (P.all.length-1)++ [x])<=(c+1)*(P.l9*f)
  rw[eE];simp only[RX.bE];have e2:P.last.bZ=(P.all.getD (P.all.length-1) cY).bZ:=rfl;rw[e2]at hp;have h1:RX.bE (P.all.take (P.all.length-1))+(P.all.getD (P.all.length-1) cY).bZ*f<=(RX.bE (P.all.take (P.all.length-1))+(P.all.getD (P.all.length-1) cY).bZ)*f:=by rw[Nat.add_mul];exact Nat.add_le_add_right (Nat.le_mul_of_pos_right _ Fp) _
  have h2:(RX.bE (P.all.take (P.all.length-1))+(P.all.getD (P.all.length-1) cY).bZ)*f<=c*P.l9*f:=Nat.mul_le_mul_right _ (by omega);have h3:(c+1)*(P.l9*f)=c*P.l9*f+P.l9*f:=by rw[Nat.succ_mul,Nat.mul_assoc]
  omega
 ·show(P.all.take (P.all.length-1)++ [x]).length<=_
  rw[aQ,List.length_take];simp;omega
theorem GR {x:RX} (h:x.fine):(RX.nd 6 0 0 0 [x]).fine/\(RX.nd 6 0 0 0 [x]).size<=x.size+1/\(RX.nd 6 0 0 0 [x]).bZ<=x.bZ*1:=by
 refine⟨lL.2 ⟨?_,fun t ht=>by rw[List.mem_singleton.1 ht];exact h⟩,?_,?_⟩
 ·unfold RX.cX
  simp[RX.kind,RX.set,RX.mn,RX.mx,RX.subs]
 ·simp[RX.size,RX.sizes];omega
 ·rw[RX.bZ,if_neg (by decide),if_neg (by decide),RX.bE,RX.bE];omega
theorem Pg {x:RX} (h:x.fine) (hk:x.kind≠1) (n m:Nat):(RX.nd 5 0 (eo n) (gY n m) [x]).fine/\(RX.nd 5 0 (eo n) (gY n m) [x]).size<=x.size+1:=by
 refine⟨lL.2 ⟨?_,fun t ht=>by rw[List.mem_singleton.1 ht];exact h⟩,?_⟩
 ·have hh:(RX.nd 5 0 (eo n) (gY n m) [x]).has 1=false:=by
   unfold RX.has RX.subs;simpa using hk
  unfold RX.cX;rw[if_neg (by rintro(h | h | h)<;>simp[RX.kind,RX.set,RX.mn,RX.mx]at h),hh];simp[RX.kind,RX.subs,RX.mn,RX.mx,(vP n m).1]
 ·simp[RX.size,RX.sizes];omega
theorem cM.ok.step {P:cM} {c:Nat} (h:P.ok c) (s:Nat×Nat×Nat):(P.step s).ok (c+1):=by
 unfold cM.step;split
 ·exact h.push (tB _) (by simp[lK,RX.size,RX.sizes]) (by simp[lK,RX.bZ,RX.bE])
 split
 ·exact h.push tC (by decide) (by decide)
 split
 ·rename_i hc;exact h.join (.inl rfl) hc.2
 split
 ·rename_i hc;exact h.join (.inr rfl) hc.2
 split
 ·rename_i hc
  obtain⟨g1,g2,g3⟩:=GR (h.fine _ (nT (show P.all.length-1<P.all.length by omega)));have:=h.turn hc.2.1 g1 g2 g3 (aD 1) (by rw[Nat.mul_one];exact h.zg) (P.pX+1);rwa[Nat.mul_one]at this
 split
 ·rename_i hc
  split
  ·rename_i hu
   obtain⟨r1,r2,r3⟩:=vP s.2.1 s.2.2;obtain⟨g1,g2⟩:=Pg (h.fine _ (nT (show P.all.length-1<P.all.length by omega))) hc.2.2 s.2.1 s.2.2;exact h.turn hc.2.1 g1 g2 (by rw[<-r2];exact Pf _ _ _ _) r3 hu P.pX
  ·exact h.more
 ·exact h.more
theorem vR (l:List (Nat×Nat×Nat)):(hZ l).ok l.length:=by
 have:∀ (l:List (Nat×Nat×Nat)) (P:cM) (c:Nat),P.ok c->(l.foldl cM.step P).ok (c+l.length):=by
  intro l;induction l with
  | nil=>intro P c h;exact h
  | cons s l ih=>
   intro P c h;rw[List.foldl_cons,List.length_cons,show c+(l.length+1)=c+1+l.length by omega];exact ih _ _ (h.step s)
 have h:=this l ⟨[],1,0⟩ 0 ⟨fun t ht=>by(cases ht),fun t ht=>by(cases ht),by simp[RX.sizes],by simp[RX.bE],aD _,by decide,Nat.zero_le _⟩;rwa[Nat.zero_add]at h
theorem pG:∀ (r:List RX) (x:RX),x.fine->(∀ t∈r,t.fine)->(r.foldl (bU 4) x).fine/\(r.foldl (bU 4) x).size<=x.size+RX.sizes r+r.length/\(r.foldl (bU 4) x).bZ<=x.bZ+RX.bE r
 | [],x,h,_=>⟨h,by simp[RX.sizes],by simp[RX.bE]⟩
 | y::r,x,h,hr=>by
  rw[List.foldl_cons,List.length_cons,RX.sizes,RX.bE];obtain⟨g1,g2,g3⟩:=tD (.inr rfl) h (hr y (bL ..)) (k:=4);obtain⟨k1,k2,k3⟩:=pG r _ g1 fun t ht=>hr t (cd _ ht)
  exact⟨k1,by omega,by omega⟩
structure WO (t:RX):Prop where
 fine:t.fine
 size:t.size<=60
 bZ:t.bZ<=400
theorem vS (l:List (Nat×Nat×Nat)):WO (fI l):=by
 have H:=vR (l.take 25);have hl:(l.take 25).length<=25:=by rw[List.length_take];omega
 have h16:=H.zg;have hlen:=H.len;have hsz:=H.size;have JG:RX.bE (hZ (l.take 25)).all<=400:=Nat.le_trans H.bZ (Nat.le_trans (Nat.mul_le_mul hl h16) (by decide));have UM:=H.fine;unfold fI;generalize (hZ (l.take 25)).all=p at*;cases p with
 | nil=>exact⟨tB 0,by decide,by decide+kernel⟩
 | cons x r=>
  rw[RX.sizes]at hsz;rw[RX.bE]at JG;rw[List.length_cons]at hlen;obtain⟨g1,g2,g3⟩:=pG r x (UM x (bL ..)) fun t ht=>UM t (cd _ ht)
  exact⟨g1,by show(r.foldl (bU 4) x).size<=60;omega,by show(r.foldl (bU 4) x).bZ<=400;omega⟩
end
section
open Go Go.RowKit Go.Shelf Go.Maps
def fW (w:World) (g off:Nat) (s:Nat->BitVec 64):Prop:=g<w.heap.size/\∀ i,i<7->w.cell? ⟨g,off+i,none⟩=some (.int .u64 (s i).toNat)
theorem fW.keeps {w w':World} {g off:Nat} {s:Nat->BitVec 64} (h:fW w g off s) {R:Nat->Prop} (hk:ae R w w') (hR:R g):fW w' g off s:=⟨aw h.1 hk.size,fun i hi=>(hk.cell (p:=⟨g,off+i,none⟩) hR).trans (h.2 i hi)⟩
theorem fW.Ph {w:World} {b:Nat} {s:Nat->BitVec 64} {t:TypeId} (h:aq w b (cE s) t):fW w b 0 s:=⟨h.lt,fun i hi=>by rw[Nat.zero_add];exact(h.cell i).trans (kQ s hi)⟩
theorem oP {R:Nat->Prop} {w W:World} (h:ae R w W) (p:Addr) (u:Value):ae R (w.setCell p u) (W.setCell p u):=by
 refine⟨h.os,h.tape,h.output,by simpa[World.setCell]using h.size,fun k hk=>?_⟩;by_cases e:k=p.block
 ·have h1:=h.keep k hk
  subst e;unfold World.setCell;simp only[Array.getElem?_modify,h1]
 ·rw[Below.heap_setCell _ _ _ _ e,Below.heap_setCell _ _ _ _ e]
  exact h.keep k hk
theorem Ld (s:Nat->BitVec 64) (b off p:Nat) (hp:p<448) (w:World) (h:fW w b off s): ag 113 #[.pointer (some ⟨b,off,none⟩),.int .i64 p] w fun e w'=>e=.returned (.bool (rX s p))/\w'=w:=by
 obtain⟨q,hq⟩:=ah (p/64);obtain⟨r,hr⟩:=ah (p%64);have OT:q<7:=by omega
 have OU:r<64:=by omega
 have c1:w.cell? ⟨b,off+q,none⟩=some (.int .u64 (s q).toNat):=h.2 q OT;have e1:(p:Int).tdiv 64=(q:Int):=by rw[Int.tdiv_eq_ediv_of_nonneg (by omega)];omega
 have e2:(p:Int).tmod 64=(r:Int):=by rw[Int.tmod_eq_emod_of_nonneg (by omega)];omega
 have w1:IntKind.i64.wrap (q:Int)=q:=IntWalk.i64_in _ (by omega);have w2:IntKind.i64.wrap (r:Int)=r:=IntWalk.i64_in _ (by omega);have q7i:(q:Int)<7:=by omega
 have r0i:¬ ((r:Int)<0):=by omega
 have l4:rX s p=(s q).getLsbD r:=by unfold rX;rw[<-hq, <-hr]
 rw[l4];clear l4 hq hr h;go_enter Tryz.func113,Tryz.ntmps113;go_wp2;go_ret;exact⟨congrArg (fun b=>Ending.returned (.bool b)) (yR (s q) r),rfl⟩
theorem zh (s:Nat->BitVec 64) (b off p:Nat) (hp:p<448) (w:World) (h:fW w b off s) (hz:w.frozen? ⟨b,off+p/64,none⟩=false): ag 123 #[.pointer (some ⟨b,off,none⟩),.int .i64 p] w fun e w'=>(∃ u,e=.returned u)/\ae (· <w.heap.size) (w.setCell ⟨b,off+p/64,none⟩ (.int .u64 (jE s p (p/64)).toNat)) w':=by
 obtain⟨q,hq⟩:=ah (p/64);obtain⟨r,hr⟩:=ah (p%64);have OT:q<7:=by omega
 have OU:r<64:=by omega
 have hpw:jE s p (p/64)=s q ||| BitVec.twoPow 64 r:=by unfold jE;rw[if_pos rfl, <-hq, <-hr];rfl
 rw[hpw];rw[<-hq]at hz ⊢;have c1:w.cell? ⟨b,off+q,none⟩=some (.int .u64 (s q).toNat):=h.2 q OT;have e1:(p:Int).tdiv 64=(q:Int):=by rw[Int.tdiv_eq_ediv_of_nonneg (by omega)];omega
 have e2:(p:Int).tmod 64=(r:Int):=by rw[Int.tmod_eq_emod_of_nonneg (by omega)];omega
 have w1:IntKind.i64.wrap (q:Int)=q:=IntWalk.i64_in _ (by omega);have w2:IntKind.i64.wrap (r:Int)=r:=IntWalk.i64_in _ (by omega);have q7i:(q:Int)<7:=by omega
 have r0i:¬ ((r:Int)<0):=by omega
 have q0i:¬ ((q:Int)<0):=by omega
 have kh:=FU (s q) OU;have H:=hid h;have HZ:=hid hz;clear hq hr h hpw hz;go_enter Tryz.func123,Tryz.ntmps123;go_wp2;refine aM false (fun _=>False) (by kernel_rfl) 11 [0,0,2,1,15,31,0,64,192,511,1,2047,4095] (fun i=>i==12) (by kernel_rfl) (fun _=>aR.any _) ?_;intro C hC hne;have HC:=hid hC;have f1:=aF hC (p:=⟨b,off+q,none⟩) H.1 (fun h=>h) c1;clear hC c1
 repeat (refine ak (fun K hK=>?_);first | (refine cQ rfl ?_;try go_simp;refine hK _ _ ?_;clear hK K) | (refine bV rfl rfl ?_;unfold aB;go_simp;refine hK _ _ ?_;clear hK K))
 refine cg (fun W hW hH=>?_);have hM:=((HC W).1 hW);have HX:=hid hM.below;have c2:W.cell? ⟨b,off+q,none⟩=some (.int .u64 (s q).toNat):=(hM.keeps.cell (p:=⟨b,off+q,none⟩) ⟨H.1,fun h=>h⟩).trans (H.2 q OT);have z2:W.frozen? ⟨b,off+q,none⟩=false:=by
  have e:W.heap[b]? =w.heap[b]? :=hM.keeps.keep b ⟨H.1,fun h=>h⟩;have e3:=HZ.out;unfold World.frozen? at e3 ⊢;rw[e];exact e3
 clear hM hW hH HC hne f1;go_wp2;have hval:((s q).toNat ||| 2^r%18446744073709551616)=(s q ||| BitVec.twoPow 64 r).toNat:=by rw[BitVec.toNat_or,BitVec.toNat_twoPow]
 refine bodyPost_end (v:=.tuple #[]) (by simp[results,Tryz.results123,go_sem]) rfl ⟨⟨_,rfl⟩,?_⟩;rw[hval];exact oP (ae.ai HX fun _ h=>h) _ _
def fL (w:World) (g off:Nat) (z:Nat->BitVec 64):Nat->World
 | 0=>w
 | i+1=>(fL w g off z i).setCell ⟨g,off+i,none⟩ (.int .u64 (z i).toNat)
theorem cN (w:World) (g off:Nat) (z:Nat->BitVec 64):∀ i,ae (· ≠g) w (fL w g off z i)
 | 0=>ae.refl _ _
 | i+1=>(cN w g off z i).setCell (fun h=>h rfl) _
theorem nw (w:World) (g off:Nat) (z:Nat->BitVec 64) {j:Nat} {v:Value} (h:w.cell? ⟨g,j,none⟩=some v):∀ i,(off+i<=j)->(fL w g off z i).cell? ⟨g,j,none⟩=some v
 | 0,_=>h
 | i+1,hj=>by
  have ih:=nw w g off z h i (by omega);exact(World.cell?_setCell_other _ _ _ _ (by intro e;injection e with _ e2;omega)).trans ih
theorem oQ (w:World) (g off:Nat) (z:Nat->BitVec 64) {j:Nat} (h:w.frozen? ⟨g,j,none⟩=false):∀ i,(fL w g off z i).frozen? ⟨g,j,none⟩=false
 | 0=>h
 | i+1=>by
  have ih:=oQ w g off z h i;show((fL w g off z i).setCell _ _).frozen? _=false;rw[World.frozen?_setCell];exact ih
theorem jH (s c:Nat->BitVec 64) (b off:Nat) (w:World) (h:fW w b off s) (hz:∀ i,i<7->w.frozen? ⟨b,off+i,none⟩=false): ag 127 #[.pointer (some ⟨b,off,none⟩),.agg (cE c)] w fun e w'=>(∃ u,e=.returned u)/\ae (· <w.heap.size) (fL w b off (fun i=>s i ||| c i) 7) w':=by
 have H:=hid h;have HZ:=hid hz;have Ms:=h.1;obtain⟨z,hz0⟩:=ah (fun i=>s i ||| c i:Nat->BitVec 64);rw[<-hz0];have HZ0:=hid hz0;clear h hz hz0;obtain⟨cv,hcv⟩:=ah (cE c);rw[<-hcv];have HCV:=hid hcv;clear hcv;unfold cE at HCV;rw[HCV.out];go_enter Tryz.func127,Tryz.ntmps127;go_wp2;refine ax ?_;intro V hV;have B1:Hid (aq V w.heap.size (cE c) 140):=by rw[hV];exact hid (aq.new _ _ _)
 have X1:Hid (ae (· <w.heap.size) w V):=by rw[hV];exact hid ((Ext.refl _).alloc _).keeps
 have uH:V.heap.size=w.heap.size+1:=by rw[hV];simp
 clear hV;go_loopw [5] (fun iv wr=>∃ i:Nat,i<=7/\iv=.int .i64 i/\aq wr w.heap.size (cE c) 140/\ae (· <w.heap.size) (fL w b off z i) wr) (fun iv _=>7-(intOf iv).toNat);case atStart=>exact⟨0,by omega,rfl,B1,X1⟩
 case round=>
  obtain⟨i,hi,rfl,hb,hx⟩:=hrel;obtain⟨wo,rfl⟩:=ah (wr:World);have HB:=hid hb;have HX:=hid hx;clear hb hx;by_cases hlt:i<7
  ·have eT:(i:Int)<7:=by omega
   have c1:wo.cell? ⟨b,off+i,none⟩=some (.int .u64 (s i).toNat):=(HX.cell (p:=⟨b,off+i,none⟩) Ms).trans (nw w b off z (H.2 i hlt) i (aD _));have c2:wo.cell? ⟨w.heap.size,i,none⟩=some (.int .u64 (c i).toNat):=(HB.cell i).trans (kQ c hlt);have z1:wo.frozen? ⟨b,off+i,none⟩=false:=by have e:wo.heap[b]? =(fL w b off z i).heap[b]? :=HX.keep b Ms;have e3:=oQ w b off z (HZ i hlt) i;unfold World.frozen? at e3 ⊢;rw[e];exact e3
   have Ro:b<wo.heap.size:=aw Ms (Nat.le_trans (cN w b off z i).size HX.size);have Z1:=hid z1;clear z1;go_upto_region 4 with fail
   refine aM false (fun _=>False) (by kernel_rfl) 10 [0,0,1,7,15,0,32,96,255,1,1023,2047] (fun i=>i==11) (by kernel_rfl) (fun _=>aR.any _) ?_;intro C hC hne;have HC:=hid hC;have f1:=aF hC (p:=⟨b,off+i,none⟩) Ro (fun h=>h) c1;have f2:=aF hC (p:=⟨w.heap.size,i,none⟩) HB.lt (fun h=>h) c2;clear hC c1 c2
   repeat (refine ak (fun K hK=>?_);first | (refine cQ rfl ?_;try go_simp;refine hK _ _ ?_;clear hK K) | (refine bV rfl rfl ?_;unfold aB;go_simp;refine hK _ _ ?_;clear hK K))
   refine cg (fun W hW hH=>?_);have hM:=((HC W).1 hW);have KX:Hid (ae (· <wo.heap.size) wo W):=hid (hM.keeps.mono fun k hk=>⟨hk,fun h=>h⟩);have z2:W.frozen? ⟨b,off+i,none⟩=false:=by
    have e:W.heap[b]? =wo.heap[b]? :=KX.keep b Ro;have e3:=Z1.out;unfold World.frozen? at e3 ⊢;rw[e];exact e3
   have c3:W.cell? ⟨b,off+i,none⟩=some (.int .u64 (s i).toNat):=(KX.cell (p:=⟨b,off+i,none⟩) Ro).trans ((HX.cell (p:=⟨b,off+i,none⟩) Ms).trans (nw w b off z (H.2 i hlt) i (aD _)));clear hM hW hH HC hne f1 f2;go_wp2;go_roundw;case rel=>
    refine⟨i+1,by omega,by go_num,?_,?_⟩
    ·exact(HB.keeps KX HB.lt).other (by show b≠_;omega) _
    ·rw[zJ]
     have e:(s i ||| c i)=z i:=by rw[HZ0.out]
     rw[e];exact oP (HX.tr (KX.mono fun k hk=>by have h1:=HX.size;have h2:=(cN w b off z i).size;have h3:k<w.heap.size:=hk;omega)) _ _
   case measure=>simp[intOf];omega
  ·obtain rfl:i=7:=by omega
   have eT:¬ (((7:Nat):Int)<7):=by omega
   go_wp2;refine bodyPost_end (v:=.tuple #[]) (by simp[results,Tryz.results127,go_sem]) rfl ⟨⟨_,rfl⟩,HX⟩
attribute [local go_sem] Oper.semAt_some eU cJ
theorem zi (s:Nat->BitVec 64) (B b off:Nat) (w:World) (hB:aq w B #[.pointer (some ⟨b,off,none⟩)] 175) (hb0:fW w b off s):Seq true Tryz.prog 131 #[.pointer (some ⟨B,0,none⟩)] (fun p:Nat=> #[.int .i64 (p:Int)]) (fun k=>k=B\/k=b) (dN s 448) w:=by
 intro l J Jx W hK hJ NC hY h0;have HY:=hid hY;have HH:=hid (Ld s b off);clear hY;have B0:=hB.keeps hK hB.lt;have B1:=hb0.keeps hK hb0.1;clear hB hb0;refine callsIn_wide (n:=0).1 ?_;refine callsIn_of_wp Tryz.func131 rfl trivial ?_ rfl;simp only[Tryz.ntmps131,List.size_toArray,List.length_cons,List.length_nil,Nat.reduceAdd,Nat.reduceSub,Array.replicate_succ,Array.replicate_zero,List.push_toArray,List.append_toArray,List.nil_append,List.cons_append]
 gi_wp2
 gi_loopw [4] (fun i wr=>∃ (k:Nat) (T:Nat->Prop),k<=448/\i=.int .i64 k/\aq wr B #[.pointer (some ⟨b,off,none⟩)] 175/\fW wr b off s/\J (dN s k) T wr/\(∀ k,T k->W.heap.size<=k/\k<wr.heap.size)/\ae (fun k=>k=B\/k=b) W wr)
  (fun i _=>448-(intOf i).toNat)
 case atStart=>
  exact⟨0,fun _=>False,by omega,rfl,B0,B1,h0,fun _ h=>h.elim,ae.refl _ _⟩
 case round=>
  obtain⟨k,T,hk,rfl,hB,hb,hj,hT,hR⟩:=hrel;by_cases hlt:k<448
  ·have c0:wr.cell? ⟨B,0,none⟩=some (.pointer (some ⟨b,off,none⟩)):=hB.cell 0
   have Ta:=hid hB;have HB:=hid hb;have HJ:=hid hj;have HT:=hid hT;have HR:=hid hR;clear hB hb hj hT hR B0 B1;have bF:=rZ s k;by_cases kE:rX s k=true
   ·rw[if_pos kE]at bF
    have HP:=hid bF;have Mr:dN s k++ [k]<+:dN s 448:=by rw[<-bF];exact td s (by omega)
    have yw:=hid Mr;have h1:ag 113 #[.pointer (some ⟨b,off,none⟩),.int .i64 k] wr fun e w'=>e=.returned (.bool true)/\w'=wr:=by have:=HH.out k hlt wr HB;rwa[kE]at this
    have H1:=hid h1;clear bF Mr h1 kE HH
    gi_wp2_with (gi_at_call 113;refine(callsIn_wide.2 H1).mono ?_;rintro e w1 ⟨rfl,hw⟩;replace hw:=hw.symm;subst hw;obtain⟨fn,tm,ym,bd,hy,sN⟩:=HY.out (dN s k) k T _ yw HT HR HJ;have BQ:=hid sN;clear sN)
    refine BQ.mono ?_;rintro e W2 (⟨rfl,fC,hk2⟩ | ⟨rfl,fC,hk2⟩)
    ·have mD:=hid fC
     have jO:=hid hk2;clear fC hk2 hy
     gi_wp2
     go_roundw
     case rel=>
      refine⟨k+1,T,by omega,by go_num,?_,?_,?_,?_,?_⟩
      ·exact Ta.keeps jO (.inl (.inl rfl))
      ·exact HB.keeps jO (.inl (.inr rfl))
      ·rw[HP.out];exact mD
      ·exact fun j hj=>⟨(HT j hj).1,aw (HT j hj).2 jO.size⟩
      ·exact HR.tr (jO.mono fun j hj=>.inl hj)
     case measure=>simp[intOf];omega
    ·have mD:=hid fC
     have jO:=hid hk2;clear fC hk2 hy
     gi_wp2
     refine bodyPost_ret (results_none rfl _ _ _) rfl ?_;exact⟨⟨_,rfl⟩,T,fun j hj=>⟨(HT j hj).1,aw (HT j hj).2 jO.size⟩,.inr ⟨_,yw,mD⟩⟩
   ·have sO:rX s k=false:=by simpa using kE
    rw[if_neg kE,List.append_nil]at bF;have HP:=hid bF;have h1:ag 113 #[.pointer (some ⟨b,off,none⟩),.int .i64 k] wr fun e w'=>e=.returned (.bool false)/\w'=wr:=by have:=HH.out k hlt wr HB;rwa[sO]at this
    have H1:=hid h1;clear bF h1 kE sO HH
    gi_wp2_with (gi_at_call 113;refine(callsIn_wide.2 H1).mono ?_;rintro e w1 ⟨rfl,hw⟩;replace hw:=hw.symm;subst hw)
    go_roundw
    case rel=>
     refine⟨k+1,T,by omega,by go_num,Ta,HB,?_,HT,HR⟩;rw[HP.out];exact HJ
    case measure=>simp[intOf];omega
  ·obtain rfl:k=448:=by omega
   gi_wp2
   refine bodyPost_end (results_none rfl _ _ _) rfl ?_;exact⟨⟨_,rfl⟩,T,hT,.inl hj⟩
theorem vT (b off:Nat) (w:World):ag 95 #[.pointer (some ⟨b,off,none⟩)] w fun e w'=>e=.returned (.func (.func 131) #[] #[.pointer (some ⟨w.heap.size,0,none⟩)])/\w'=w.alloc (.cells #[.pointer (some ⟨b,off,none⟩)] 175 (0,0)):=by
 go_enter Tryz.func95,Tryz.ntmps95
 go_wp2;go_ret;exact⟨rfl,rfl⟩
theorem GU (s:Nat->BitVec 64) (b off:Nat) (w:World) (hb:fW w b off s): ag 64 #[.pointer (some ⟨b,off,none⟩)] w fun e w'=>∃ v,e=.returned v/\w'.ownsRow w.heap.size 3 1 v (dN s 448).length ((dN s 448).map vJ)/\aa w w':=by
 have eg:∀ args w,(callFunc 131 args).run Tryz.prog w=.ok (.enter 131 args) w:=enters_of Tryz.func131 (by kernel_rfl) rfl;have hlen:(dN s 448).length<=1000000:=Nat.le_trans (DD _ _) (by decide);have H:Hid (∀ (W:World) (B:Nat),aq W B #[.pointer (some ⟨b,off,none⟩)] 175->fW W b off s->ag 94 #[.func (.func 131) #[] #[.pointer (some ⟨B,0,none⟩)]] W fun e w'=>∃ v,e=.returned v/\w'.ownsRow W.heap.size 3 1 v (dN s 448).length ((dN s 448).map vJ)/\aa W w'):=
  fun W B hB hb=>qM _ W (zi s B b off W hB hb) eg (fun k hk=>hk.elim (fun e=>by rw[e];exact hB.lt) (fun e=>by rw[e];exact hb.1)) hlen
 have HB:=hid hb;clear eg hlen hb;generalize dN s 448=xs at H ⊢;go_enter Tryz.func64,Tryz.ntmps64;go_wp2_with (first | (go_at_call 95;refine(vT b off _).mono ?_;rintro e w1 ⟨rfl,rfl⟩) | (go_at_call 94;refine(H _ _ ((aq.new _ _ _).at (by simp)) (HB.keeps ((Ext.refl _).alloc _).keeps HB.1)).mono ?_;rintro e w1 ⟨v,rfl,h1,h2⟩;have H1:=hid h1;have H2:=hid h2;clear h1 h2));go_ret;refine⟨v,rfl,aG H1 (by simp),?_⟩;exact((Ext.refl w).alloc _).below.trans (H2.mono (by simp))
end
section
open Go Go.RowKit Go.Shelf Go.Maps
def bW (x:PB):Nat->BitVec 64:=fun i=>x.extractLsb' (64*i) 64
theorem vU (x y:PB) (i:Nat):bW (x ||| y) i=bW x i ||| bW y i:=by unfold bW;apply BitVec.eq_of_getLsbD_eq;intro j hj;simp[hj]
theorem Pj (x:PB) {p:Nat} :rX (bW x) p=x.getLsbD p:=by unfold rX bW;rw[BitVec.getLsbD_extractLsb'];have h1:p%64<64:=Nat.mod_lt _ (by decide);rw[show 64*(p/64)+p%64=p by omega];simp[h1]
theorem Pk (x:PB) {p:Nat} (hp:p<448) (i:Nat):bW (x ||| eQ p) i=jE (bW x) p i:=by
 apply BitVec.eq_of_getLsbD_eq;intro j hj;have e1:(bW (x ||| eQ p) i).getLsbD j=(x ||| eQ p).getLsbD (64*i+j):=by unfold bW;rw[BitVec.getLsbD_extractLsb'];simp[hj]
 have e2:(bW x i).getLsbD j=x.getLsbD (64*i+j):=by unfold bW;rw[BitVec.getLsbD_extractLsb'];simp[hj]
 rw[e1,BitVec.getLsbD_or,Jf];unfold jE;by_cases hi:i=p/64
 ·rw[if_pos hi,BitVec.getLsbD_or,e2]
  congr 1
  rw[BitVec.getLsbD_shiftLeft];by_cases h:64*i+j=p
  ·have fC:j=p%64:=by omega
   have h4:64*i+j<448:=by omega
   rw[decide_eq_true h4,decide_eq_true h,decide_eq_true hj,fC];simp
  ·by_cases h5:j<p%64
   ·simp[h,h5]
   ·have h6:j-p%64≠0:=by omega
    simp[h,h5,h6,hj]
 ·rw[if_neg hi,e2]
  have h:64*i+j≠p:=by omega
  simp[h]
theorem Le (x:PB):(dN (bW x) 448).map Int.ofNat=eh x:=by unfold dN eh;congr 1;exact List.filter_congr fun p _=>Pj x
def az (a:GP):Array Value:= #[.int .u64 (bW a.fst 0).toNat,.int .u64 (bW a.fst 1).toNat,.int .u64 (bW a.fst 2).toNat,.int .u64 (bW a.fst 3).toNat,.int .u64 (bW a.fst 4).toNat,.int .u64 (bW a.fst 5).toNat,.int .u64 (bW a.fst 6).toNat,
 .int .u64 (bW a.cS 0).toNat,.int .u64 (bW a.cS 1).toNat,.int .u64 (bW a.cS 2).toNat,.int .u64 (bW a.cS 3).toNat,.int .u64 (bW a.cS 4).toNat,.int .u64 (bW a.cS 5).toNat,.int .u64 (bW a.cS 6).toNat,.bool a.emp]
theorem Lf (a:GP) {i:Nat} (hi:i<7):(az a)[i]? =some (.int .u64 (bW a.fst i).toNat):=by
 match i,hi with
 | 0,_=>rfl
 | 1,_=>rfl
 | 2,_=>rfl
 | 3,_=>rfl
 | 4,_=>rfl
 | 5,_=>rfl
 | 6,_=>rfl
theorem Lg (a:GP) {i:Nat} (hi:i<7):(az a)[7+i]? =some (.int .u64 (bW a.cS i).toNat):=by
 match i,hi with
 | 0,_=>rfl
 | 1,_=>rfl
 | 2,_=>rfl
 | 3,_=>rfl
 | 4,_=>rfl
 | 5,_=>rfl
 | 6,_=>rfl
theorem fW.fst {w:World} {b:Nat} {a:GP} {t:TypeId} (h:aq w b (az a) t):fW w b 0 (bW a.fst):=⟨h.lt,fun i hi=>by rw[Nat.zero_add];exact(h.cell i).trans (Lf a hi)⟩
theorem fW.cS {w:World} {b:Nat} {a:GP} {t:TypeId} (h:aq w b (az a) t):fW w b 7 (bW a.cS):=⟨h.lt,fun _ hi=>(h.cell _).trans (Lg a hi)⟩
theorem Pm (v0 v1 v2 v3 v4 v5 v6 v7 v8 v9 v10 v11 v12 v13 v14 u0 u1 u2 u3 u4 u5 u6:Value) {w:World} {b:Nat} {t:TypeId} (h:aq w b #[v0,v1,v2,v3,v4,v5,v6,v7,v8,v9,v10,v11,v12,v13,v14] t):aq (((((((w.setCell ⟨b,0,none⟩ u0).setCell ⟨b,1,none⟩ u1).setCell ⟨b,2,none⟩ u2).setCell ⟨b,3,none⟩ u3).setCell ⟨b,4,none⟩ u4).setCell ⟨b,5,none⟩ u5).setCell ⟨b,6,none⟩ u6) b #[u0,u1,u2,u3,u4,u5,u6,v7,v8,v9,v10,v11,v12,v13,v14] t:=by have h0:=h.iY 0 u0 (c':= #[u0,v1,v2,v3,v4,v5,v6,v7,v8,v9,v10,v11,v12,v13,v14]) rfl;have h1:=h0.iY 1 u1 (c':= #[u0,u1,v2,v3,v4,v5,v6,v7,v8,v9,v10,v11,v12,v13,v14]) rfl;have h2:=h1.iY 2 u2 (c':= #[u0,u1,u2,v3,v4,v5,v6,v7,v8,v9,v10,v11,v12,v13,v14]) rfl;have h3:=h2.iY 3 u3 (c':= #[u0,u1,u2,u3,v4,v5,v6,v7,v8,v9,v10,v11,v12,v13,v14]) rfl;have h4:=h3.iY 4 u4 (c':= #[u0,u1,u2,u3,u4,v5,v6,v7,v8,v9,v10,v11,v12,v13,v14]) rfl;have h5:=h4.iY 5 u5 (c':= #[u0,u1,u2,u3,u4,u5,v6,v7,v8,v9,v10,v11,v12,v13,v14]) rfl;have h6:=h5.iY 6 u6 (c':= #[u0,u1,u2,u3,u4,u5,u6,v7,v8,v9,v10,v11,v12,v13,v14]) rfl;exact h6
theorem Pn (v0 v1 v2 v3 v4 v5 v6 v7 v8 v9 v10 v11 v12 v13 v14 u0 u1 u2 u3 u4 u5 u6:Value) {w:World} {b:Nat} {t:TypeId} (h:aq w b #[v0,v1,v2,v3,v4,v5,v6,v7,v8,v9,v10,v11,v12,v13,v14] t):aq (((((((w.setCell ⟨b,7,none⟩ u0).setCell ⟨b,8,none⟩ u1).setCell ⟨b,9,none⟩ u2).setCell ⟨b,10,none⟩ u3).setCell ⟨b,11,none⟩ u4).setCell ⟨b,12,none⟩ u5).setCell ⟨b,13,none⟩ u6) b #[v0,v1,v2,v3,v4,v5,v6,u0,u1,u2,u3,u4,u5,u6,v14] t:=by have h0:=h.iY 7 u0 (c':= #[v0,v1,v2,v3,v4,v5,v6,u0,v8,v9,v10,v11,v12,v13,v14]) rfl;have h1:=h0.iY 8 u1 (c':= #[v0,v1,v2,v3,v4,v5,v6,u0,u1,v9,v10,v11,v12,v13,v14]) rfl;have h2:=h1.iY 9 u2 (c':= #[v0,v1,v2,v3,v4,v5,v6,u0,u1,u2,v10,v11,v12,v13,v14]) rfl;have h3:=h2.iY 10 u3 (c':= #[v0,v1,v2,v3,v4,v5,v6,u0,u1,u2,u3,v11,v12,v13,v14]) rfl;have h4:=h3.iY 11 u4 (c':= #[v0,v1,v2,v3,v4,v5,v6,u0,u1,u2,u3,u4,v12,v13,v14]) rfl;have h5:=h4.iY 12 u5 (c':= #[v0,v1,v2,v3,v4,v5,v6,u0,u1,u2,u3,u4,u5,v13,v14]) rfl;have h6:=h5.iY 13 u6 (c':= #[v0,v1,v2,v3,v4,v5,v6,u0,u1,u2,u3,u4,u5,u6,v14]) rfl;exact h6
theorem pH {w:World} {b:Nat} {a:GP} {t:TypeId} (h:aq w b (az a) t) (x:PB) {z:Nat->BitVec 64} (hz:∀ i,i<7->z i=bW x i):aq (fL w b 0 z 7) b (az ⟨x,a.cS,a.emp⟩) t:=by have e0:=hz 0 (by decide);have e1:=hz 1 (by decide);have e2:=hz 2 (by decide);have e3:=hz 3 (by decide);have e4:=hz 4 (by decide);have e5:=hz 5 (by decide);have e6:=hz 6 (by decide);unfold az at h ⊢;dsimp only at h ⊢;rw[<-e0, <-e1, <-e2, <-e3, <-e4, <-e5, <-e6];clear e0 e1 e2 e3 e4 e5 e6 hz;exact Pm _ _ _ _ _ _ _ _ _ _ _ _ _ _ _ _ _ _ _ _ _ _ h
theorem pI {w:World} {b:Nat} {a:GP} {t:TypeId} (h:aq w b (az a) t) (x:PB) {z:Nat->BitVec 64} (hz:∀ i,i<7->z i=bW x i):aq (fL w b 7 z 7) b (az ⟨a.fst,x,a.emp⟩) t:=by have e0:=hz 0 (by decide);have e1:=hz 1 (by decide);have e2:=hz 2 (by decide);have e3:=hz 3 (by decide);have e4:=hz 4 (by decide);have e5:=hz 5 (by decide);have e6:=hz 6 (by decide);unfold az at h ⊢;dsimp only at h ⊢;rw[<-e0, <-e1, <-e2, <-e3, <-e4, <-e5, <-e6];clear e0 e1 e2 e3 e4 e5 e6 hz;exact Pn _ _ _ _ _ _ _ _ _ _ _ _ _ _ _ _ _ _ _ _ _ _ h
def et (l:List PB):List Value:=l.flatMap fun x=>(cE (bW x)).toList
theorem vV:∀ {l:List PB} {p i:Nat} {x:PB},l[p]? =some x->i<7->(et l)[p*7+i]? =some (.int .u64 (bW x i).toNat)
 | y::l,0,_,x,h,hi=>by
  simp at h;subst h;unfold et;rw[List.flatMap_cons,bJ (by simp[cE];omega),Nat.zero_mul,Nat.zero_add];have:=kQ (bW y) hi;simpa using this
 | y::l,p+1,i,x,h,hi=>by
  have ih:=vV (l:=l) (p:=p) (i:=i) (x:=x) (by simpa using h) hi;unfold et at ih ⊢;rw[List.flatMap_cons,cZ (by simp[cE];omega)];rw[<-ih];congr 1;simp[cE];omega
theorem AG (a b:List PB):et (a++b)=et a++et b:=by unfold et;rw[List.flatMap_append]
attribute [local go_sem] Oper.semAt_some eU cJ
structure fO (base M:Nat) (F:Nat->Prop) (w:World) (m:GM):Prop where
 fm:F M
 lt:∀ x,F x->base<=x/\x<w.heap.size
 row:∃ sv fv,aq w M #[sv,fv] 138/\w.ownsRow base 37 4 sv m.aL.length (aN m.aL)/\(∀ x,sv.ownBlock=some x->F x)/\w.ownsRow base 140 7 fv m.cG.length (et m.cG)/\(∀ x,fv.ownBlock=some x->F x)
theorem fO.keeps {base M:Nat} {F R:Nat->Prop} {w w':World} {m:GM} (h:fO base M F w m) (hk:ae R w w') (hR:∀ x,F x->R x):fO base M F w' m:=by obtain⟨sv,fv,h1,h2,h3,h4,h5⟩:=h.row;exact⟨h.fm,fun x hx=>⟨(h.lt x hx).1,aw (h.lt x hx).2 hk.size⟩,sv,fv,h1.keeps hk (hR M h.fm),au h2 hk fun x e=>hR x (h3 x e),h3,au h4 hk fun x e=>hR x (h5 x e),h5⟩
theorem zj:∀ {l:List PB} {p:Nat} (y:PB),p<l.length->((((((((et l).set (p*7) (.int .u64 (bW y 0).toNat)).set (p*7+1) (.int .u64 (bW y 1).toNat)).set (p*7+2) (.int .u64 (bW y 2).toNat)).set (p*7+3) (.int .u64 (bW y 3).toNat)).set (p*7+4) (.int .u64 (bW y 4).toNat)).set (p*7+5) (.int .u64 (bW y 5).toNat)).set (p*7+6) (.int .u64 (bW y 6).toNat))=et (l.set p y)
 | x::l,0,y,_=>by
  unfold et;rw[List.set_cons_zero,List.flatMap_cons,List.flatMap_cons];simp[cE]
 | x::l,p+1,y,hp=>by
  have ih:=zj (l:=l) (p:=p) y (by simpa using hp);have e:∀ (l:List PB),et (x::l)=(cE (bW x)).toList++et l:=fun l=>by unfold et;rw[List.flatMap_cons]
  rw[List.set_cons_succ,e,e, <-ih];have h7:(cE (bW x)).toList.length=7:=by simp[cE]
  have hs:∀ (ys:List Value) (j:Nat) (v:Value),((cE (bW x)).toList++ys).set (7+j) v=(cE (bW x)).toList++ys.set j v:=fun ys j v=>by
   rw[List.set_append_right _ _ (by omega),h7,Nat.add_sub_cancel_left]
  rw[show(p+1)*7=7+p*7 by omega,hs,show 7+p*7+1=7+(p*7+1) by omega,hs,show 7+p*7+2=7+(p*7+2) by omega,hs,show 7+p*7+3=7+(p*7+3) by omega,hs,show 7+p*7+4=7+(p*7+4) by omega,hs,show 7+p*7+5=7+(p*7+5) by omega,hs,show 7+p*7+6=7+(p*7+6) by omega,hs]
theorem fO.or {base M:Nat} {F:Nat->Prop} {w:World} {m:GM} (h:fO base M F w m) {sv:Value} {g n cap:Nat} (hg:aq w M #[sv,.slice (some ⟨g,0,none⟩) n cap] 138) {p:Nat} (hp:p<m.cG.length) (y:PB) {z:Nat->BitVec 64} (hz:∀ i,i<7->z i=bW y i):fO base M F (fL w g (p*7) z 7) ⟨m.aL,m.cG.set p y⟩:=by
 obtain⟨WQ,fv,h1,h2,h3,h4,h5⟩:=h.row;have e: #[WQ,fv]= #[sv,.slice (some ⟨g,0,none⟩) n cap]:=by
  unfold aq at h1 hg;rw[h1]at hg;injection hg with h6
  injection h6
 have e2:fv=.slice (some ⟨g,0,none⟩) n cap:=by have:=congrArg (fun a:Array Value=>a[1]?) e;simpa using this
 subst e2;have hk:=cN w g (p*7) z 7;have hgM:g≠M:=fun e3=>by
  rcases h4.2 with⟨e4,_⟩ | ⟨g',c',cur,e4,_,h6,_⟩
  ·cases e4
  ·cases e4
   rw[e3]at h6;unfold aq at h1;rw[h1]at h6;injection h6 with h7
   injection h7 with _ h8
   exact absurd h8 (by decide)
 have hn:n=m.cG.length:=by obtain⟨_,_,e4⟩:=ownsRow_form h4;injection e4
 have hgs:∀ x,WQ.ownBlock=some x->x≠g:=fun x e3 e4=>by
  rcases ownBlock_ne (by decide) h2 h4 with h6 | h6
  ·rw[h6]at e3;cases e3
  ·exact h6 (by rw[e3,e4];rfl)
 refine⟨h.fm,fun x hx=>⟨(h.lt x hx).1,aw (h.lt x hx).2 hk.size⟩,WQ,_,h1.keeps hk (fun e3=>hgM e3.symm),au h2 hk hgs,h3,?_,h5⟩;subst hn;rw[List.length_set, <-zj y hp];have h7:=((((((((((((((h4.stored (p*7+0) (.int .u64 (z 0).toNat)).1).stored (p*7+1) (.int .u64 (z 1).toNat)).1).stored (p*7+2) (.int .u64 (z 2).toNat)).1).stored (p*7+3) (.int .u64 (z 3).toNat)).1).stored (p*7+4) (.int .u64 (z 4).toNat)).1).stored (p*7+5) (.int .u64 (z 5).toNat)).1).stored (p*7+6) (.int .u64 (z 6).toNat)).1);rw[<-hz 0 (by decide), <-hz 1 (by decide), <-hz 2 (by decide), <-hz 3 (by decide), <-hz 4 (by decide), <-hz 5 (by decide), <-hz 6 (by decide)];exact h7
def kT (m:GM) (pre:List Nat) (first:PB):GM:=⟨m.aL,m.cG.mapIdx fun p f=>if pre.contains p then f ||| first else f⟩
theorem Lh (m:GM) (first:PB):kT m [] first=m:=by
 unfold kT;have:m.cG.mapIdx (fun p f=>if([]:List Nat).contains p then f ||| first else f)=m.cG:=by
  apply List.ext_getElem
  ·simp
  ·intro i h1 h2;simp
 rw[this]
theorem zk (m:GM) (pre:List Nat) (first:PB):(kT m pre first).cG.length=m.cG.length:=by unfold kT;simp
theorem GV (m:GM) (pre:List Nat) (first:PB) {p:Nat} {x:PB} (hx:m.cG[p]? =some x):(⟨(kT m pre first).aL,(kT m pre first).cG.set p (x ||| first)⟩:GM)=kT m (pre++ [p]) first:=by
 unfold kT;congr 1;apply List.ext_getElem?;intro j;rw[List.getElem?_set,List.getElem?_mapIdx,List.getElem?_mapIdx];by_cases e:p=j
 ·subst e
  rw[if_pos rfl,hx];have hl:=(List.getElem?_eq_some_iff.1 hx).1;simp[hl]
 ·rw[if_neg e]
  cases m.cG[j]? with
  | none=>rfl
  | some f=>
   have:(pre++ [p]).contains j=pre.contains j:=by rw[Bool.eq_iff_iff];simp;intro e2;exact absurd e2.symm e
   simp only[Option.map_some,this]
theorem Li (m:GM) (last first:PB) (hl:m.cG.length<=448):kT m (dN (bW last) 448) first=iD m last first:=by
 unfold kT iD;congr 1;apply List.ext_getElem
 ·simp
 ·intro i h1 h2
  simp only[List.getElem_mapIdx];have hi:i<448:=by simp at h1;omega
  have:(dN (bW last) 448).contains i=last.getLsbD i:=by rw[Bool.eq_iff_iff,List.contains_iff_mem];unfold dN;rw[List.mem_filter,Pj,List.mem_range];simp[hi]
  rw[this]
theorem kU (base M:Nat) (F:Nat→Prop) (m:GM) (last first:PB) (w:World) (h:fO base M F w m) (hl:dC last m.cG.length) (hn:m.cG.length≤448): ag 149 #[.pointer (some ⟨M,0,none⟩),.agg (cE (bW last)),.agg (cE (bW first))] w fun e w'=>(∃ u,e=.returned u)∧fO base M F w' (iD m last first)∧ae (fun x=>x<w.heap.size∧¬F x) w w':=by
  have H:=hid h;have HL:=hid hl;have UN:M<w.heap.size:=(h.lt M h.fm).2;rw[←Li m last first hn];clear h hl;refine bG Tryz.func149 rfl ?_;simp only[Tryz.ntmps149,List.size_toArray,List.length_cons,List.length_nil,Nat.reduceAdd,Nat.reduceSub,Array.replicate_succ,Array.replicate_zero,List.push_toArray,List.append_toArray,List.nil_append,List.cons_append];go_wp2_with (go_at_call 95;refine(vT _ 0 _).mono ?_;rintro e w1 ⟨rfl,rfl⟩);refine ax ?_;intro W0 hW0;have B0:aq W0 w.heap.size #[.pointer (some ⟨M,0,none⟩)] 135:=by rw[hW0];exact(((aq.new _ _ _).alloc _).alloc _).alloc _
  have B1:aq W0 (w.heap.size+1) (cE (bW last)) 140:=by rw[hW0];exact(((aq.new _ _ _).at (by simp)).alloc _).alloc _
  have B2:aq W0 (w.heap.size+1+1) (cE (bW first)) 140:=by rw[hW0];exact((aq.new _ _ _).at (by simp)).alloc _
  have B3:aq W0 (w.heap.size+1+1+1) #[.pointer (some ⟨w.heap.size+1,0,none⟩)] 175:=by rw[hW0];exact(aq.new _ _ _).at (by simp)
  have hx:Ext w W0:=by rw[hW0];exact((((Ext.refl w).alloc _).alloc _).alloc _).alloc _
  have hsz:W0.heap.size=w.heap.size+1+1+1+1:=by rw[hW0];simp
  clear hW0;have hF:∀ x,F x→x<w.heap.size:=fun x hx=>(H.lt x hx).2
  have HND:Hid (∀ (pre:List Nat) (x:Nat),pre++ [x]<+:dN (bW last) 448→pre.contains x=false∧x<m.cG.length):=hid fun pre x hp=>by
    have Im:(dN (bW last) 448).Nodup:=List.nodup_range.filter _;have h2:=Im.sublist hp.sublist;refine⟨?_,?_⟩
    · rw[Bool.eq_false_iff]
      intro e;rw[List.contains_iff_mem]at e;exact(List.nodup_append.1 h2).2.2 x e x (by simp) rfl
    · have hm:x∈dN (bW last) 448:=hp.subset (by simp)
      unfold dN at hm;have:=(List.mem_filter.1 hm).2;rw[Pj]at this;exact HL x this
  have HF:=hid hF;have HMi:=hid (H.keeps hx.keeps hF);have BH:ae (fun x=>x<w.heap.size∧¬F x) w W0:=hx.mono fun x hx=>hx.1
  have eg:∀ args w,(callFunc 131 args).run Tryz.prog w=.ok (.enter 131 args) w:=enters_of Tryz.func131 (by kernel_rfl) rfl
  refine ig (w:=W0) (d:=true) (zi (bW last) (w.heap.size+1+1+1) (w.heap.size+1) 0 W0 B3 (fW.Ph B1)) (by rfl) eg (by intro _;rfl) (by intro k hk;rcases hk with hk | hk<;>omega)
    (fun pre _ W=>fO base M F W (kT m pre first)∧aq W w.heap.size #[.pointer (some ⟨M,0,none⟩)] 135∧aq W (w.heap.size+1+1) (cE (bW first)) 140∧ae (fun x=>x<w.heap.size∧¬F x) w W)
    (fun _ _ _ _=>False)
    (fun ys T T' W W' ⟨h1,h2,h3,h4⟩ hT Iy hs hn hk=>⟨h1.keeps hk.1 fun x hx=>⟨(h1.lt x hx).2,fun e=>by have:=(hT x e).1;have:=HF.out x hx;omega⟩,h2.gT hT hk (by omega),h3.gT hT hk (by omega),h4.tr (hk.1.mono fun x hx=>⟨by have:=h4.size;have:=hx.1;omega,fun e=>by have:=(hT x e).1;have:=hx.1;omega⟩)⟩)
    (fun c ys T T' W W' h=>h.elim)
    ⟨by rw[Lh];exact HMi,B0,B2,BH⟩
    (fun x=>⟨#[.pointer (some ⟨M,0,none⟩),.agg (cE (bW last)),.agg (cE (bW first)),.pointer (some ⟨w.heap.size,0,none⟩),.pointer (some ⟨w.heap.size+1,0,none⟩),.pointer (some ⟨w.heap.size+1+1,0,none⟩),.int .i64 (x:Int),.func (.func 131) #[] #[.pointer (some ⟨w.heap.size+1+1+1,0,none⟩)],.int .i64 (x:Int),undef,undef,undef,undef,undef,undef,undef,undef],[]⟩) ?assign ?body ?done ?stop
  case assign=>
    intro l x W K hK
    gi_wp2
    exact hK
  case body=>
    rintro lr pre x T W bF hT hR rE hl ⟨i1,i2,i3,i4⟩;obtain⟨hnc,MH⟩:=HND.out pre x bF;obtain⟨f,hf⟩:∃ f,m.cG[x]? =some f:=⟨_,aC MH⟩;have zS:(kT m pre first).cG[x]? =some f:=by show(m.cG.mapIdx _)[x]? =_;rw[List.getElem?_mapIdx,hf];simp only[Option.map_some];rw[hnc];rfl
    obtain⟨sv,fv,r1,r2,r3,r4,r5⟩:=i1.row;have hll:(kT m pre first).cG.length=m.cG.length:=zk _ _ _;rw[hll]at r4
    obtain⟨g,cap,rfl⟩:∃ g cap,fv=.slice (some ⟨g,0,none⟩) m.cG.length cap:=by
      rcases r4.2 with⟨_,e2⟩ | ⟨g,cap,cur,e2,_⟩
      · exfalso;omega
      · exact⟨g,cap,e2⟩
    have hFg:F g:=r5 g rfl;have hgw:g<w.heap.size:=HF.out g hFg;have hFM:F M:=i1.fm
    have hgM:M≠g:=fun e=>by
      subst e;rcases r4.2 with⟨e4,_⟩ | ⟨g',c',cur,e4,_,h6,_⟩
      · cases e4
      · cases e4
        unfold aq at r1;rw[r1]at h6;injection h6 with h7
        injection h7 with _ h8
        exact absurd h8 (by decide)
    have hwd:fW W g (x*7) (bW f):=⟨(i1.lt g hFg).2,fun i hi=>by
      have:=r4.cells (g:=g) rfl _ _ (vV zS hi);rw[Addr.add_mid]at this
      simpa using this⟩
    have hfz:∀ i,i<7→W.frozen? ⟨g,x*7+i,none⟩=false:=fun i _=>r4.frozenAt _
    have xo:w.heap.size+1+1+1+1≤W.heap.size:=by have:=hR.size;omega
    have q0:W.cell? ⟨w.heap.size,0,none⟩=some (.pointer (some ⟨M,0,none⟩)):=i2.cell 0;have q1:W.cell? ⟨M,1,none⟩=some (.slice (some ⟨g,0,none⟩) m.cG.length cap):=r1.cell 1;have Zh:(x:Int)<m.cG.length:=by omega
    have I1:=hid i1;have I2:=hid i2;have I3:=hid i3;have I4:=hid i4;have R1:=hid r1;have HWD:=hid hwd;have HFZ:=hid hfz;have HT:=hid hT;have alW:=hid zS;have HFX:=hid hf;have hb3:=i3;obtain⟨nf,ox⟩:=ah m.cG.length;rw[←ox]at q1 Zh R1;have Je:=hid ox;clear i1 i2 i3 i4 r1 r2 r3 r4 r5 hwd hfz hT hR rE hl bF zS hf hll ox B0 B1 B2 B3 BH
    gi_upto_region 3 with fail
    refine rD (fun _=>trivial) rfl (fun k=>k<W.heap.size∧k≠g) (by kernel_rfl) (fun i=>i==7) (by kernel_rfl) ?_;intro C hC hne W2 hK2 hblk afM hx2;have HC:=hid hC;have f0:=dJ hC (p:=⟨w.heap.size,0,none⟩) ⟨I2.lt,by show w.heap.size≠g;omega⟩ q0;have f1:=dJ hC (p:=⟨M,1,none⟩) ⟨R1.lt,hgM⟩ q1;have hb2:w.heap.size+1+1<W.heap.size:=I3.lt;have g0:=dJ hC (p:=⟨w.heap.size+1+1,0,none⟩) ⟨hb2,by show w.heap.size+1+1≠g;omega⟩ (I3.cell 0);have g1:=dJ hC (p:=⟨w.heap.size+1+1,1,none⟩) ⟨hb2,by show w.heap.size+1+1≠g;omega⟩ (I3.cell 1);have g2:=dJ hC (p:=⟨w.heap.size+1+1,2,none⟩) ⟨hb2,by show w.heap.size+1+1≠g;omega⟩ (I3.cell 2);have g3:=dJ hC (p:=⟨w.heap.size+1+1,3,none⟩) ⟨hb2,by show w.heap.size+1+1≠g;omega⟩ (I3.cell 3);have g4:=dJ hC (p:=⟨w.heap.size+1+1,4,none⟩) ⟨hb2,by show w.heap.size+1+1≠g;omega⟩ (I3.cell 4);have g5:=dJ hC (p:=⟨w.heap.size+1+1,5,none⟩) ⟨hb2,by show w.heap.size+1+1≠g;omega⟩ (I3.cell 5);have g6:=dJ hC (p:=⟨w.heap.size+1+1,6,none⟩) ⟨hb2,by show w.heap.size+1+1≠g;omega⟩ (I3.cell 6);simp only[cE,List.getElem?_toArray,List.getElem?_cons_zero,List.getElem?_cons_succ]at g0 g1 g2 g3 g4 g5 g6;have jO:=hid hK2;have ID:=hid hblk;have eW:=hid hx2;clear hC hK2 hblk hx2;refine eJ.out ?_
    repeat (refine ft (fun K hK=>?_);first | (refine lexN rfl ?_;try go_simp;refine hK _ _ ?_;clear hK K) | (refine RF rfl rfl ?_;unfold aB;go_simp;refine hK _ _ ?_;clear hK K))
    refine ft (fun K hK=>?_);refine Nc rfl rfl ?_;go_simp;have afN:fW W2 g (x*7) (bW f):=HWD.keeps eW.keeps HWD.1
    have afO:∀ i,i<7→W2.frozen? ⟨g,x*7+i,none⟩=false:=fun i hi=>by
      have e3:=HFZ.out i hi;unfold World.frozen? at e3 ⊢;rw[ID.out g];exact e3
    refine Cj ((jH (bW f) (bW first) g (x*7) W2 afN afO).mono ?_);rintro e w2 ⟨⟨u,rfl⟩,hx⟩;have WR:=eW.size;have k1:ae (· ≠g) W2 (fL W2 g (x*7) (fun i=>bW f i ||| bW first i) 7):=cN _ _ _ _ _;have k2:ae (fun k=>k<W.heap.size∧k≠g) W w2:=(eW.mono fun k hk=>hk.1:ae (fun k=>k<W.heap.size∧k≠g) W W2).tr ((k1.mono fun k hk=>hk.2).tr (hx.mono fun k hk=>by have:=hk.1;omega));refine⟨_,rfl,(HC _).2 k2,hK _ _ ?_⟩;clear hK K;refine Cn ?_;refine⟨k2.mono fun k hk=>?_,?_,?_,?_,?_⟩
    · rcases hk with(hk | hk) | hk
      · exact⟨by omega,by omega⟩
      · exact⟨by omega,by omega⟩
      · have h9:=HT.out k hk
        exact⟨h9.2,by omega⟩
    · have h9:=(I1.keeps eW.keeps fun x hx=>(I1.lt x hx).2)
      have h8:=h9.or (R1.keeps eW.keeps R1.lt) (p:=x) (by rw[zk];exact MH) (f ||| first) (z:=fun i=>bW f i ||| bW first i) fun i _=>(vU f first i).symm
      rw[GV m pre first HFX.out]at h8;exact h8.keeps hx fun y hy=>by have:=(h9.lt y hy).2;omega
    · exact I2.keeps k2 ⟨I2.lt,by omega⟩
    · exact I3.keeps k2 ⟨I3.lt,by omega⟩
    · exact I4.tr (k2.mono fun k hk=>⟨by have:=hk.1;omega,fun e=>hk.2 (by rw[e];exact hFg)⟩)
  case done=>
    rintro D T W hD rJ hT ⟨i1,i2,i3,i4⟩ jN;have I1:=hid i1;have I4:=hid i4;have HD:=hid hD;have oD:=hid jN;clear i1 i2 i3 i4 rJ hT jN hD B0 B1 B2 B3 BH;dsimp only;go_wp2;have hDw:=HD.out;refine tR rfl oD (results_none rfl _ _ _) ⟨⟨_,rfl⟩,?_,?_⟩
    · exact I1.keeps ((ae.refl (fun x=>x≠D) _).putObj (fun h=>h rfl) _) fun x hx e=>by have:=HF.out x hx;omega
    · exact I4.putObj (fun h=>by have:=h.1;omega) _
  case stop=>rintro D c pre T W _ _ _ _ h _;exact h.elim
end
end Go.Proofs.YtpcmhjbehdgdbaaGreatDoor
