/- Trees that are put together in small steps are clean. -/
import Derived.Test.YtalombmiochpmaaGreatDoorOP17
set_option maxRecDepth 100000
set_option maxHeartbeats 16000000
open Go.Lib (hid)
namespace Go.Proofs.YtalombmiochpmaaGreatDoor
open Go Go.RowKit
def cO (x:PB) (n:Nat):Prop:=∀ p,x.getLsbD p=true->p<n
theorem cO.zero (n:Nat):cO 0 n:=fun p h=>by simp at h
theorem cO.mono {x:PB} {n n':Nat} (h:cO x n) (hn:n<=n'):cO x n':=fun p hp=>Nat.lt_of_lt_of_le (h p hp) hn
theorem cO.or {x y:PB} {n:Nat} (h:cO x n) (h':cO y n):cO (x ||| y) n:=fun p hp=>by
 rw[BitVec.getLsbD_or]at hp;rcases Bool.or_eq_true_iff.1 hp with hp | hp
 ·exact h p hp
 ·exact h' p hp
theorem GY (n p:Nat):(dP n).getLsbD p=(decide (p<448)&&decide (p=n)):=by
 unfold dP;rw[BitVec.getLsbD_shiftLeft,BitVec.getLsbD_one];by_cases h1:p<448
 ·by_cases h2:p=n
  ·subst h2;simp[h1]
  ·by_cases h3:p<n
   ·simp[h1,h2,h3]
   ·have h4:p-n≠0:=by omega
    simp[h1,h2,h3,h4]
 ·simp[h1]
theorem cO.bit (n:Nat):cO (dP n) (n+1):=fun p hp=>by
 rw[GY]at hp;simp at hp;omega
structure GM.ok (m:GM):Prop where
 len:m.bQ.length=m.aB.length
 bQ:∀ f∈m.bQ,cO f m.aB.length
 ne:∀ s∈m.aB,s≠0
structure GP.ok (a:GP) (n:Nat):Prop where
 fst:cO a.fst n
 ct:cO a.ct n
theorem GP.ok.mono {a:GP} {n n':Nat} (h:a.ok n) (hn:n<=n'):a.ok n':=⟨h.fst.mono hn,h.ct.mono hn⟩
theorem BU {m:GM} (h:m.ok) {last first:PB} (hf:cO first m.aB.length):(gu m last first).ok:=by
 refine⟨?_,fun f hf'=>?_,h.ne⟩
 ·show(m.bQ.mapIdx _).length=_
  rw[List.length_mapIdx];exact h.len
 ·obtain⟨i,hi,rfl⟩:=List.mem_mapIdx.1 hf'
  have h1:=h.bQ _ (List.getElem_mem hi);show cO (if last.getLsbD i=true then m.bQ[i] ||| first else m.bQ[i]) m.aB.length;split
  ·exact h1.or hf
  ·exact h1
theorem Ca {m:GM} (h:m.ok) {a b:GP} (ha:a.ok m.aB.length) (hb:b.ok m.aB.length):(bZ m a b).1.ok/\(bZ m a b).1.aB=m.aB/\(bZ m a b).2.ok m.aB.length:=by
 refine⟨BU h hb.fst,rfl,?_,?_⟩
 ·show cO (if a.emp=true then a.fst ||| b.fst else a.fst) _
  split
  ·exact ha.fst.or hb.fst
  ·exact ha.fst
 ·show cO (if b.emp=true then b.ct ||| a.ct else b.ct) _
  split
  ·exact hb.ct.or ha.ct
  ·exact hb.ct
mutual
def RX.cnt:RX->Nat
 | .nd k _ a b l=>if k=0 then 0 else if k=1 then 0 else if k=2 then 1 else if k=3 then RX.fA l else if k=4 then RX.fA l else if k=5 then dZ a b*RX.cnt1 l else RX.cnt1 l
def RX.fA:List RX->Nat
 | []=>0
 | t::l=>t.cnt+RX.fA l
def RX.cnt1:List RX->Nat
 | []=>0
 | t::_=>t.cnt
end
structure gM (m:GM) (r:GM×GP) (c:Nat):Prop where
 ok:r.1.ok
 len:r.1.aB.length=m.aB.length+c
 gp:r.2.ok r.1.aB.length
theorem zt:∀ (l:List RX),(∀ t∈l,∀ m:GM,m.ok->gM m (t.cN m) t.cnt)->∀ (m:GM) (st:GM×GP) (c:Nat),gM m st c->gM m (RX.gJ l st) (c+RX.fA l)
 | [],_,m,st,c,h=>by rw[RX.gJ,RX.fA];exact h
 | t::l,hl,m,st,c,h=>by
  rw[RX.gJ,RX.fA, <-Nat.add_assoc];refine zt l (fun x hx=>hl x (List.mem_cons_of_mem _ hx)) m _ _ ?_;have h1:=hl t (List.mem_cons_self ..) st.1 h.ok;obtain⟨g1,g2,g3⟩:=Ca h1.ok (h.gp.mono (by rw[h1.len];omega)) h1.gp;refine⟨g1,?_,?_⟩
  ·rw[g2,h1.len,h.len];omega
  ·rw[g2];exact g3
theorem zu:∀ (l:List RX),(∀ t∈l,∀ m:GM,m.ok->gM m (t.cN m) t.cnt)->∀ (m:GM) (st:GM×GP) (c:Nat),gM m st c->gM m (RX.eY l st) (c+RX.fA l)
 | [],_,m,st,c,h=>by rw[RX.eY,RX.fA];exact h
 | t::l,hl,m,st,c,h=>by
  rw[RX.eY,RX.fA, <-Nat.add_assoc];refine zu l (fun x hx=>hl x (List.mem_cons_of_mem _ hx)) m _ _ ?_;have h1:=hl t (List.mem_cons_self ..) st.1 h.ok;have h2:=h.gp.mono (n':=(t.cN st.1).1.aB.length) (by rw[h1.len];omega);refine⟨h1.ok,?_,h2.fst.or h1.gp.fst,h2.ct.or h1.gp.ct⟩;show(t.cN st.1).1.aB.length=_;rw[h1.len,h.len];omega
theorem QN {mn mx:Int} {k c:Nat} {m:GM} {a:GP} (ha:a.ok m.aB.length) {x:GM×GP} (h:gM m x c):gM m (zr mn mx k a x) c:=by
 unfold zr;have h1:(if mx= -1/\k+1=dZ mn mx then gu x.1 x.2.ct x.2.fst else x.1).ok/\(if mx= -1/\k+1=dZ mn mx then gu x.1 x.2.ct x.2.fst else x.1).aB=x.1.aB:=by
  split
  ·exact⟨BU h.ok h.gp.fst,rfl⟩
  ·exact⟨h.ok,rfl⟩
 obtain⟨g1,g2,g3⟩:=Ca h1.1 (a:=a) (b:=⟨x.2.fst,x.2.ct,x.2.emp || decide (mn<=k)⟩) (by rw[h1.2];exact ha.mono (by rw[h.len];omega)) (by rw[h1.2];exact⟨h.gp.fst,h.gp.ct⟩);refine⟨g1,?_,?_⟩
 ·rw[g2,h1.2,h.len]
 ·rw[g2];exact g3
theorem uG {mn mx:Int} {c:Nat} {f:GM->GM×GP} (hf:∀ m:GM,m.ok->gM m (f m) c) {m:GM} (h:m.ok):∀ k,gM m (dz mn mx f m k) (k*c)
 | 0=>⟨h,by simp[dz],cO.zero _,cO.zero _⟩
 | k+1=>by
  have ih:=uG hf h (mn:=mn) (mx:=mx) k;have h1:=QN (mn:=mn) (mx:=mx) (k:=k) ih.gp (hf _ ih.ok);refine⟨h1.ok,?_,h1.gp⟩;show(zr mn mx k (dz mn mx f m k).2 (f (dz mn mx f m k).1)).1.aB.length=_;rw[h1.len,ih.len,Nat.succ_mul];omega
mutual
def RX.full:RX->Bool
 | .nd k s _ _ l=>(k != 2 || s != 0)&&RX.xU l
def RX.xU:List RX->Bool
 | []=>true
 | t::l=>t.full&&RX.xU l
end
theorem xV:∀ {l:List RX},RX.xU l=true->∀ t∈l,t.full=true
 | [],_,t,h=>by cases h
 | x::l,h,t,ht=>by
  rw[RX.xU,Bool.and_eq_true]at h;rcases List.mem_cons.1 ht with rfl | ht
  ·exact h.1
  ·exact xV h.2 t ht
theorem l4 (t:RX):t.full=true->∀ m:GM,m.ok->gM m (t.cN m) t.cnt:=by
 induction t using RX.ind with
 | h k s a b l ih=>
  intro hf m hm;rw[RX.full,Bool.and_eq_true]at hf;have hl:∀ t∈l,∀ m:GM,m.ok->gM m (t.cN m) t.cnt:=fun t ht=>ih t ht (xV hf.2 t ht)
  rw[RX.cN,RX.cnt];by_cases h0:k=0
  ·rw[if_pos h0,if_pos h0];exact⟨hm,rfl,cO.zero _,cO.zero _⟩
  rw[if_neg h0,if_neg h0];by_cases h1:k=1
  ·rw[if_pos h1,if_pos h1];exact⟨hm,rfl,cO.zero _,cO.zero _⟩
  rw[if_neg h1,if_neg h1];by_cases h2:k=2
  ·rw[if_pos h2,if_pos h2]
   have hs:s≠0:=by rw[h2]at hf;simpa using hf.1
   have e:(m.aB++ [s]).length=m.aB.length+1:=by simp
   refine⟨⟨by simp[hm.len],fun f hf'=>?_,fun x hx=>?_⟩,e,?_,?_⟩
   ·show cO f (m.aB++ [s]).length
    rw[e];rcases List.mem_append.1 hf' with hf' | hf'
    ·exact(hm.bQ f hf').mono (by omega)
    ·rw[List.mem_singleton.1 hf'];exact cO.zero _
   ·rcases List.mem_append.1 hx with hx | hx
    ·exact hm.ne x hx
    ·rw[List.mem_singleton.1 hx];exact hs
   ·show cO (dP m.aB.length) (m.aB++ [s]).length
    rw[e];exact cO.bit _
   ·show cO (dP m.aB.length) (m.aB++ [s]).length
    rw[e];exact cO.bit _
  rw[if_neg h2,if_neg h2];have hz:∀ e,gM m (m,⟨0,0,e⟩) 0:=fun e=>⟨hm,rfl,cO.zero _,cO.zero _⟩
  by_cases h3:k=3
  ·rw[if_pos h3,if_pos h3]
   have:=zt l hl m _ 0 (hz true);rwa[Nat.zero_add]at this
  rw[if_neg h3,if_neg h3];by_cases h4:k=4
  ·rw[if_pos h4,if_pos h4]
   have:=zu l hl m _ 0 (hz false);rwa[Nat.zero_add]at this
  rw[if_neg h4,if_neg h4];cases l with
  | nil=>
   by_cases h5:k=5
   ·rw[if_pos h5,if_pos h5,RX.Y0,RX.cnt1];exact hz true
   ·rw[if_neg h5,if_neg h5,RX.Y8,RX.cnt1];exact hz false
  | cons t l=>
   have ht:=hl t (List.mem_cons_self ..);by_cases h5:k=5
   ·rw[if_pos h5,if_pos h5,RX.Y0,RX.cnt1];exact uG ht hm _
   ·rw[if_neg h5,if_neg h5,RX.Y8,RX.cnt1];exact ht m hm
def RX.nf (t:RX):NF:=⟨(t.cN ⟨[],[]⟩).1.aB,(t.cN ⟨[],[]⟩).1.bQ.map dA,dA (t.cN ⟨[],[]⟩).2.fst,dA (t.cN ⟨[],[]⟩).2.ct,(t.cN ⟨[],[]⟩).2.emp⟩
theorem uH {x:PB} {n:Nat} (h:cO x n):dt 0 ((n:Int)-1) (dA x)=true:=by
 refine mG (lX _ _) fun y hy=>?_
 obtain⟨q,hq,rfl⟩:=List.mem_map.1 hy;have:=h q (List.mem_filter.1 hq).2;show(0:Int)<=(q:Int)/\(q:Int)<=_;omega
theorem Y9 {t:RX} (h:t.full=true) (hc:t.cnt<=400):Nt t.nf:=by
 have H:=l4 t h ⟨[],[]⟩ ⟨rfl,fun f hf=>(by cases hf),fun s hs=>(by cases hs)⟩;have hl:=H.len;simp only[List.length_nil,Nat.zero_add]at hl;refine⟨?_,?_,uH H.gp.fst,uH H.gp.ct,fun p hp=>?_,fun p hp=>?_⟩
 ·show(t.cN ⟨[],[]⟩).1.aB.length<=400
  omega
 ·show((t.cN ⟨[],[]⟩).1.bQ.map dA).length=_
  rw[List.length_map];exact H.ok.len
 ·show dt 0 _ (((t.cN ⟨[],[]⟩).1.bQ.map dA).getD p [])=true
  have A9:p<(t.cN ⟨[],[]⟩).1.bQ.length:=by rw[H.ok.len];exact hp
  rw[List.getD_eq_getElem?_getD,List.getElem?_map,List.getElem?_eq_getElem A9];exact uH (H.ok.bQ _ (List.getElem_mem A9))
 ·show(t.cN ⟨[],[]⟩).1.aB.getD p 0≠0
  have hp3:p<(t.cN ⟨[],[]⟩).1.aB.length:=hp;rw[List.getD_eq_getElem?_getD,List.getElem?_eq_getElem hp3];exact H.ok.ne _ (List.getElem_mem hp3)
theorem Cb:∀ {l:List RX} {t x:RX},t∈l->x∈t.pre->x∈RX.jK l
 | y::l,t,x,ht,hx=>by
  rw[RX.jK];rcases List.mem_cons.1 ht with rfl | ht
  ·exact List.mem_append_left _ hx
  ·exact List.mem_append_right _ (Cb ht hx)
theorem Cc (t:RX):t∈t.pre:=by cases t;rw[RX.pre];exact List.mem_cons_self ..
theorem zv {k:Nat} {s:BS} {a b:Int} {l:List RX} {P:RX->Prop} (h:∀ x∈(RX.nd k s a b l).pre,P x):P (.nd k s a b l)/\∀ t∈l,∀ x∈t.pre,P x:=by refine⟨h _ (Cc _),fun t ht x hx=>h x ?_⟩;rw[RX.pre];exact List.mem_cons_of_mem _ (Cb ht hx)
theorem cd (t:RX) (h:t.cL=true):(t.kind=2->t.set≠0)/\(t.kind<3->t.subs=[])/\(t.kind≠0)/\(t.kind<=6)/\(t.kind=5\/t.kind=6->t.subs.length=1)/\(t.kind=5->gi t.mn t.mx=true)/\(t.kind=3\/t.kind=4->1<t.subs.length):=by
 unfold RX.cL at h;generalize t.kind=k at*;generalize t.set=s at*;generalize t.mn=a at*;generalize t.mx=b at*;generalize t.has 1=i1 at*;generalize t.has 3=i3 at*;generalize t.has 4=i4 at*;generalize t.subs=l at*;split at h
 ·cases h
 rename_i h0;have hl:k<3->l=[]:=fun hk=>by
  apply List.eq_nil_of_length_eq_zero;have:¬ (k<3/\0<l.length):=fun e=>h0 (.inr (.inr e))
  omega
 refine⟨fun hk=>?_,hl,fun hk=>?_,?_,fun hk=>?_,fun hk=>?_,fun hk=>?_⟩
 ·subst hk;simpa using h
 ·subst hk;simp at h
 ·split at h
  ·omega
  split at h
  ·omega
  split at h
  ·omega
  split at h
  ·omega
  split at h
  ·omega
  ·simp at h;omega
 ·rcases hk with rfl | rfl
  ·simp at h;exact h.1.1
  ·simp at h;exact h
 ·subst hk;simp at h;exact h.1.2
 ·rcases hk with rfl | rfl
  ·simp at h;exact h.1.1
  ·simp at h;exact h.1
theorem qM {k:Nat} {s:BS} {a b:Int} {l:List RX} (h:(RX.nd k s a b l).cL=true):(k=2->s≠0)/\(k<3->l=[])/\(k≠0)/\(k<=6)/\(k=5\/k=6->l.length=1)/\(k=5->gi a b=true)/\(k=3\/k=4->1<l.length):=cd _ h
theorem nS (t:RX):(∀ x∈t.pre,x.cL=true)->t.full=true:=by
 induction t using RX.ind with
 | h k s a b l ih=>
  intro h;obtain⟨h1,h2⟩:=zv h;rw[RX.full,Bool.and_eq_true];refine⟨?_,?_⟩
  ·by_cases hk:k=2
   ·rw[Bool.or_eq_true]
    exact .inr (bne_iff_ne.2 ((qM h1).1 hk))
   ·simp[hk]
  ·have:∀ l':List RX,(∀ t∈l',t∈l)->RX.xU l'=true:=by
    intro l';induction l' with
    | nil=>intro _;rfl
    | cons x l' UW=>
     intro hs;rw[RX.xU,Bool.and_eq_true];exact⟨ih x (hs x (List.mem_cons_self ..)) (h2 x (hs x (List.mem_cons_self ..))),UW fun t ht=>hs t (List.mem_cons_of_mem _ ht)⟩
   exact this l fun t ht=>ht
theorem rS {a b:Int} (h:gi a b=true):RX.times a b=dZ a b/\1<=dZ a b/\dZ a b<=16:=by
 unfold gi at h;split at h
 ·cases h
 ·unfold RX.times dZ
  simp only[Bool.or_eq_true,Bool.and_eq_true,decide_eq_true_eq]at h;by_cases hb:b= -1
  ·rw[if_pos hb,if_pos hb];omega
  ·rw[if_neg hb,if_neg hb];omega
theorem Ce (t:RX):(∀ x∈t.pre,x.cL=true)->t.bR<=400->t.cnt=t.bR:=by
 induction t using RX.ind with
 | h k s a b l ih=>
  intro h hp;obtain⟨h1,h2⟩:=zv h;obtain⟨_,hk3,Gh,hk6,h56,h5,_⟩:=qM h1;rw[RX.bR]at hp ⊢;have Za:∀ l':List RX,(∀ t∈l',t∈l)->RX.aZ l'<=400->RX.fA l'=RX.aZ l':=by
   intro l';induction l' with
   | nil=>intro _ _;rfl
   | cons x l' UW=>
    intro hs hle;rw[RX.aZ]at hle;rw[RX.fA,RX.aZ,ih x (hs x (List.mem_cons_self ..)) (h2 x (hs x (List.mem_cons_self ..))) (by omega),UW (fun t ht=>hs t (List.mem_cons_of_mem _ ht)) (by omega)]
  rw[RX.cnt,if_neg Gh];by_cases h1k:k=1
  ·subst h1k
   rw[hk3 (by omega)];simp[RX.aZ]
  rw[if_neg h1k];by_cases h2k:k=2
  ·subst h2k
   rw[hk3 (by omega)];simp[RX.aZ]
  rw[if_neg h2k];rw[if_neg h2k,Nat.zero_add]at hp ⊢;by_cases h5k:k=5
  ·subst h5k
   obtain⟨e1,e2,e3⟩:=rS (h5 rfl);rw[if_pos rfl,e1]at hp ⊢;have hm:min (dZ a b) 10001=dZ a b:=by omega
   rw[hm]at hp ⊢;obtain⟨x,rfl⟩:=List.length_eq_one_iff.1 (h56 (.inl rfl));have hx:RX.aZ [x]=x.bR:=by simp[RX.aZ]
   rw[hx]at hp ⊢;have hle:x.bR<=x.bR*dZ a b:=Nat.le_mul_of_pos_right _ e2;rw[if_neg (by omega),if_neg (by omega),if_pos rfl,RX.cnt1,ih x (List.mem_cons_self ..) (h2 x (List.mem_cons_self ..)) (by omega)];rw[Nat.mul_comm];omega
  ·rw[if_neg h5k,Nat.mul_one]at hp
   simp only[if_neg h5k,Nat.mul_one];have hle:RX.aZ l<=400:=by omega
   have e:=Za l (fun t ht=>ht) hle;by_cases h3k:k=3
   ·rw[if_pos h3k,e];omega
   rw[if_neg h3k];by_cases h4k:k=4
   ·rw[if_pos h4k,e];omega
   rw[if_neg h4k];obtain⟨x,rfl⟩:=List.length_eq_one_iff.1 (h56 (.inr (by omega)));rw[RX.cnt1];simp[RX.fA,RX.aZ]at e;simp[RX.aZ]at hle ⊢;omega
theorem Mz {t:RX} (h:t.clean=true) (hp:t.bR<=400):Nt t.nf:=by unfold RX.clean at h;rw[Bool.and_eq_true,List.all_eq_true]at h;exact Y9 (nS t h.2) (by rw[Ce t h.2 hp];exact hp)
def ai (k:Nat) (s:BS) (mn mx:Int) (a:Value):Array Value:= #[.int .u8 k,.int .u64 (wd s 0).toNat,.int .u64 (wd s 1).toNat,.int .u64 (wd s 2).toNat,.int .u64 (wd s 3).toNat,.int .i64 mn,.int .i64 mx,a]
inductive aF (F:Nat->Prop) (w:World):Value->RX->Prop
 | mk (k:Nat) (s:BS) (mn mx:Int) (l:List RX) (a:Value) (b off cap:Nat) (vs:Nat->Value)
  (h0:l=[]->∃ p c,a=.slice p 0 c)
  (h1:l≠[]->a=.slice (some ⟨b,off,none⟩) l.length cap/\F b/\b<w.heap.size/\l.length<=cap)
  (hc:∀ (i:Nat) (t:RX),l[i]? =some t->∃ cs:Array Value,vs i=.agg cs/\∀ (j:Nat) (u:Value),cs[j]? =some u->w.cell? ⟨b,off+i*8+j,none⟩=some u)
  (hr:∀ (i:Nat) (t:RX),l[i]? =some t->aF F w (vs i) t):aF F w (.agg (ai k s mn mx a)) (.nd k s mn mx l)
theorem aF.form {F:Nat->Prop} {w:World} {v:Value} {t:RX} (h:aF F w v t):∃ p c,v=.agg (ai t.kind t.set t.mn t.mx (.slice p t.subs.length c)):=by
 cases h with
 | mk k s mn mx l a b off cap vs h0 h1 hc hr=>
  cases l with
  | nil=>obtain⟨p,c,rfl⟩:=h0 rfl;exact⟨p,c,rfl⟩
  | cons x l=>obtain⟨rfl,_⟩:=h1 (by simp);exact⟨_,_,rfl⟩
theorem aF.keeps {F R:Nat->Prop} {w w':World} (hk:aa R w w') (hR:∀ b,F b->R b) {v:Value} {t:RX} (h:aF F w v t):aF F w' v t:=by
 induction h with
 | mk k s mn mx l a b off cap vs h0 h1 hc hr ih=>
  refine .mk k s mn mx l a b off cap vs h0 (fun hl=>?_) (fun i t hi=>?_) ih
  ·obtain⟨e,hF,hb,lH⟩:=h1 hl
   exact⟨e,hF,Nat.lt_of_lt_of_le hb hk.size,lH⟩
  ·obtain⟨cs,e,hcs⟩:=hc i t hi
   have hl:l≠[]:=fun e=>by rw[e]at hi;simp at hi
   obtain⟨_,hF,_⟩:=h1 hl;exact⟨cs,e,fun j u hj=>(hk.cell (p:=⟨b,off+i*8+j,none⟩) (hR b hF)).trans (hcs j u hj)⟩
theorem aF.mono {F F':Nat->Prop} {w:World} (hF:∀ b,F b->F' b) {v:Value} {t:RX} (h:aF F w v t):aF F' w v t:=by
 induction h with
 | mk k s mn mx l a b off cap vs h0 h1 hc hr ih=>exact .mk k s mn mx l a b off cap vs h0 (fun hl=>by obtain⟨e,h2,h3⟩:=h1 hl;exact⟨e,hF b h2,h3⟩) hc ih
theorem aF.l5 {n:Nat} {w w':World} {v:Value} {t:RX} (h:aF (· <n) w v t) (hk:Below n w w'):aF (· <n) w' v t:=h.keeps (aa.aj hk fun _ h=>h) fun _ h=>h
theorem aF.kept {n:Nat} {w w':World} {v:Value} {t:RX} (h:aF (· <n) w v t) (hk:aa (· <n) w w'):aF (· <n) w' v t:=h.keeps hk fun _ h=>h
theorem aF.elem {F:Nat->Prop} {w:World} {k n c:Nat} {s:BS} {mn mx:Int} {p:Option Addr} {l:List RX} (h:aF F w (.agg (ai k s mn mx (.slice p n c))) (.nd k s mn mx l)) {i:Nat} {t:RX} (hi:l[i]? =some t): ∃ b off p' c',p=some ⟨b,off,none⟩/\F b/\b<w.heap.size/\n<=c/\ (w.cell? ⟨b,off+i*8,none⟩=some (.int .u8 t.kind)/\w.cell? ⟨b,off+i*8+1,none⟩=some (.int .u64 (wd t.set 0).toNat)/\w.cell? ⟨b,off+i*8+2,none⟩=some (.int .u64 (wd t.set 1).toNat)/\w.cell? ⟨b,off+i*8+3,none⟩=some (.int .u64 (wd t.set 2).toNat)/\w.cell? ⟨b,off+i*8+4,none⟩=some (.int .u64 (wd t.set 3).toNat)/\w.cell? ⟨b,off+i*8+5,none⟩=some (.int .i64 t.mn)/\w.cell? ⟨b,off+i*8+6,none⟩=some (.int .i64 t.mx)/\w.cell? ⟨b,off+i*8+7,none⟩=some (.slice p' t.subs.length c'))/\ aF F w (.agg (ai t.kind t.set t.mn t.mx (.slice p' t.subs.length c'))) t:=by
 generalize hv:(Value.agg (ai k s mn mx (.slice p n c)))=v at h;generalize ht:RX.nd k s mn mx l=T at h;cases h with
 | mk k' s' mn' mx' l' a b off cap vs h0 h1 hc hr=>
  injection ht with e1 e2 e3 e4 e5
  subst e1 e2 e3 e4 e5;have hl:l≠[]:=fun e=>by rw[e]at hi;simp at hi
  obtain⟨ea,hF,hb,lH⟩:=h1 hl;rw[ea]at hv;have e7:(ai k s mn mx (.slice p n c))[7]? =(ai k s mn mx (.slice (some ⟨b,off,none⟩) l.length cap))[7]? :=by injection hv with e;rw[e]
  have e8:Value.slice p n c=.slice (some ⟨b,off,none⟩) l.length cap:=by simpa[ai]using e7
  obtain⟨rfl,rfl,rfl⟩:p=some ⟨b,off,none⟩/\n=l.length/\c=cap:=by injection e8 with a1 a2 a3;exact⟨a1,a2,a3⟩
  have ht:=hr i t hi;obtain⟨cs,ec,hcs⟩:=hc i t hi;obtain⟨p',c',ev⟩:=ht.form;rw[ev]at ht ec;injection ec with ec
  subst ec;exact⟨b,off,p',c',rfl,hF,hb,lH,⟨hcs 0 _ rfl,hcs 1 _ rfl,hcs 2 _ rfl,hcs 3 _ rfl,hcs 4 _ rfl,hcs 5 _ rfl,hcs 6 _ rfl,hcs 7 _ rfl⟩,ht⟩
theorem aF.leaf (F:Nat->Prop) (w:World) (k:Nat) (s:BS) (mn mx:Int) (p:Option Addr) (c:Nat):aF F w (.agg (ai k s mn mx (.slice p 0 c))) (.nd k s mn mx []):=
 .mk k s mn mx [] _ 0 0 0 (fun _=>undef) (fun _=>⟨p,c,rfl⟩) (fun h=>absurd rfl h) (fun i t h=>by simp at h) (fun i t h=>by simp at h)
theorem nB {P:Program} {fn:Func} {tmps:Array Value} {R:Ending->World->Prop} {v:Value} :∀ (Ds:List Nat) (W:World),Ds.Nodup->(∀ D∈Ds,W.heap[D]? =some (.deferred (some [])))-> ((results fn tmps).run P (Ds.foldl (fun W D=>W.putObj D (.deferred none)) W)=.ok v (Ds.foldl (fun W D=>W.putObj D (.deferred none)) W))->R (.returned v) (Ds.foldl (fun W D=>W.putObj D (.deferred none)) W)-> LeavesInM Fence.wide 0 P fn tmps R (Ds.map fun D=> {target:=.collected D,args:= #[]}) .returning W
 | [],W,_,_,hr,hR=>⟨v,hr,hR⟩
 | D::Ds,W,hn,hD,hr,hR=>by
  obtain⟨h1,h2⟩:=List.nodup_cons.1 hn;refine⟨by simp,.inl ⟨_,_,rfl,run_takeDeferred (hD D (List.mem_cons_self ..)),?_⟩⟩;refine nB Ds _ h2 (fun E hE=>?_) hr hR;have hne:E≠D:=fun e=>by rw[e]at hE;exact h1 hE
  exact(World.putObj_heap_other hne).trans (hD E (List.mem_cons_of_mem _ hE))
end Go.Proofs.YtalombmiochpmaaGreatDoor
namespace Go.Proofs.YtalombmiochpmaaGreatDoor
open Go Go.RowKit Go.Shelf Go.Maps
section
variable {P:Program} {ops:Array Oper}
theorem ed {rest:List Oper} {o:Oper} {a:Act} {w:World} {Q:Exit->Act->World->Prop} (hw:Region.wanted o (yielded ops a.tmps)=true) (s x:Operand) (t:TypeId) (ho:o.op=.call {callee:=.builtin .append,args:= #[s,x],argTypes:= #[t,t]}) (base:Nat) (e:TypeId) (i:TypeInfo) (z:Value) (size bytes:Nat) (ht:P.underlying t=some (.slice e)) (hi:P.info? e=some i) (hz:i.zero=some z) (hsize:i.size=size) (hby:i.bytes=bytes) (hzs:z.cells.size=size) (hsz:0<size) (v:Value) (k:Nat) (xs:List Value) (hs:a.eval s=v) (hown:w.ownsRow base e size v k xs) (ad:Addr) (m c:Nat) (news:List Value) (hx:a.eval x=.slice (some ad) m c) (hnews:∀ j u,news[j]? =some u->w.cell? (ad.add j)=some u) (hl:news.length=m*size) (h1:∀ u∈news,u.oneCell'=true) (h63:k+m<=maxLen) (hbytes:(k+m)*bytes<=140737488355328) (hbase:base<=w.heap.size) (h:∀ v' w',w'.ownsRow base e size v' (k+m) (xs++news)->w.grownBy w' v.ownBlock->(v'.ownBlock=v.ownBlock\/v'.ownBlock=some w.heap.size)->wpList P ops Q rest (a.put o.dst v') w'): wpList P ops Q (o::rest) a w:=by
 refine ik hw fun K hK=>?_
 obtain⟨v',w',hr,h2,h3,_,h5⟩:=run_append_own_at (P:=P) w base t o.type e i z size bytes ht hi hz hsize hby hzs hsz v k xs hown ad m c news hl hnews h1 h63 hbytes hbase;unfold Oper.wp execOp;simp only[ho,resolve,invoke,builtin,Sem.run_bind,Sem.run_pure,Result.andThen_ok,List.map_toArray,List.map_cons,List.map_nil,hs,hx,hr];exact hK _ _ (h v' w' h2 h3 h5)
theorem l6 {rest:List Oper} {o:Oper} {a:Act} {w:World} {Q:Exit->Act->World->Prop} (hw:Region.wanted o (yielded ops a.tmps)=true) (s x:Operand) (t:TypeId) (ho:o.op=.call {callee:=.builtin .append,args:= #[s,x],argTypes:= #[t,t]}) (base:Nat) (e:TypeId) (i:TypeInfo) (z:Value) (size bytes:Nat) (ht:P.underlying t=some (.slice e)) (hi:P.info? e=some i) (hz:i.zero=some z) (hsize:i.size=size) (hby:i.bytes=bytes) (hzs:z.cells.size=size) (hsz:0<size) (b:Addr) (k:Nat) (xs:List Value) (hs:a.eval s=.slice (some b) k k) (xh:xs.length=k*size) (holds:∀ j u,xs[j]? =some u->w.cell? (b.add j)=some u) (ad:Addr) (m c:Nat) (news:List Value) (hx:a.eval x=.slice (some ad) m c) (hnews:∀ j u,news[j]? =some u->w.cell? (ad.add j)=some u) (hl:news.length=m*size) (hm:0<m) (h63:k+m<=maxLen) (hbytes:(k+m)*bytes<=140737488355328) (hbase:base<=w.heap.size) (h:∀ v' w',w'.ownsRow base e size v' (k+m) (xs++news)->Below w.heap.size w w'->v'.ownBlock=some w.heap.size->wpList P ops Q rest (a.put o.dst v') w'): wpList P ops Q (o::rest) a w:=by
 refine ik hw fun K hK=>?_
 subst hsize;subst hby;have adn:k+m<=9223372036854775807:=by simp only[maxLen]at h63;omega
 have hr:=run_append_grow (P:=P) w t o.type e i z ht hi hz b k k xs xh holds ad m c news hl hnews (by omega) (by omega) (growslice_fits (by omega) hbytes);unfold Oper.wp execOp;simp only[ho,resolve,invoke,builtin,Sem.run_bind,Sem.run_pure,Result.andThen_ok,List.map_toArray,List.map_cons,List.map_nil,hs,hx,hr];have PG:=grownCap_ge w (k+m) k e;have hcm:grownCap w (k+m) k e<=maxLen:=grownCap_le_maxLen w (k+m) k e h63;have hlen:(xs++news).length=(k+m)*i.size:=by rw[List.length_append,xh,hl,Nat.add_mul]
 refine hK _ _ (h _ _ ⟨hlen,.inr ⟨w.heap.size,_,_,rfl,hbase,heap_alloc_new w.drew _,PG,hcm,?_,?_⟩⟩ ((Ext.refl w).drew.alloc _).below rfl)
 ·simp only[Array.size_append,List.size_toArray,size_zeroCells,hzs,xh,hl, <-Nat.add_mul]
  congr 1
  omega
 ·simp only[Array.toList_append,List.append_assoc]
  rw[<-List.append_assoc, <-hlen];exact List.take_left
end
def aW (cs:List (Array Value)):List Value:=cs.flatMap Array.toList
theorem eZ:∀ {cs:List (Array Value)},(∀ c∈cs,c.size=8)->(aW cs).length=cs.length*8
 | [],_=>rfl
 | c::cs,h=>by
  unfold aW;rw[List.flatMap_cons,List.length_append,List.length_cons];have:=eZ fun x hx=>h x (List.mem_cons_of_mem _ hx)
  unfold aW at this;rw[this,Array.length_toList,h c (List.mem_cons_self ..)];omega
theorem fW:∀ {cs:List (Array Value)} {i j:Nat} {c:Array Value} {u:Value},(∀ c∈cs,c.size=8)->cs[i]? =some c->c[j]? =some u->(aW cs)[i*8+j]? =some u
 | x::cs,0,j,c,u,h,hi,hj=>by
  simp at hi;subst hi;unfold aW;have hl:=(Array.getElem?_eq_some_iff.1 hj).1;rw[List.flatMap_cons,List.getElem?_append_left (by rw[Array.length_toList];omega),Nat.zero_mul,Nat.zero_add,Array.getElem?_toList];exact hj
 | x::cs,i+1,j,c,u,h,hi,hj=>by
  have ih:=fW (cs:=cs) (i:=i) (fun y hy=>h y (List.mem_cons_of_mem _ hy)) (by simpa using hi) hj;unfold aW at ih ⊢;rw[List.flatMap_cons,List.getElem?_append_right (by rw[Array.length_toList,h x (List.mem_cons_self ..)];omega), <-ih];congr 1;rw[Array.length_toList,h x (List.mem_cons_self ..)];omega
theorem km (a b:List (Array Value)):aW (a++b)=aW a++aW b:=by unfold aW;rw[List.flatMap_append]
theorem bS (k:Nat) (s:BS) (mn mx:Int) (p:Option Addr) (n c:Nat):(ai k s mn mx (.slice p n c)).size=8/\∀ u∈(ai k s mn mx (.slice p n c)).toList,u.oneCell'=true:=by refine⟨rfl,fun u hu=>?_⟩;simp[ai]at hu;rcases hu with rfl | rfl | rfl | rfl | rfl | rfl | rfl | rfl<;>rfl
def bF (base:Nat) (w:World) (v:Value) (l:List RX):Prop:=∃ cs:List (Array Value),cs.length=l.length/\w.ownsRow base 62 8 v l.length (aW cs)/\(∀ c∈cs,c.size=8/\∀ u∈c.toList,u.oneCell'=true)/\
 ∀ (i:Nat) (c:Array Value) (t:RX),cs[i]? =some c->l[i]? =some t->aF (fun x=>base<=x/\x<w.heap.size/\v.ownBlock≠some x) w (.agg c) t
theorem bF.nil (base:Nat) (w:World):bF base w (.slice none 0 0) []:=⟨[],rfl,World.ownsRow_nil _ _ _ _,(fun _ h=>nomatch h),fun i c t h=>by simp at h⟩
theorem bF.form {base:Nat} {w:World} {v:Value} {l:List RX} (h:bF base w v l):∃ a c,v=.slice a l.length c:=by obtain⟨cs,h1,h2,h3,h4⟩:=h;exact ownsRow_form h2
theorem bF.keeps {base:Nat} {R:Nat->Prop} {w w':World} {v:Value} {l:List RX} (h:bF base w v l) (hk:aa R w w') (hR:∀ x,x<w.heap.size->base<=x\/v.ownBlock≠some x->R x):bF base w' v l:=by obtain⟨cs,h1,h2,h3,h4⟩:=h;refine⟨cs,h1,ag h2 hk fun x hx=>hR x (h2.lt x hx).2 (.inl (h2.lt x hx).1),h3,fun i c t hi ht=>?_⟩;exact((h4 i c t hi ht).keeps hk fun x hx=>hR x hx.2.1 (.inl hx.1)).mono fun x hx=>⟨hx.1,Nat.lt_of_lt_of_le hx.2.1 hk.size,hx.2.2⟩
theorem bF.below {base:Nat} {w w':World} {v:Value} {l:List RX} (h:bF base w v l) (hk:Below w.heap.size w w'):bF base w' v l:=h.keeps (aa.aj hk fun _ h=>h:aa (· <w.heap.size) w w') fun _ hx _=>hx
theorem bF.elem {base:Nat} {w:World} {a:Option Addr} {n cap:Nat} {l:List RX} (h:bF base w (.slice a n cap) l) {i:Nat} {t:RX} (hi:l[i]? =some t): ∃ g p' c',a=some ⟨g,0,none⟩/\n=l.length/\n<=cap/\base<=g/\g<w.heap.size/\ (w.cell? ⟨g,i*8,none⟩=some (.int .u8 t.kind)/\w.cell? ⟨g,i*8+1,none⟩=some (.int .u64 (wd t.set 0).toNat)/\w.cell? ⟨g,i*8+2,none⟩=some (.int .u64 (wd t.set 1).toNat)/\w.cell? ⟨g,i*8+3,none⟩=some (.int .u64 (wd t.set 2).toNat)/\w.cell? ⟨g,i*8+4,none⟩=some (.int .u64 (wd t.set 3).toNat)/\w.cell? ⟨g,i*8+5,none⟩=some (.int .i64 t.mn)/\w.cell? ⟨g,i*8+6,none⟩=some (.int .i64 t.mx)/\w.cell? ⟨g,i*8+7,none⟩=some (.slice p' t.subs.length c'))/\ aF (fun x=>base<=x/\x<w.heap.size/\x≠g) w (.agg (ai t.kind t.set t.mn t.mx (.slice p' t.subs.length c'))) t:=by
 obtain⟨cs,h1,h2,h3,h4⟩:=h;have ib:=(List.getElem?_eq_some_iff.1 hi).1;obtain⟨c,hc⟩:∃ c,cs[i]? =some c:=⟨_,List.getElem?_eq_getElem (by omega)⟩;have hr:=h4 i c t hc hi;obtain⟨p',c',e⟩:=hr.form;injection e with e
 subst e;rcases h2.2 with⟨e1,e2⟩ | ⟨g,cap',cur,e1,e2,e3,e4,e5,_⟩
 ·exfalso;omega
 ·injection e1 with a1 a2 a3
  subst a1 a2 a3;have hlt:=h2.lt g rfl;have ce:∀ (j:Nat) (u:Value),(ai t.kind t.set t.mn t.mx (.slice p' t.subs.length c'))[j]? =some u->w.cell? ⟨g,i*8+j,none⟩=some u:=fun j u hj=>by
   have:=h2.cells (g:=g) rfl _ _ (fW (fun c hc=>(h3 c hc).1) hc hj);rw[Addr.add_mid]at this;simpa using this
  refine⟨g,p',c',rfl,rfl,e4,hlt.1,hlt.2,⟨ce 0 _ rfl,ce 1 _ rfl,ce 2 _ rfl,ce 3 _ rfl,ce 4 _ rfl,ce 5 _ rfl,ce 6 _ rfl,ce 7 _ rfl⟩,?_⟩;exact hr.mono fun x hx=>⟨hx.1,hx.2.1,fun e=>hx.2.2 (by rw[e];rfl)⟩
theorem bF.app {base:Nat} {w w':World} {v v':Value} {l l2:List RX} {cs cs2:List (Array Value)} (h1:cs.length=l.length) (h3:∀ c∈cs,c.size=8/\∀ u∈c.toList,u.oneCell'=true) (h4:∀ (i:Nat) (c:Array Value) (t:RX),cs[i]? =some c->l[i]? =some t->aF (fun x=>base<=x/\x<w.heap.size/\v.ownBlock≠some x) w (.agg c) t) (g1:cs2.length=l2.length) (g3:∀ c∈cs2,c.size=8/\∀ u∈c.toList,u.oneCell'=true) (g4:∀ (i:Nat) (c:Array Value) (t:RX),cs2[i]? =some c->l2[i]? =some t->aF (fun x=>base<=x/\x<w.heap.size/\v.ownBlock≠some x) w (.agg c) t) (ho:w'.ownsRow base 62 8 v' (l.length+l2.length) (aW cs++aW cs2)) (hg:w.grownBy w' v.ownBlock) (jg:v'.ownBlock=v.ownBlock\/v'.ownBlock=some w.heap.size):bF base w' v' (l++l2):=by
 have key:∀ (c:Array Value) (t:RX),aF (fun x=>base<=x/\x<w.heap.size/\v.ownBlock≠some x) w (.agg c) t->aF (fun x=>base<=x/\x<w'.heap.size/\v'.ownBlock≠some x) w' (.agg c) t:=fun c t h=>by
  refine(h.keeps (aa.aU hg fun x (hx:base<=x/\x<w.heap.size/\v.ownBlock≠some x)=>⟨hx.2.1,fun e=>hx.2.2 e.symm⟩) fun x hx=>hx).mono fun x hx=>⟨hx.1,Nat.lt_of_lt_of_le hx.2.1 hg.size,fun e=>?_⟩
  rcases jg with e2 | e2
  ·exact hx.2.2 (by rw[<-e2,e])
  ·rw[e2]at e
   cases e
   exact Nat.lt_irrefl _ hx.2.1
 refine⟨cs++cs2,by simp[h1,g1],by rw[List.length_append,km];exact ho,fun c hc=>(List.mem_append.1 hc).elim (h3 c) (g3 c),fun i c t hi ht=>?_⟩;rcases Nat.lt_or_ge i l.length with ib | ib
 ·rw[List.getElem?_append_left (by omega)]at hi ht
  exact key c t (h4 i c t hi ht)
 ·rw[List.getElem?_append_right (by omega)]at hi ht
  rw[h1]at hi;exact key c t (g4 _ c t hi ht)
end Go.Proofs.YtalombmiochpmaaGreatDoor
namespace Go.Proofs.YtalombmiochpmaaGreatDoor
open Go Go.RowKit
def dB (n:Nat):List Nat:=[[97],[98],[97,98],[97],[98],[99],[97,98,99],[98,99],[10],[0,255],[97],[98]].getD (n%12) []
def l7 (n:Nat):RX:=.nd 2 (kR fun c=>(dB n).contains c) 0 0 []
def cQ:RX:=.nd 1 0 0 0 []
def dC (kind:Nat) (x:RX):List RX:=if x.kind=kind then x.subs else if kind=3/\x.kind=1 then []else [x]
def eQ (kind:Nat) (l:List RX):RX:=match l with | []=>cQ | [x]=>x | x::y::r=>.nd kind 0 0 0 (x::y::r)
def bL (kind:Nat) (a b:RX):RX:=eQ kind (dC kind a++dC kind b)
structure cM where
 all:List RX
 kM:Nat
 vQ:Nat
def cM.last (P:cM):RX:=P.all.getD (P.all.length-1) cQ
def cM.fL (P:cM):RX:=P.all.getD (P.all.length-2) cQ
def cM.put (P:cM) (k:Nat) (x:RX):List RX:=P.all.take (P.all.length-k)++ [x]
def ee (n:Nat):Nat:=n%3
def iC (n m:Nat):Int:=if m%4<ee n\/m%4=0\/(ee n=1/\m%4=1)then-1 else((m%4:Nat):Int)
def fY (n m:Nat):Nat:=(max (max (ee n:Int) (iC n m)) 1).toNat
def cM.step (P:cM) (s:Nat×Nat×Nat):cM:=
 if s.1%12<4 then⟨P.put 0 (l7 s.2.1),P.kM,P.vQ⟩else
 if s.1%12=4 then⟨P.put 0 cQ,P.kM,P.vQ⟩else
 if s.1%12<7/\1<P.all.length then⟨P.put 2 (bL 3 P.fL P.last),P.kM,P.vQ⟩else
 if s.1%12<9/\1<P.all.length then⟨P.put 2 (bL 4 P.fL P.last),P.kM,P.vQ⟩else
 if s.1%12=9/\0<P.all.length/\P.vQ<9 then⟨P.put 1 (.nd 6 0 0 0 [P.last]),P.kM,P.vQ+1⟩else
 if 9<s.1%12/\0<P.all.length/\P.last.kind≠1 then
  if P.kM*fY s.2.1 s.2.2<=16 then⟨P.put 1 (.nd 5 0 (ee s.2.1) (iC s.2.1 s.2.2) [P.last]),P.kM*fY s.2.1 s.2.2,P.vQ⟩else P
 else P
def gN (l:List (Nat×Nat×Nat)):cM:=l.foldl cM.step ⟨[],1,0⟩
def Zb (l:List RX):RX:=match l with | []=>l7 0 | x::r=>r.foldl (bL 4) x
def dM (l:List (Nat×Nat×Nat)):RX:=Zb (gN (l.take 25)).all
def RX.fine (t:RX):Prop:=∀ x∈t.pre,x.cL=true
theorem ko {k:Nat} {s:BS} {a b:Int} {l:List RX} :(RX.nd k s a b l).fine↔(RX.nd k s a b l).cL=true/\∀ t∈l,t.fine:=by
 constructor
 ·intro h
  exact zv h
 ·rintro⟨h1,h2⟩ x hx
  rw[RX.pre]at hx;rcases List.mem_cons.1 hx with rfl | hx
  ·exact h1
  ·have:∀ l':List RX,(∀ t∈l',t.fine)->x∈RX.jK l'->x.cL=true:=by
    intro l';induction l' with
    | nil=>intro _ h;rw[RX.jK]at h;cases h
    | cons y l' ih=>
     intro hf h;rw[RX.jK]at h;rcases List.mem_append.1 h with h | h
     ·exact hf y (List.mem_cons_self ..) x h
     ·exact ih (fun t ht=>hf t (List.mem_cons_of_mem _ ht)) h
   exact this l h2 hx
theorem qN {t:RX} (h:t.fine):t.cL=true:=h t (Cc t)
theorem Jf {t:RX} (h:t.fine):∀ x∈t.subs,x.fine:=by
 cases t with
 | nd k s a b l=>exact(ko.1 h).2
theorem Cf (n:Nat):(kR fun c=>(dB n).contains c)≠0:=by
 have h:n%12<12:=Nat.mod_lt _ (by decide);have key:∀ k,k<12->(kR fun c=>(dB k).contains c)≠0:=by decide+kernel
 have e:dB n=dB (n%12):=by unfold dB;rw[Nat.mod_mod]
 rw[e];exact key _ h
theorem rT (n:Nat):(l7 n).fine:=by
 refine ko.2 ⟨?_,fun t h=>by cases h⟩;obtain⟨s,hs⟩:∃ s,s=kR fun c=>(dB n).contains c:=⟨_,rfl⟩
 have h:=Cf n;rw[<-hs]at h ⊢;unfold RX.cL RX.kind RX.set RX.mn RX.mx RX.subs;simpa using h
theorem rU:cQ.fine:=ko.2 ⟨by decide,fun t h=>by cases h⟩
theorem dG (a b:List RX):RX.sizes (a++b)=RX.sizes a+RX.sizes b:=by
 induction a with
 | nil=>simp[RX.sizes]
 | cons x a ih=>rw[List.cons_append,RX.sizes,RX.sizes,ih];omega
theorem dH (a b:List RX):RX.aZ (a++b)=RX.aZ a+RX.aZ b:=by
 induction a with
 | nil=>simp[RX.aZ]
 | cons x a ih=>rw[List.cons_append,RX.aZ,RX.aZ,ih];omega
theorem size_pos (t:RX):1<=t.size:=by cases t;rw[RX.size];omega
theorem xW (t:RX):RX.sizes t.subs+1=t.size:=by cases t;rw[RX.size,RX.subs];omega
theorem nT {k:Nat} (hk:k=3\/k=4) {x:RX} (h:x.fine):(∀ t∈dC k x,t.fine/\t.kind≠k/\(k=3->t.kind≠1))/\RX.sizes (dC k x)<=x.size/\(x.kind=k->RX.sizes (dC k x)+1<=x.size)/\min (RX.aZ (dC k x)) 10001<=x.bR:=by
 unfold dC;by_cases h1:x.kind=k
 ·rw[if_pos h1]
  have hs:=xW x;refine⟨fun t ht=>⟨Jf h t ht,?_⟩,by omega,fun _=>by omega,?_⟩
  ·have hr:=qN h
   unfold RX.cL at hr;split at hr
   ·cases hr
   ·have hh:∀ j,x.has j=false->t.kind≠j:=fun j hj=>by
     unfold RX.has at hj;have:=List.any_eq_false.1 hj t ht;simpa using this
    rcases hk with rfl | rfl
    ·simp[h1]at hr
     exact⟨hh 3 hr.2,fun _=>hh 1 hr.1.2⟩
    ·simp[h1]at hr
     exact⟨hh 4 hr.2,fun e=>by omega⟩
  ·cases x with
   | nd k' s a b l=>
    have e:k'=k:=h1;subst e;rw[RX.subs,RX.bR,if_neg (by omega),if_neg (by omega)];omega
 ·rw[if_neg h1]
  by_cases h2:k=3/\x.kind=1
  ·rw[if_pos h2]
   exact⟨fun t ht=>by(cases ht),by simp[RX.sizes],fun e=>absurd e h1,by simp[RX.aZ]⟩
  ·rw[if_neg h2]
   refine⟨fun t ht=>?_,by simp[RX.sizes],fun e=>absurd e h1,?_⟩
   ·rw[List.mem_singleton.1 ht]
    exact⟨h,h1,fun e=>fun e2=>h2 ⟨e,e2⟩⟩
   ·simp[RX.aZ];omega
theorem zw {k:Nat} (hk:k=3\/k=4) {l:List RX} (h:∀ t∈l,t.fine/\t.kind≠k/\(k=3->t.kind≠1)):(eQ k l).fine/\(eQ k l).size<=RX.sizes l+1/\(eQ k l).bR<=RX.aZ l:=by
 match l with
 | []=>exact⟨rU,by simp[eQ,cQ,RX.size,RX.sizes],by simp[eQ,cQ,RX.bR,RX.aZ]⟩
 | [x]=>
  refine⟨(h x (List.mem_cons_self ..)).1,?_,?_⟩
  ·simp[eQ,RX.sizes]
  ·simp[eQ,RX.aZ]
 | x::y::r=>
  refine⟨ko.2 ⟨?_,fun t ht=>(h t ht).1⟩,?_,?_⟩
  ·have hh:∀ j,(∀ t∈x::y::r,t.kind≠j)->(RX.nd k 0 0 0 (x::y::r)).has j=false:=fun j hj=>by
    unfold RX.has;rw[List.any_eq_false];intro t ht;simpa using hj t ht
   unfold RX.cL;rw[if_neg (by rintro(h | h | h)<;>simp[RX.kind,RX.set,RX.mn,RX.mx]at h;omega)];rcases hk with rfl | rfl
   ·rw[hh 1 fun t ht=>(h t ht).2.2 rfl,hh 3 fun t ht=>(h t ht).2.1]
    simp[RX.kind,RX.subs]
   ·rw[hh 4 fun t ht=>(h t ht).2.1]
    simp[RX.kind,RX.subs]
  ·show RX.size (.nd k 0 0 0 (x::y::r))<=_
   rw[RX.size];omega
  ·show RX.bR (.nd k 0 0 0 (x::y::r))<=_
   rw[RX.bR,if_neg (by omega),if_neg (by omega)];omega
theorem zx (t:RX):t.bR<=10001:=by cases t;rw[RX.bR];omega
theorem rV {k:Nat} (hk:k=3\/k=4) {a b:RX} (ha:a.fine) (hb:b.fine):(bL k a b).fine/\(bL k a b).size<=a.size+b.size+1/\(bL k a b).bR<=a.bR+b.bR:=by
 obtain⟨a1,a2,_,a4⟩:=nT hk ha;obtain⟨b1,b2,_,b4⟩:=nT hk hb;obtain⟨g1,g2,g3⟩:=zw hk (l:=dC k a++dC k b) fun t ht=>(List.mem_append.1 ht).elim (a1 t) (b1 t)
 rw[dG]at g2;rw[dH]at g3;have:=zx (bL k a b);refine⟨g1,?_,?_⟩
 ·show(eQ k (dC k a++dC k b)).size<=_
  omega
 ·have e:(bL k a b).bR=(eQ k (dC k a++dC k b)).bR:=rfl
  omega
theorem MC (a b:Int) (s:BS) (x:RX):(RX.nd 5 s a b [x]).bR<=x.bR*RX.times a b:=by rw[RX.bR,if_neg (by decide),if_pos rfl,RX.aZ,RX.aZ,Nat.zero_add,Nat.add_zero];refine Nat.le_trans (Nat.min_le_left _ _) (Nat.mul_le_mul_left _ (Nat.min_le_left _ _))
theorem uI (n m:Nat):gi (ee n) (iC n m)=true/\RX.times (ee n) (iC n m)=fY n m/\1<=fY n m:=by
 have h1:n%3<3:=Nat.mod_lt _ (by decide);have h2:m%4<4:=Nat.mod_lt _ (by decide);unfold fY iC ee;generalize n%3=p at*;generalize m%4=q at*;have key:∀ p:Nat,p<3->∀ q:Nat,q<4->gi (p:Int) (if q<p\/q=0\/(p=1/\q=1)then-1 else(q:Int))=true/\RX.times (p:Int) (if q<p\/q=0\/(p=1/\q=1)then-1 else(q:Int))=(max (max (p:Int) (if q<p\/q=0\/(p=1/\q=1)then-1 else(q:Int))) 1).toNat/\1<=(max (max (p:Int) (if q<p\/q=0\/(p=1/\q=1)then-1 else(q:Int))) 1).toNat:=by decide+kernel
 exact key p h1 q h2
structure cM.ok (P:cM) (c:Nat):Prop where
 fine:∀ t∈P.all,t.fine
 kind:∀ t∈P.all,t.kind≠0
 size:RX.sizes P.all<=c
 bR:RX.aZ P.all<=c*P.kM
 kM:1<=P.kM
 xX:P.kM<=16
 len:P.all.length<=c
theorem jL {l:List RX} (h:0<l.length):l=l.take (l.length-1)++ [l.getD (l.length-1) cQ]:=by
 have e:l.getD (l.length-1) cQ=l[l.length-1]'(by omega):=by rw[List.getD_eq_getElem?_getD,List.getElem?_eq_getElem (by omega)];rfl
 rw[e,List.take_append_getElem (by omega),show l.length-1+1=l.length by omega,List.take_length]
theorem Fl {l:List RX} (h:1<l.length):l=l.take (l.length-2)++ [l.getD (l.length-2) cQ,l.getD (l.length-1) cQ]:=by
 have e1:=jL (l:=l) (by omega);have e2:=jL (l:=l.take (l.length-1)) (by simp;omega);rw[List.length_take,Nat.min_eq_left (by omega),show l.length-1-1=l.length-2 by omega]at e2;rw[List.take_take,Nat.min_eq_left (by omega)]at e2;have e3:(l.take (l.length-1)).getD (l.length-2) cQ=l.getD (l.length-2) cQ:=by rw[List.getD_eq_getElem?_getD,List.getD_eq_getElem?_getD,List.getElem?_take,if_pos (by omega)]
 rw[e3]at e2;rw[e2]at e1;rw[e1.trans (List.append_assoc _ _ _)];simp
theorem mI {l:List RX} {k:Nat} (h:k<l.length):l.getD k cQ∈l:=by rw[List.getD_eq_getElem?_getD,List.getElem?_eq_getElem h];exact List.getElem_mem h
theorem mJ {t:RX} (h:t.fine):t.kind≠0:=(cd t (qN h)).2.2.1
theorem cM.ok.more {P:cM} {c:Nat} (h:P.ok c):P.ok (c+1):=
 ⟨h.fine,h.kind,by have:=h.size;omega,by have:=h.bR;rw[Nat.succ_mul];omega,h.kM,h.xX,by have:=h.len;omega⟩
theorem cM.ok.push {P:cM} {c:Nat} (h:P.ok c) {x:RX} (hx:x.fine) (hs:x.size<=1) (hp:x.bR<=1):(⟨P.put 0 x,P.kM,P.vQ⟩:cM).ok (c+1):=by
 have e:P.put 0 x=P.all++ [x]:=by unfold cM.put;rw[Nat.sub_zero,List.take_length]
 have hf:∀ t∈P.put 0 x,t.fine:=fun t ht=>by
  rw[e]at ht;rcases List.mem_append.1 ht with ht | ht
  ·exact h.fine t ht
  ·rw[List.mem_singleton.1 ht];exact hx
 refine⟨hf,fun t ht=>mJ (hf t ht),?_,?_,h.kM,h.xX,?_⟩
 ·show RX.sizes (P.put 0 x)<=_
  rw[e,dG];have:=h.size;simp[RX.sizes];omega
 ·show RX.aZ (P.put 0 x)<=(c+1)*P.kM
  rw[e,dH,Nat.succ_mul];have:=h.bR;have:=h.kM;simp[RX.aZ];omega
 ·show(P.put 0 x).length<=_
  rw[e];have:=h.len;simp;omega
theorem cM.ok.join {P:cM} {c:Nat} (h:P.ok c) {k:Nat} (hk:k=3\/k=4) (hn:1<P.all.length):(⟨P.put 2 (bL k P.fL P.last),P.kM,P.vQ⟩:cM).ok (c+1):=by
 have e:=Fl hn;obtain⟨g1,g2,g3⟩:=rV hk (h.fine _ (mI (show P.all.length-2<P.all.length by omega))) (h.fine _ (mI (show P.all.length-1<P.all.length by omega)));have hf:∀ t∈P.put 2 (bL k P.fL P.last),t.fine:=fun t ht=>by
  rcases List.mem_append.1 ht with ht | ht
  ·exact h.fine t (List.mem_of_mem_take ht)
  ·rw[List.mem_singleton.1 ht];exact g1
 have hs:=h.size;have hp:=h.bR;have hl:=h.len;rw[e,dG]at hs;rw[e,dH]at hp;simp only[RX.sizes,RX.aZ]at hs hp;refine⟨hf,fun t ht=>mJ (hf t ht),?_,?_,h.kM,h.xX,?_⟩
 ·show RX.sizes (P.all.take (P.all.length-2)++ [bL k P.fL P.last])<=_
  rw[dG];simp only[RX.sizes];show _+((bL k (P.all.getD (P.all.length-2) cQ) (P.all.getD (P.all.length-1) cQ)).size+0)<=_;omega
 ·show RX.aZ (P.all.take (P.all.length-2)++ [bL k P.fL P.last])<=(c+1)*P.kM
  rw[dH,Nat.succ_mul];simp only[RX.aZ];show _+((bL k (P.all.getD (P.all.length-2) cQ) (P.all.getD (P.all.length-1) cQ)).bR+0)<=_;omega
 ·show(P.all.take (P.all.length-2)++ [bL k P.fL P.last]).length<=_
  rw[List.length_append,List.length_take];simp;omega
theorem cM.ok.turn {P:cM} {c:Nat} (h:P.ok c) (hn:0<P.all.length) {x:RX} {f:Nat} (hx:x.fine) (hs:x.size<=P.last.size+1) (hp:x.bR<=P.last.bR*f) (Ir:1<=f) (ado:P.kM*f<=16) (g:Nat):(⟨P.put 1 x,P.kM*f,g⟩:cM).ok (c+1):=by
 have e:=jL hn;have hf:∀ t∈P.put 1 x,t.fine:=fun t ht=>by
  rcases List.mem_append.1 ht with ht | ht
  ·exact h.fine t (List.mem_of_mem_take ht)
  ·rw[List.mem_singleton.1 ht];exact hx
 have hs2:=h.size;have A9:=h.bR;have hl:=h.len;have hu:=h.kM;rw[e,dG]at hs2;rw[e,dH]at A9;simp only[RX.sizes,RX.aZ]at hs2 A9;refine⟨hf,fun t ht=>mJ (hf t ht),?_,?_,Nat.mul_pos hu Ir,ado,?_⟩
 ·show RX.sizes (P.all.take (P.all.length-1)++ [x])<=_
  rw[dG];simp only[RX.sizes];have:P.last.size=(P.all.getD (P.all.length-1) cQ).size:=rfl;omega
 ·show RX.aZ (P.all.take (P.all.length-1)++ [x])<=(c+1)*(P.kM*f)
  rw[dH];simp only[RX.aZ];have e2:P.last.bR=(P.all.getD (P.all.length-1) cQ).bR:=rfl;rw[e2]at hp;have h1:RX.aZ (P.all.take (P.all.length-1))+(P.all.getD (P.all.length-1) cQ).bR*f<=(RX.aZ (P.all.take (P.all.length-1))+(P.all.getD (P.all.length-1) cQ).bR)*f:=by rw[Nat.add_mul];exact Nat.add_le_add_right (Nat.le_mul_of_pos_right _ Ir) _
  have h2:(RX.aZ (P.all.take (P.all.length-1))+(P.all.getD (P.all.length-1) cQ).bR)*f<=c*P.kM*f:=Nat.mul_le_mul_right _ (by omega);have h3:(c+1)*(P.kM*f)=c*P.kM*f+P.kM*f:=by rw[Nat.succ_mul,Nat.mul_assoc]
  omega
 ·show(P.all.take (P.all.length-1)++ [x]).length<=_
  rw[List.length_append,List.length_take];simp;omega
theorem Fm {x:RX} (h:x.fine):(RX.nd 6 0 0 0 [x]).fine/\(RX.nd 6 0 0 0 [x]).size<=x.size+1/\(RX.nd 6 0 0 0 [x]).bR<=x.bR*1:=by
 refine⟨ko.2 ⟨?_,fun t ht=>by rw[List.mem_singleton.1 ht];exact h⟩,?_,?_⟩
 ·unfold RX.cL
  simp[RX.kind,RX.set,RX.mn,RX.mx,RX.subs]
 ·simp[RX.size,RX.sizes];omega
 ·rw[RX.bR,if_neg (by decide),if_neg (by decide),RX.aZ,RX.aZ];omega
theorem MD {x:RX} (h:x.fine) (hk:x.kind≠1) (n m:Nat):(RX.nd 5 0 (ee n) (iC n m) [x]).fine/\(RX.nd 5 0 (ee n) (iC n m) [x]).size<=x.size+1:=by
 refine⟨ko.2 ⟨?_,fun t ht=>by rw[List.mem_singleton.1 ht];exact h⟩,?_⟩
 ·have hh:(RX.nd 5 0 (ee n) (iC n m) [x]).has 1=false:=by
   unfold RX.has RX.subs;simpa using hk
  unfold RX.cL;rw[if_neg (by rintro(h | h | h)<;>simp[RX.kind,RX.set,RX.mn,RX.mx]at h),hh];simp[RX.kind,RX.subs,RX.mn,RX.mx,(uI n m).1]
 ·simp[RX.size,RX.sizes];omega
theorem cM.ok.step {P:cM} {c:Nat} (h:P.ok c) (s:Nat×Nat×Nat):(P.step s).ok (c+1):=by
 unfold cM.step;split
 ·exact h.push (rT _) (by simp[l7,RX.size,RX.sizes]) (by simp[l7,RX.bR,RX.aZ])
 split
 ·exact h.push rU (by decide) (by decide)
 split
 ·rename_i hc;exact h.join (.inl rfl) hc.2
 split
 ·rename_i hc;exact h.join (.inr rfl) hc.2
 split
 ·rename_i hc
  obtain⟨g1,g2,g3⟩:=Fm (h.fine _ (mI (show P.all.length-1<P.all.length by omega)));have:=h.turn hc.2.1 g1 g2 g3 (Nat.le_refl 1) (by rw[Nat.mul_one];exact h.xX) (P.vQ+1);rwa[Nat.mul_one]at this
 split
 ·rename_i hc
  split
  ·rename_i hu
   obtain⟨r1,r2,r3⟩:=uI s.2.1 s.2.2;obtain⟨g1,g2⟩:=MD (h.fine _ (mI (show P.all.length-1<P.all.length by omega))) hc.2.2 s.2.1 s.2.2;exact h.turn hc.2.1 g1 g2 (by rw[<-r2];exact MC _ _ _ _) r3 hu P.vQ
  ·exact h.more
 ·exact h.more
theorem uJ (l:List (Nat×Nat×Nat)):(gN l).ok l.length:=by
 have:∀ (l:List (Nat×Nat×Nat)) (P:cM) (c:Nat),P.ok c->(l.foldl cM.step P).ok (c+l.length):=by
  intro l;induction l with
  | nil=>intro P c h;exact h
  | cons s l ih=>
   intro P c h;rw[List.foldl_cons,List.length_cons,show c+(l.length+1)=c+1+l.length by omega];exact ih _ _ (h.step s)
 have h:=this l ⟨[],1,0⟩ 0 ⟨fun t ht=>by(cases ht),fun t ht=>by(cases ht),by simp[RX.sizes],by simp[RX.aZ],Nat.le_refl _,by decide,Nat.zero_le _⟩;rwa[Nat.zero_add]at h
theorem nU:∀ (r:List RX) (x:RX),x.fine->(∀ t∈r,t.fine)->(r.foldl (bL 4) x).fine/\(r.foldl (bL 4) x).size<=x.size+RX.sizes r+r.length/\(r.foldl (bL 4) x).bR<=x.bR+RX.aZ r
 | [],x,h,_=>⟨h,by simp[RX.sizes],by simp[RX.aZ]⟩
 | y::r,x,h,hr=>by
  rw[List.foldl_cons,List.length_cons,RX.sizes,RX.aZ];obtain⟨g1,g2,g3⟩:=rV (.inr rfl) h (hr y (List.mem_cons_self ..)) (k:=4);obtain⟨k1,k2,k3⟩:=nU r _ g1 fun t ht=>hr t (List.mem_cons_of_mem _ ht)
  exact⟨k1,by omega,by omega⟩
structure Fo (t:RX):Prop where
 fine:t.fine
 size:t.size<=60
 bR:t.bR<=400
theorem l8 (l:List (Nat×Nat×Nat)):Fo (dM l):=by
 have H:=uJ (l.take 25);have hl:(l.take 25).length<=25:=by rw[List.length_take];omega
 have h16:=H.xX;have hlen:=H.len;have hsz:=H.size;have OS:RX.aZ (gN (l.take 25)).all<=400:=Nat.le_trans H.bR (Nat.le_trans (Nat.mul_le_mul hl h16) (by decide));have SI:=H.fine;unfold dM;generalize (gN (l.take 25)).all=p at*;cases p with
 | nil=>exact⟨rT 0,by decide,by decide+kernel⟩
 | cons x r=>
  rw[RX.sizes]at hsz;rw[RX.aZ]at OS;rw[List.length_cons]at hlen;obtain⟨g1,g2,g3⟩:=nU r x (SI x (List.mem_cons_self ..)) fun t ht=>SI t (List.mem_cons_of_mem _ ht)
  exact⟨g1,by show(r.foldl (bL 4) x).size<=60;omega,by show(r.foldl (bL 4) x).bR<=400;omega⟩
theorem Fo.clean {t:RX} (h:Fo t):t.clean=true:=by unfold RX.clean;rw[Bool.and_eq_true,List.all_eq_true];exact⟨decide_eq_true (by have:=h.size;omega),h.fine⟩
end Go.Proofs.YtalombmiochpmaaGreatDoor
