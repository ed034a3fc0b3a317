/- Trees that are put together in small steps are clean. -/
import Derived.Test.YtalombmiochpmaaGreatDoorOR16
set_option maxRecDepth 100000
set_option maxHeartbeats 16000000
open Go.Lib (hid)
namespace Go.Proofs.YtalombmiochpmaaGreatDoor
section
open Go Go.RowKit
def dM (x:PB) (n:Nat):Prop:=∀ p,x.getLsbD p=true->p<n
theorem dM.zero (n:Nat):dM 0 n:=fun p h=>by simp at h
theorem dM.mono {x:PB} {n n':Nat} (h:dM x n) (hn:n<=n'):dM x n':=fun p hp=>Nat.lt_of_lt_of_le (h p hp) hn
theorem dM.or {x y:PB} {n:Nat} (h:dM x n) (h':dM y n):dM (x ||| y) n:=fun p hp=>by
 rw[BitVec.getLsbD_or]at hp;rcases Bool.or_eq_true_iff.1 hp with hp | hp
 ·exact h p hp
 ·exact h' p hp
theorem MT (n p:Nat):(eZ n).getLsbD p=(decide (p<448)&&decide (p=n)):=by
 unfold eZ;rw[BitVec.getLsbD_shiftLeft,BitVec.getLsbD_one];by_cases h1:p<448
 ·by_cases h2:p=n
  ·subst h2;simp[h1]
  ·by_cases h3:p<n
   ·simp[h1,h2,h3]
   ·have h4:p-n≠0:=by omega
    simp[h1,h2,h3,h4]
 ·simp[h1]
theorem dM.bit (n:Nat):dM (eZ n) (n+1):=fun p hp=>by
 rw[MT]at hp;simp at hp;omega
structure GM.ok (m:GM):Prop where
 len:m.cN.length=m.aM.length
 cN:∀ f∈m.cN,dM f m.aM.length
 ne:∀ s∈m.aM,s≠0
structure GP.ok (a:GP) (n:Nat):Prop where
 fst:dM a.fst n
 dh:dM a.dh n
theorem GP.ok.mono {a:GP} {n n':Nat} (h:a.ok n) (hn:n<=n'):a.ok n':=⟨h.fst.mono hn,h.dh.mono hn⟩
theorem Ih {m:GM} (h:m.ok) {last first:PB} (hf:dM first m.aM.length):(jC m last first).ok:=by
 refine⟨?_,fun f hf'=>?_,h.ne⟩
 ·show(m.cN.mapIdx _).length=_
  rw[List.length_mapIdx];exact h.len
 ·obtain⟨i,hi,rfl⟩:=List.mem_mapIdx.1 hf'
  have h1:=h.cN _ (List.getElem_mem hi);show dM (if last.getLsbD i=true then m.cN[i] ||| first else m.cN[i]) m.aM.length;split
  ·exact h1.or hf
  ·exact h1
theorem Ii {m:GM} (h:m.ok) {a b:GP} (ha:a.ok m.aM.length) (hb:b.ok m.aM.length):(cV m a b).1.ok/\(cV m a b).1.aM=m.aM/\(cV m a b).2.ok m.aM.length:=by
 refine⟨Ih h hb.fst,rfl,?_,?_⟩
 ·show dM (if a.emp=true then a.fst ||| b.fst else a.fst) _
  split
  ·exact ha.fst.or hb.fst
  ·exact ha.fst
 ·show dM (if b.emp=true then b.dh ||| a.dh else b.dh) _
  split
  ·exact hb.dh.or ha.dh
  ·exact hb.dh
mutual
def RX.cnt:RX->Nat
 | .nd k _ a b l=>if k=0 then 0 else if k=1 then 0 else if k=2 then 1 else if k=3 then RX.iC l else if k=4 then RX.iC l else if k=5 then fF a b*RX.cnt1 l else RX.cnt1 l
def RX.iC:List RX->Nat
 | []=>0
 | t::l=>t.cnt+RX.iC l
def RX.cnt1:List RX->Nat
 | []=>0
 | t::_=>t.cnt
end
structure jP (m:GM) (r:GM×GP) (c:Nat):Prop where
 ok:r.1.ok
 len:r.1.aM.length=m.aM.length+c
 gp:r.2.ok r.1.aM.length
theorem EW:∀ (l:List RX),(∀ t∈l,∀ m:GM,m.ok->jP m (t.dL m) t.cnt)->∀ (m:GM) (st:GM×GP) (c:Nat),jP m st c->jP m (RX.jI l st) (c+RX.iC l)
 | [],_,m,st,c,h=>by rw[RX.jI,RX.iC];exact h
 | t::l,hl,m,st,c,h=>by
  rw[RX.jI,RX.iC, <-Nat.add_assoc];refine EW l (fun x hx=>hl x (List.mem_cons_of_mem _ hx)) m _ _ ?_;have h1:=hl t (List.mem_cons_self ..) st.1 h.ok;obtain⟨g1,g2,g3⟩:=Ii h1.ok (h.gp.mono (by rw[h1.len];omega)) h1.gp;refine⟨g1,?_,?_⟩
  ·rw[g2,h1.len,h.len];omega
  ·rw[g2];exact g3
theorem EX:∀ (l:List RX),(∀ t∈l,∀ m:GM,m.ok->jP m (t.dL m) t.cnt)->∀ (m:GM) (st:GM×GP) (c:Nat),jP m st c->jP m (RX.ic l st) (c+RX.iC l)
 | [],_,m,st,c,h=>by rw[RX.ic,RX.iC];exact h
 | t::l,hl,m,st,c,h=>by
  rw[RX.ic,RX.iC, <-Nat.add_assoc];refine EX l (fun x hx=>hl x (List.mem_cons_of_mem _ hx)) m _ _ ?_;have h1:=hl t (List.mem_cons_self ..) st.1 h.ok;have h2:=h.gp.mono (n':=(t.dL st.1).1.aM.length) (by rw[h1.len];omega);refine⟨h1.ok,?_,h2.fst.or h1.gp.fst,h2.dh.or h1.gp.dh⟩;show(t.dL st.1).1.aM.length=_;rw[h1.len,h.len];omega
theorem WQ {mn mx:Int} {k c:Nat} {m:GM} {a:GP} (ha:a.ok m.aM.length) {x:GM×GP} (h:jP m x c):jP m (EU mn mx k a x) c:=by
 unfold EU;have h1:(if mx= -1/\k+1=fF mn mx then jC x.1 x.2.dh x.2.fst else x.1).ok/\(if mx= -1/\k+1=fF mn mx then jC x.1 x.2.dh x.2.fst else x.1).aM=x.1.aM:=by
  split
  ·exact⟨Ih h.ok h.gp.fst,rfl⟩
  ·exact⟨h.ok,rfl⟩
 obtain⟨g1,g2,g3⟩:=Ii h1.1 (a:=a) (b:=⟨x.2.fst,x.2.dh,x.2.emp || decide (mn<=k)⟩) (by rw[h1.2];exact ha.mono (by rw[h.len];omega)) (by rw[h1.2];exact⟨h.gp.fst,h.gp.dh⟩);refine⟨g1,?_,?_⟩
 ·rw[g2,h1.2,h.len]
 ·rw[g2];exact g3
theorem yX {mn mx:Int} {c:Nat} {f:GM->GM×GP} (hf:∀ m:GM,m.ok->jP m (f m) c) {m:GM} (h:m.ok):∀ k,jP m (en mn mx f m k) (k*c)
 | 0=>⟨h,by simp[en],dM.zero _,dM.zero _⟩
 | k+1=>by
  have ih:=yX hf h (mn:=mn) (mx:=mx) k;have h1:=WQ (mn:=mn) (mx:=mx) (k:=k) ih.gp (hf _ ih.ok);refine⟨h1.ok,?_,h1.gp⟩;show(EU mn mx k (en mn mx f m k).2 (f (en mn mx f m k).1)).1.aM.length=_;rw[h1.len,ih.len,Nat.succ_mul];omega
mutual
def RX.full:RX->Bool
 | .nd k s _ _ l=>(k != 2 || s != 0)&&RX.Dc l
def RX.Dc:List RX->Bool
 | []=>true
 | t::l=>t.full&&RX.Dc l
end
theorem Dd:∀ {l:List RX},RX.Dc l=true->∀ t∈l,t.full=true
 | [],_,t,h=>by cases h
 | x::l,h,t,ht=>by
  rw[RX.Dc,Bool.and_eq_true]at h;rcases List.mem_cons.1 ht with rfl | ht
  ·exact h.1
  ·exact Dd h.2 t ht
theorem qh (t:RX):t.full=true->∀ m:GM,m.ok->jP m (t.dL m) t.cnt:=by
 induction t using RX.ind with
 | h k s a b l ih=>
  intro hf m hm;rw[RX.full,Bool.and_eq_true]at hf;have hl:∀ t∈l,∀ m:GM,m.ok->jP m (t.dL m) t.cnt:=fun t ht=>ih t ht (Dd hf.2 t ht)
  rw[RX.dL,RX.cnt];by_cases h0:k=0
  ·rw[if_pos h0,if_pos h0];exact⟨hm,rfl,dM.zero _,dM.zero _⟩
  rw[if_neg h0,if_neg h0];by_cases h1:k=1
  ·rw[if_pos h1,if_pos h1];exact⟨hm,rfl,dM.zero _,dM.zero _⟩
  rw[if_neg h1,if_neg h1];by_cases h2:k=2
  ·rw[if_pos h2,if_pos h2]
   have hs:s≠0:=by rw[h2]at hf;simpa using hf.1
   have e:(m.aM++ [s]).length=m.aM.length+1:=by simp
   refine⟨⟨by simp[hm.len],fun f hf'=>?_,fun x hx=>?_⟩,e,?_,?_⟩
   ·show dM f (m.aM++ [s]).length
    rw[e];rcases List.mem_append.1 hf' with hf' | hf'
    ·exact(hm.cN f hf').mono (by omega)
    ·rw[List.mem_singleton.1 hf'];exact dM.zero _
   ·rcases List.mem_append.1 hx with hx | hx
    ·exact hm.ne x hx
    ·rw[List.mem_singleton.1 hx];exact hs
   ·show dM (eZ m.aM.length) (m.aM++ [s]).length
    rw[e];exact dM.bit _
   ·show dM (eZ m.aM.length) (m.aM++ [s]).length
    rw[e];exact dM.bit _
  rw[if_neg h2,if_neg h2];have hz:∀ e,jP m (m,⟨0,0,e⟩) 0:=fun e=>⟨hm,rfl,dM.zero _,dM.zero _⟩
  by_cases h3:k=3
  ·rw[if_pos h3,if_pos h3]
   have:=EW l hl m _ 0 (hz true);rwa[Nat.zero_add]at this
  rw[if_neg h3,if_neg h3];by_cases h4:k=4
  ·rw[if_pos h4,if_pos h4]
   have:=EX l hl m _ 0 (hz false);rwa[Nat.zero_add]at this
  rw[if_neg h4,if_neg h4];cases l with
  | nil=>
   by_cases h5:k=5
   ·rw[if_pos h5,if_pos h5,RX.rpG,RX.cnt1];exact hz true
   ·rw[if_neg h5,if_neg h5,RX.hdG,RX.cnt1];exact hz false
  | cons t l=>
   have ht:=hl t (List.mem_cons_self ..);by_cases h5:k=5
   ·rw[if_pos h5,if_pos h5,RX.rpG,RX.cnt1];exact yX ht hm _
   ·rw[if_neg h5,if_neg h5,RX.hdG,RX.cnt1];exact ht m hm
def RX.nf (t:RX):NF:=⟨(t.dL ⟨[],[]⟩).1.aM,(t.dL ⟨[],[]⟩).1.cN.map et,et (t.dL ⟨[],[]⟩).2.fst,et (t.dL ⟨[],[]⟩).2.dh,(t.dL ⟨[],[]⟩).2.emp⟩
theorem yY {x:PB} {n:Nat} (h:dM x n):eh 0 ((n:Int)-1) (et x)=true:=by
 refine qU (pZ _ _) fun y hy=>?_
 obtain⟨q,hq,rfl⟩:=List.mem_map.1 hy;have:=h q (List.mem_filter.1 hq).2;show(0:Int)<=(q:Int)/\(q:Int)<=_;omega
theorem aeU {t:RX} (h:t.full=true) (hc:t.cnt<=400):Nt t.nf:=by
 have H:=qh t h ⟨[],[]⟩ ⟨rfl,fun f hf=>(by cases hf),fun s hs=>(by cases hs)⟩;have hl:=H.len;simp only[List.length_nil,Nat.zero_add]at hl;refine⟨?_,?_,yY H.gp.fst,yY H.gp.dh,fun p hp=>?_,fun p hp=>?_⟩
 ·show(t.dL ⟨[],[]⟩).1.aM.length<=400
  omega
 ·show((t.dL ⟨[],[]⟩).1.cN.map et).length=_
  rw[List.length_map];exact H.ok.len
 ·show eh 0 _ (((t.dL ⟨[],[]⟩).1.cN.map et).getD p [])=true
  have Hi:p<(t.dL ⟨[],[]⟩).1.cN.length:=by rw[H.ok.len];exact hp
  rw[List.getD_eq_getElem?_getD,List.getElem?_map,List.getElem?_eq_getElem Hi];exact yY (H.ok.cN _ (List.getElem_mem Hi))
 ·show(t.dL ⟨[],[]⟩).1.aM.getD p 0≠0
  have hp3:p<(t.dL ⟨[],[]⟩).1.aM.length:=hp;rw[List.getD_eq_getElem?_getD,List.getElem?_eq_getElem hp3];exact H.ok.ne _ (List.getElem_mem hp3)
theorem Ij:∀ {l:List RX} {t x:RX},t∈l->x∈t.pre->x∈RX.mS l
 | y::l,t,x,ht,hx=>by
  rw[RX.mS];rcases List.mem_cons.1 ht with rfl | ht
  ·exact List.mem_append_left _ hx
  ·exact List.mem_append_right _ (Ij ht hx)
theorem Ik (t:RX):t∈t.pre:=by cases t;rw[RX.pre];exact List.mem_cons_self ..
theorem EY {k:Nat} {s:BS} {a b:Int} {l:List RX} {P:RX->Prop} (h:∀ x∈(RX.nd k s a b l).pre,P x):P (.nd k s a b l)/\∀ t∈l,∀ x∈t.pre,P x:=by refine⟨h _ (Ik _),fun t ht x hx=>h x ?_⟩;rw[RX.pre];exact List.mem_cons_of_mem _ (Ij ht hx)
theorem cW (t:RX) (h:t.dG=true):(t.kind=2->t.set≠0)/\(t.kind<3->t.subs=[])/\(t.kind≠0)/\(t.kind<=6)/\(t.kind=5\/t.kind=6->t.subs.length=1)/\(t.kind=5->jv t.mn t.mx=true)/\(t.kind=3\/t.kind=4->1<t.subs.length):=by
 unfold RX.dG at h;generalize t.kind=k at*;generalize t.set=s at*;generalize t.mn=a at*;generalize t.mx=b at*;generalize t.has 1=i1 at*;generalize t.has 3=i3 at*;generalize t.has 4=i4 at*;generalize t.subs=l at*;split at h
 ·cases h
 rename_i h0;have hl:k<3->l=[]:=fun hk=>by
  apply List.eq_nil_of_length_eq_zero;have:¬ (k<3/\0<l.length):=fun e=>h0 (.inr (.inr e))
  omega
 refine⟨fun hk=>?_,hl,fun hk=>?_,?_,fun hk=>?_,fun hk=>?_,fun hk=>?_⟩
 ·subst hk;simpa using h
 ·subst hk;simp at h
 ·split at h
  ·omega
  split at h
  ·omega
  split at h
  ·omega
  split at h
  ·omega
  split at h
  ·omega
  ·simp at h;omega
 ·rcases hk with rfl | rfl
  ·simp at h;exact h.1.1
  ·simp at h;exact h
 ·subst hk;simp at h;exact h.1.2
 ·rcases hk with rfl | rfl
  ·simp at h;exact h.1.1
  ·simp at h;exact h.1
theorem vk {k:Nat} {s:BS} {a b:Int} {l:List RX} (h:(RX.nd k s a b l).dG=true):(k=2->s≠0)/\(k<3->l=[])/\(k≠0)/\(k<=6)/\(k=5\/k=6->l.length=1)/\(k=5->jv a b=true)/\(k=3\/k=4->1<l.length):=cW _ h
theorem rZ (t:RX):(∀ x∈t.pre,x.dG=true)->t.full=true:=by
 induction t using RX.ind with
 | h k s a b l ih=>
  intro h;obtain⟨h1,h2⟩:=EY h;rw[RX.full,Bool.and_eq_true];refine⟨?_,?_⟩
  ·by_cases hk:k=2
   ·rw[Bool.or_eq_true]
    exact .inr (bne_iff_ne.2 ((vk h1).1 hk))
   ·simp[hk]
  ·have:∀ l':List RX,(∀ t∈l',t∈l)->RX.Dc l'=true:=by
    intro l';induction l' with
    | nil=>intro _;rfl
    | cons x l' ih2=>
     intro hs;rw[RX.Dc,Bool.and_eq_true];exact⟨ih x (hs x (List.mem_cons_self ..)) (h2 x (hs x (List.mem_cons_self ..))),ih2 fun t ht=>hs t (List.mem_cons_of_mem _ ht)⟩
   exact this l fun t ht=>ht
theorem wz {a b:Int} (h:jv a b=true):RX.times a b=fF a b/\1<=fF a b/\fF a b<=16:=by
 unfold jv at h;split at h
 ·cases h
 ·unfold RX.times fF
  simp only[Bool.or_eq_true,Bool.and_eq_true,decide_eq_true_eq]at h;by_cases hb:b= -1
  ·rw[if_pos hb,if_pos hb];omega
  ·rw[if_neg hb,if_neg hb];omega
theorem Il (t:RX):(∀ x∈t.pre,x.dG=true)->t.cO<=400->t.cnt=t.cO:=by
 induction t using RX.ind with
 | h k s a b l ih=>
  intro h hp;obtain⟨h1,h2⟩:=EY h;obtain⟨_,hk3,Ge,hk6,h56,h5,_⟩:=vk h1;rw[RX.cO]at hp ⊢;have aeV:∀ l':List RX,(∀ t∈l',t∈l)->RX.bL l'<=400->RX.iC l'=RX.bL l':=by
   intro l';induction l' with
   | nil=>intro _ _;rfl
   | cons x l' ih2=>
    intro hs hle;rw[RX.bL]at hle;rw[RX.iC,RX.bL,ih x (hs x (List.mem_cons_self ..)) (h2 x (hs x (List.mem_cons_self ..))) (by omega),ih2 (fun t ht=>hs t (List.mem_cons_of_mem _ ht)) (by omega)]
  rw[RX.cnt,if_neg Ge];by_cases h1k:k=1
  ·subst h1k
   rw[hk3 (by omega)];simp[RX.bL]
  rw[if_neg h1k];by_cases h2k:k=2
  ·subst h2k
   rw[hk3 (by omega)];simp[RX.bL]
  rw[if_neg h2k];rw[if_neg h2k,Nat.zero_add]at hp ⊢;by_cases h5k:k=5
  ·subst h5k
   obtain⟨e1,e2,e3⟩:=wz (h5 rfl);rw[if_pos rfl,e1]at hp ⊢;have hm:min (fF a b) 10001=fF a b:=by omega
   rw[hm]at hp ⊢;obtain⟨x,rfl⟩:=List.length_eq_one_iff.1 (h56 (.inl rfl));have hx:RX.bL [x]=x.cO:=by simp[RX.bL]
   rw[hx]at hp ⊢;have hle:x.cO<=x.cO*fF a b:=Nat.le_mul_of_pos_right _ e2;rw[if_neg (by omega),if_neg (by omega),if_pos rfl,RX.cnt1,ih x (List.mem_cons_self ..) (h2 x (List.mem_cons_self ..)) (by omega)];rw[Nat.mul_comm];omega
  ·rw[if_neg h5k,Nat.mul_one]at hp
   simp only[if_neg h5k,Nat.mul_one];have hle:RX.bL l<=400:=by omega
   have e:=aeV l (fun t ht=>ht) hle;by_cases h3k:k=3
   ·rw[if_pos h3k,e];omega
   rw[if_neg h3k];by_cases h4k:k=4
   ·rw[if_pos h4k,e];omega
   rw[if_neg h4k];obtain⟨x,rfl⟩:=List.length_eq_one_iff.1 (h56 (.inr (by omega)));rw[RX.cnt1];simp[RX.iC,RX.bL]at e;simp[RX.bL]at hle ⊢;omega
theorem SU {t:RX} (h:t.clean=true) (hp:t.cO<=400):Nt t.nf:=by unfold RX.clean at h;rw[Bool.and_eq_true,List.all_eq_true]at h;exact aeU (rZ t h.2) (by rw[Il t h.2 hp];exact hp)
def au (k:Nat) (s:BS) (mn mx:Int) (a:Value):Array Value:= #[.int .u8 k,.int .u64 (wd s 0).toNat,.int .u64 (wd s 1).toNat,.int .u64 (wd s 2).toNat,.int .u64 (wd s 3).toNat,.int .i64 mn,.int .i64 mx,a]
inductive aL (F:Nat->Prop) (w:World):Value->RX->Prop
 | mk (k:Nat) (s:BS) (mn mx:Int) (l:List RX) (a:Value) (b off cap:Nat) (vs:Nat->Value)
  (h0:l=[]->∃ p c,a=.slice p 0 c)
  (h1:l≠[]->a=.slice (some ⟨b,off,none⟩) l.length cap/\F b/\b<w.heap.size/\l.length<=cap)
  (hc:∀ (i:Nat) (t:RX),l[i]? =some t->∃ cs:Array Value,vs i=.agg cs/\∀ (j:Nat) (u:Value),cs[j]? =some u->w.cell? ⟨b,off+i*8+j,none⟩=some u)
  (hr:∀ (i:Nat) (t:RX),l[i]? =some t->aL F w (vs i) t):aL F w (.agg (au k s mn mx a)) (.nd k s mn mx l)
theorem aL.form {F:Nat->Prop} {w:World} {v:Value} {t:RX} (h:aL F w v t):∃ p c,v=.agg (au t.kind t.set t.mn t.mx (.slice p t.subs.length c)):=by
 cases h with
 | mk k s mn mx l a b off cap vs h0 h1 hc hr=>
  cases l with
  | nil=>obtain⟨p,c,rfl⟩:=h0 rfl;exact⟨p,c,rfl⟩
  | cons x l=>obtain⟨rfl,_⟩:=h1 (by simp);exact⟨_,_,rfl⟩
theorem aL.keeps {F R:Nat->Prop} {w w':World} (hk:aa R w w') (hR:∀ b,F b->R b) {v:Value} {t:RX} (h:aL F w v t):aL F w' v t:=by
 induction h with
 | mk k s mn mx l a b off cap vs h0 h1 hc hr ih=>
  refine .mk k s mn mx l a b off cap vs h0 (fun hl=>?_) (fun i t hi=>?_) ih
  ·obtain⟨e,hF,hb,lZ⟩:=h1 hl
   exact⟨e,hF,Nat.lt_of_lt_of_le hb hk.size,lZ⟩
  ·obtain⟨cs,e,hcs⟩:=hc i t hi
   have hl:l≠[]:=fun e=>by rw[e]at hi;simp at hi
   obtain⟨_,hF,_⟩:=h1 hl;exact⟨cs,e,fun j u hj=>(hk.cell (p:=⟨b,off+i*8+j,none⟩) (hR b hF)).trans (hcs j u hj)⟩
theorem aL.mono {F F':Nat->Prop} {w:World} (hF:∀ b,F b->F' b) {v:Value} {t:RX} (h:aL F w v t):aL F' w v t:=by
 induction h with
 | mk k s mn mx l a b off cap vs h0 h1 hc hr ih=>exact .mk k s mn mx l a b off cap vs h0 (fun hl=>by obtain⟨e,h2,h3⟩:=h1 hl;exact⟨e,hF b h2,h3⟩) hc ih
theorem aL.qi {n:Nat} {w w':World} {v:Value} {t:RX} (h:aL (· <n) w v t) (hk:Below n w w'):aL (· <n) w' v t:=h.keeps (aa.ag hk fun _ h=>h) fun _ h=>h
theorem aL.kept {n:Nat} {w w':World} {v:Value} {t:RX} (h:aL (· <n) w v t) (hk:aa (· <n) w w'):aL (· <n) w' v t:=h.keeps hk fun _ h=>h
theorem aL.elem {F:Nat->Prop} {w:World} {k n c:Nat} {s:BS} {mn mx:Int} {p:Option Addr} {l:List RX} (h:aL F w (.agg (au k s mn mx (.slice p n c))) (.nd k s mn mx l)) {i:Nat} {t:RX} (hi:l[i]? =some t): ∃ b off p' c',p=some ⟨b,off,none⟩/\F b/\b<w.heap.size/\n<=c/\ (w.cell? ⟨b,off+i*8,none⟩=some (.int .u8 t.kind)/\w.cell? ⟨b,off+i*8+1,none⟩=some (.int .u64 (wd t.set 0).toNat)/\w.cell? ⟨b,off+i*8+2,none⟩=some (.int .u64 (wd t.set 1).toNat)/\w.cell? ⟨b,off+i*8+3,none⟩=some (.int .u64 (wd t.set 2).toNat)/\w.cell? ⟨b,off+i*8+4,none⟩=some (.int .u64 (wd t.set 3).toNat)/\w.cell? ⟨b,off+i*8+5,none⟩=some (.int .i64 t.mn)/\w.cell? ⟨b,off+i*8+6,none⟩=some (.int .i64 t.mx)/\w.cell? ⟨b,off+i*8+7,none⟩=some (.slice p' t.subs.length c'))/\ aL F w (.agg (au t.kind t.set t.mn t.mx (.slice p' t.subs.length c'))) t:=by
 generalize hv:(Value.agg (au k s mn mx (.slice p n c)))=v at h;generalize ht:RX.nd k s mn mx l=T at h;cases h with
 | mk k' s' mn' mx' l' a b off cap vs h0 h1 hc hr=>
  injection ht with e1 e2 e3 e4 e5
  subst e1 e2 e3 e4 e5;have hl:l≠[]:=fun e=>by rw[e]at hi;simp at hi
  obtain⟨ea,hF,hb,lZ⟩:=h1 hl;rw[ea]at hv;have e7:(au k s mn mx (.slice p n c))[7]? =(au k s mn mx (.slice (some ⟨b,off,none⟩) l.length cap))[7]? :=by injection hv with e;rw[e]
  have e8:Value.slice p n c=.slice (some ⟨b,off,none⟩) l.length cap:=by simpa[au]using e7
  obtain⟨rfl,rfl,rfl⟩:p=some ⟨b,off,none⟩/\n=l.length/\c=cap:=by injection e8 with a1 a2 a3;exact⟨a1,a2,a3⟩
  have ht:=hr i t hi;obtain⟨cs,ec,hcs⟩:=hc i t hi;obtain⟨p',c',ev⟩:=ht.form;rw[ev]at ht ec;injection ec with ec
  subst ec;exact⟨b,off,p',c',rfl,hF,hb,lZ,⟨hcs 0 _ rfl,hcs 1 _ rfl,hcs 2 _ rfl,hcs 3 _ rfl,hcs 4 _ rfl,hcs 5 _ rfl,hcs 6 _ rfl,hcs 7 _ rfl⟩,ht⟩
theorem aL.leaf (F:Nat->Prop) (w:World) (k:Nat) (s:BS) (mn mx:Int) (p:Option Addr) (c:Nat):aL F w (.agg (au k s mn mx (.slice p 0 c))) (.nd k s mn mx []):=
 .mk k s mn mx [] _ 0 0 0 (fun _=>undef) (fun _=>⟨p,c,rfl⟩) (fun h=>absurd rfl h) (fun i t h=>by simp at h) (fun i t h=>by simp at h)
theorem rO {P:Program} {fn:Func} {tmps:Array Value} {R:Ending->World->Prop} {v:Value} :∀ (Ds:List Nat) (W:World),Ds.Nodup->(∀ D∈Ds,W.heap[D]? =some (.deferred (some [])))-> ((results fn tmps).run P (Ds.foldl (fun W D=>W.putObj D (.deferred none)) W)=.ok v (Ds.foldl (fun W D=>W.putObj D (.deferred none)) W))->R (.returned v) (Ds.foldl (fun W D=>W.putObj D (.deferred none)) W)-> LeavesInM Fence.wide 0 P fn tmps R (Ds.map fun D=> {target:=.collected D,args:= #[]}) .returning W
 | [],W,_,_,hr,hR=>⟨v,hr,hR⟩
 | D::Ds,W,hn,hD,hr,hR=>by
  obtain⟨h1,h2⟩:=List.nodup_cons.1 hn;refine⟨by simp,.inl ⟨_,_,rfl,run_takeDeferred (hD D (List.mem_cons_self ..)),?_⟩⟩;refine rO Ds _ h2 (fun E hE=>?_) hr hR;have hne:E≠D:=fun e=>by rw[e]at hE;exact h1 hE
  exact(World.putObj_heap_other hne).trans (hD E (List.mem_cons_of_mem _ hE))
end
section
open Go Go.RowKit Go.Shelf Go.Maps
section
variable {P:Program} {ops:Array Oper}
theorem fG {rest:List Oper} {o:Oper} {a:Act} {w:World} {Q:Exit->Act->World->Prop} (hw:Region.wanted o (yielded ops a.tmps)=true) (s x:Operand) (t:TypeId) (ho:o.op=.call {callee:=.builtin .append,args:= #[s,x],argTypes:= #[t,t]}) (base:Nat) (e:TypeId) (i:TypeInfo) (z:Value) (size bytes:Nat) (ht:P.underlying t=some (.slice e)) (hi:P.info? e=some i) (hz:i.zero=some z) (hsize:i.size=size) (hby:i.bytes=bytes) (hzs:z.cells.size=size) (hsz:0<size) (v:Value) (k:Nat) (xs:List Value) (hs:a.eval s=v) (hown:w.ownsRow base e size v k xs) (ad:Addr) (m c:Nat) (news:List Value) (hx:a.eval x=.slice (some ad) m c) (hnews:∀ j u,news[j]? =some u->w.cell? (ad.add j)=some u) (hl:news.length=m*size) (h1:∀ u∈news,u.oneCell'=true) (h63:k+m<=maxLen) (hbytes:(k+m)*bytes<=140737488355328) (hbase:base<=w.heap.size) (h:∀ v' w',w'.ownsRow base e size v' (k+m) (xs++news)->w.grownBy w' v.ownBlock->(v'.ownBlock=v.ownBlock\/v'.ownBlock=some w.heap.size)->wpList P ops Q rest (a.put o.dst v') w'): wpList P ops Q (o::rest) a w:=by
 refine kz hw fun K hK=>?_
 obtain⟨v',w',hr,h2,h3,_,h5⟩:=run_append_own_at (P:=P) w base t o.type e i z size bytes ht hi hz hsize hby hzs hsz v k xs hown ad m c news hl hnews h1 h63 hbytes hbase;unfold Oper.wp execOp;simp only[ho,resolve,invoke,builtin,Sem.run_bind,Sem.run_pure,Result.andThen_ok,List.map_toArray,List.map_cons,List.map_nil,hs,hx,hr];exact hK _ _ (h v' w' h2 h3 h5)
theorem qj {rest:List Oper} {o:Oper} {a:Act} {w:World} {Q:Exit->Act->World->Prop} (hw:Region.wanted o (yielded ops a.tmps)=true) (s x:Operand) (t:TypeId) (ho:o.op=.call {callee:=.builtin .append,args:= #[s,x],argTypes:= #[t,t]}) (base:Nat) (e:TypeId) (i:TypeInfo) (z:Value) (size bytes:Nat) (ht:P.underlying t=some (.slice e)) (hi:P.info? e=some i) (hz:i.zero=some z) (hsize:i.size=size) (hby:i.bytes=bytes) (hzs:z.cells.size=size) (hsz:0<size) (b:Addr) (k:Nat) (xs:List Value) (hs:a.eval s=.slice (some b) k k) (Gg:xs.length=k*size) (holds:∀ j u,xs[j]? =some u->w.cell? (b.add j)=some u) (ad:Addr) (m c:Nat) (news:List Value) (hx:a.eval x=.slice (some ad) m c) (hnews:∀ j u,news[j]? =some u->w.cell? (ad.add j)=some u) (hl:news.length=m*size) (hm:0<m) (h63:k+m<=maxLen) (hbytes:(k+m)*bytes<=140737488355328) (hbase:base<=w.heap.size) (h:∀ v' w',w'.ownsRow base e size v' (k+m) (xs++news)->Below w.heap.size w w'->v'.ownBlock=some w.heap.size->wpList P ops Q rest (a.put o.dst v') w'): wpList P ops Q (o::rest) a w:=by
 refine kz hw fun K hK=>?_
 subst hsize;subst hby;have EZ:k+m<=9223372036854775807:=by simp only[maxLen]at h63;omega
 have hr:=run_append_grow (P:=P) w t o.type e i z ht hi hz b k k xs Gg holds ad m c news hl hnews (by omega) (by omega) (growslice_fits (by omega) hbytes);unfold Oper.wp execOp;simp only[ho,resolve,invoke,builtin,Sem.run_bind,Sem.run_pure,Result.andThen_ok,List.map_toArray,List.map_cons,List.map_nil,hs,hx,hr];have Qg:=grownCap_ge w (k+m) k e;have hcm:grownCap w (k+m) k e<=maxLen:=grownCap_le_maxLen w (k+m) k e h63;have hlen:(xs++news).length=(k+m)*i.size:=by rw[List.length_append,Gg,hl,Nat.add_mul]
 refine hK _ _ (h _ _ ⟨hlen,.inr ⟨w.heap.size,_,_,rfl,hbase,heap_alloc_new w.drew _,Qg,hcm,?_,?_⟩⟩ ((Ext.refl w).drew.alloc _).below rfl)
 ·simp only[Array.size_append,List.size_toArray,size_zeroCells,hzs,Gg,hl, <-Nat.add_mul]
  congr 1
  omega
 ·simp only[Array.toList_append,List.append_assoc]
  rw[<-List.append_assoc, <-hlen];exact List.take_left
end
def bI (cs:List (Array Value)):List Value:=cs.flatMap Array.toList
theorem ig:∀ {cs:List (Array Value)},(∀ c∈cs,c.size=8)->(bI cs).length=cs.length*8
 | [],_=>rfl
 | c::cs,h=>by
  unfold bI;rw[List.flatMap_cons,List.length_append,List.length_cons];have:=ig fun x hx=>h x (List.mem_cons_of_mem _ hx)
  unfold bI at this;rw[this,Array.length_toList,h c (List.mem_cons_self ..)];omega
theorem jn:∀ {cs:List (Array Value)} {i j:Nat} {c:Array Value} {u:Value},(∀ c∈cs,c.size=8)->cs[i]? =some c->c[j]? =some u->(bI cs)[i*8+j]? =some u
 | x::cs,0,j,c,u,h,hi,hj=>by
  simp at hi;subst hi;unfold bI;have hl:=(Array.getElem?_eq_some_iff.1 hj).1;rw[List.flatMap_cons,List.getElem?_append_left (by rw[Array.length_toList];omega),Nat.zero_mul,Nat.zero_add,Array.getElem?_toList];exact hj
 | x::cs,i+1,j,c,u,h,hi,hj=>by
  have ih:=jn (cs:=cs) (i:=i) (fun y hy=>h y (List.mem_cons_of_mem _ hy)) (by simpa using hi) hj;unfold bI at ih ⊢;rw[List.flatMap_cons,List.getElem?_append_right (by rw[Array.length_toList,h x (List.mem_cons_self ..)];omega), <-ih];congr 1;rw[Array.length_toList,h x (List.mem_cons_self ..)];omega
theorem nM (a b:List (Array Value)):bI (a++b)=bI a++bI b:=by unfold bI;rw[List.flatMap_append]
theorem cP (k:Nat) (s:BS) (mn mx:Int) (p:Option Addr) (n c:Nat):(au k s mn mx (.slice p n c)).size=8/\∀ u∈(au k s mn mx (.slice p n c)).toList,u.oneCell'=true:=by refine⟨rfl,fun u hu=>?_⟩;simp[au]at hu;rcases hu with rfl | rfl | rfl | rfl | rfl | rfl | rfl | rfl<;>rfl
def cd (base:Nat) (w:World) (v:Value) (l:List RX):Prop:=∃ cs:List (Array Value),cs.length=l.length/\w.ownsRow base 62 8 v l.length (bI cs)/\(∀ c∈cs,c.size=8/\∀ u∈c.toList,u.oneCell'=true)/\
 ∀ (i:Nat) (c:Array Value) (t:RX),cs[i]? =some c->l[i]? =some t->aL (fun x=>base<=x/\x<w.heap.size/\v.ownBlock≠some x) w (.agg c) t
theorem cd.nil (base:Nat) (w:World):cd base w (.slice none 0 0) []:=⟨[],rfl,World.ownsRow_nil _ _ _ _,(fun _ h=>nomatch h),fun i c t h=>by simp at h⟩
theorem cd.form {base:Nat} {w:World} {v:Value} {l:List RX} (h:cd base w v l):∃ a c,v=.slice a l.length c:=by obtain⟨cs,h1,h2,h3,h4⟩:=h;exact ownsRow_form h2
theorem cd.keeps {base:Nat} {R:Nat->Prop} {w w':World} {v:Value} {l:List RX} (h:cd base w v l) (hk:aa R w w') (hR:∀ x,x<w.heap.size->base<=x\/v.ownBlock≠some x->R x):cd base w' v l:=by obtain⟨cs,h1,h2,h3,h4⟩:=h;refine⟨cs,h1,aj h2 hk fun x hx=>hR x (h2.lt x hx).2 (.inl (h2.lt x hx).1),h3,fun i c t hi ht=>?_⟩;exact((h4 i c t hi ht).keeps hk fun x hx=>hR x hx.2.1 (.inl hx.1)).mono fun x hx=>⟨hx.1,Nat.lt_of_lt_of_le hx.2.1 hk.size,hx.2.2⟩
theorem cd.below {base:Nat} {w w':World} {v:Value} {l:List RX} (h:cd base w v l) (hk:Below w.heap.size w w'):cd base w' v l:=h.keeps (aa.ag hk fun _ h=>h:aa (· <w.heap.size) w w') fun _ hx _=>hx
theorem cd.elem {base:Nat} {w:World} {a:Option Addr} {n cap:Nat} {l:List RX} (h:cd base w (.slice a n cap) l) {i:Nat} {t:RX} (hi:l[i]? =some t): ∃ g p' c',a=some ⟨g,0,none⟩/\n=l.length/\n<=cap/\base<=g/\g<w.heap.size/\ (w.cell? ⟨g,i*8,none⟩=some (.int .u8 t.kind)/\w.cell? ⟨g,i*8+1,none⟩=some (.int .u64 (wd t.set 0).toNat)/\w.cell? ⟨g,i*8+2,none⟩=some (.int .u64 (wd t.set 1).toNat)/\w.cell? ⟨g,i*8+3,none⟩=some (.int .u64 (wd t.set 2).toNat)/\w.cell? ⟨g,i*8+4,none⟩=some (.int .u64 (wd t.set 3).toNat)/\w.cell? ⟨g,i*8+5,none⟩=some (.int .i64 t.mn)/\w.cell? ⟨g,i*8+6,none⟩=some (.int .i64 t.mx)/\w.cell? ⟨g,i*8+7,none⟩=some (.slice p' t.subs.length c'))/\ aL (fun x=>base<=x/\x<w.heap.size/\x≠g) w (.agg (au t.kind t.set t.mn t.mx (.slice p' t.subs.length c'))) t:=by
 obtain⟨cs,h1,h2,h3,h4⟩:=h;have jK:=(List.getElem?_eq_some_iff.1 hi).1;obtain⟨c,hc⟩:∃ c,cs[i]? =some c:=⟨_,List.getElem?_eq_getElem (by omega)⟩;have hr:=h4 i c t hc hi;obtain⟨p',c',e⟩:=hr.form;injection e with e
 subst e;rcases h2.2 with⟨e1,e2⟩ | ⟨g,cap',cur,e1,e2,e3,e4,e5,_⟩
 ·exfalso;omega
 ·injection e1 with a1 a2 a3
  subst a1 a2 a3;have hlt:=h2.lt g rfl;have ce:∀ (j:Nat) (u:Value),(au t.kind t.set t.mn t.mx (.slice p' t.subs.length c'))[j]? =some u->w.cell? ⟨g,i*8+j,none⟩=some u:=fun j u hj=>by
   have:=h2.cells (g:=g) rfl _ _ (jn (fun c hc=>(h3 c hc).1) hc hj);rw[Addr.add_mid]at this;simpa using this
  refine⟨g,p',c',rfl,rfl,e4,hlt.1,hlt.2,⟨ce 0 _ rfl,ce 1 _ rfl,ce 2 _ rfl,ce 3 _ rfl,ce 4 _ rfl,ce 5 _ rfl,ce 6 _ rfl,ce 7 _ rfl⟩,?_⟩;exact hr.mono fun x hx=>⟨hx.1,hx.2.1,fun e=>hx.2.2 (by rw[e];rfl)⟩
theorem cd.app {base:Nat} {w w':World} {v v':Value} {l l2:List RX} {cs cs2:List (Array Value)} (h1:cs.length=l.length) (h3:∀ c∈cs,c.size=8/\∀ u∈c.toList,u.oneCell'=true) (h4:∀ (i:Nat) (c:Array Value) (t:RX),cs[i]? =some c->l[i]? =some t->aL (fun x=>base<=x/\x<w.heap.size/\v.ownBlock≠some x) w (.agg c) t) (g1:cs2.length=l2.length) (g3:∀ c∈cs2,c.size=8/\∀ u∈c.toList,u.oneCell'=true) (g4:∀ (i:Nat) (c:Array Value) (t:RX),cs2[i]? =some c->l2[i]? =some t->aL (fun x=>base<=x/\x<w.heap.size/\v.ownBlock≠some x) w (.agg c) t) (ho:w'.ownsRow base 62 8 v' (l.length+l2.length) (bI cs++bI cs2)) (hg:w.grownBy w' v.ownBlock) (lY:v'.ownBlock=v.ownBlock\/v'.ownBlock=some w.heap.size):cd base w' v' (l++l2):=by
 have key:∀ (c:Array Value) (t:RX),aL (fun x=>base<=x/\x<w.heap.size/\v.ownBlock≠some x) w (.agg c) t->aL (fun x=>base<=x/\x<w'.heap.size/\v'.ownBlock≠some x) w' (.agg c) t:=fun c t h=>by
  refine(h.keeps (aa.bG hg fun x (hx:base<=x/\x<w.heap.size/\v.ownBlock≠some x)=>⟨hx.2.1,fun e=>hx.2.2 e.symm⟩) fun x hx=>hx).mono fun x hx=>⟨hx.1,Nat.lt_of_lt_of_le hx.2.1 hg.size,fun e=>?_⟩
  rcases lY with e2 | e2
  ·exact hx.2.2 (by rw[<-e2,e])
  ·rw[e2]at e
   cases e
   exact Nat.lt_irrefl _ hx.2.1
 refine⟨cs++cs2,by simp[h1,g1],by rw[List.length_append,nM];exact ho,fun c hc=>(List.mem_append.1 hc).elim (h3 c) (g3 c),fun i c t hi ht=>?_⟩;rcases Nat.lt_or_ge i l.length with jK | jK
 ·rw[List.getElem?_append_left (by omega)]at hi ht
  exact key c t (h4 i c t hi ht)
 ·rw[List.getElem?_append_right (by omega)]at hi ht
  rw[h1]at hi;exact key c t (g4 _ c t hi ht)
end
section
open Go Go.RowKit
def eu (n:Nat):List Nat:=[[97],[98],[97,98],[97],[98],[99],[97,98,99],[98,99],[10],[0,255],[97],[98]].getD (n%12) []
def ql (n:Nat):RX:=.nd 2 (oJ fun c=>(eu n).contains c) 0 0 []
def dN:RX:=.nd 1 0 0 0 []
def ew (kind:Nat) (x:RX):List RX:=if x.kind=kind then x.subs else if kind=3/\x.kind=1 then []else [x]
def gT (kind:Nat) (l:List RX):RX:=match l with | []=>dN | [x]=>x | x::y::r=>.nd kind 0 0 0 (x::y::r)
def cF (kind:Nat) (a b:RX):RX:=gT kind (ew kind a++ew kind b)
structure dH where
 all:List RX
 oC:Nat
 Ap:Nat
def dH.last (P:dH):RX:=P.all.getD (P.all.length-1) dN
def dH.iX (P:dH):RX:=P.all.getD (P.all.length-2) dN
def dH.put (P:dH) (k:Nat) (x:RX):List RX:=P.all.take (P.all.length-k)++ [x]
def fH (n:Nat):Nat:=n%3
def kM (n m:Nat):Int:=if m%4<fH n\/m%4=0\/(fH n=1/\m%4=1)then-1 else((m%4:Nat):Int)
def jo (n m:Nat):Nat:=(max (max (fH n:Int) (kM n m)) 1).toNat
def dH.step (P:dH) (s:Nat×Nat×Nat):dH:=
 if s.1%12<4 then⟨P.put 0 (ql s.2.1),P.oC,P.Ap⟩else
 if s.1%12=4 then⟨P.put 0 dN,P.oC,P.Ap⟩else
 if s.1%12<7/\1<P.all.length then⟨P.put 2 (cF 3 P.iX P.last),P.oC,P.Ap⟩else
 if s.1%12<9/\1<P.all.length then⟨P.put 2 (cF 4 P.iX P.last),P.oC,P.Ap⟩else
 if s.1%12=9/\0<P.all.length/\P.Ap<9 then⟨P.put 1 (.nd 6 0 0 0 [P.last]),P.oC,P.Ap+1⟩else
 if 9<s.1%12/\0<P.all.length/\P.last.kind≠1 then
  if P.oC*jo s.2.1 s.2.2<=16 then⟨P.put 1 (.nd 5 0 (fH s.2.1) (kM s.2.1 s.2.2) [P.last]),P.oC*jo s.2.1 s.2.2,P.Ap⟩else P
 else P
def jQ (l:List (Nat×Nat×Nat)):dH:=l.foldl dH.step ⟨[],1,0⟩
def aeW (l:List RX):RX:=match l with | []=>ql 0 | x::r=>r.foldl (cF 4) x
def dc (l:List (Nat×Nat×Nat)):RX:=aeW (jQ (l.take 25)).all
def RX.fine (t:RX):Prop:=∀ x∈t.pre,x.dG=true
theorem nN {k:Nat} {s:BS} {a b:Int} {l:List RX} :(RX.nd k s a b l).fine↔(RX.nd k s a b l).dG=true/\∀ t∈l,t.fine:=by
 constructor
 ·intro h
  exact EY h
 ·rintro⟨h1,h2⟩ x hx
  rw[RX.pre]at hx;rcases List.mem_cons.1 hx with rfl | hx
  ·exact h1
  ·have:∀ l':List RX,(∀ t∈l',t.fine)->x∈RX.mS l'->x.dG=true:=by
    intro l';induction l' with
    | nil=>intro _ h;rw[RX.mS]at h;cases h
    | cons y l' ih=>
     intro hf h;rw[RX.mS]at h;rcases List.mem_append.1 h with h | h
     ·exact hf y (List.mem_cons_self ..) x h
     ·exact ih (fun t ht=>hf t (List.mem_cons_of_mem _ ht)) h
   exact this l h2 hx
theorem vo {t:RX} (h:t.fine):t.dG=true:=h t (Ik t)
theorem OH {t:RX} (h:t.fine):∀ x∈t.subs,x.fine:=by
 cases t with
 | nd k s a b l=>exact(nN.1 h).2
theorem Im (n:Nat):(oJ fun c=>(eu n).contains c)≠0:=by
 have h:n%12<12:=Nat.mod_lt _ (by decide);have key:∀ k,k<12->(oJ fun c=>(eu k).contains c)≠0:=by decide+kernel
 have e:eu n=eu (n%12):=by unfold eu;rw[Nat.mod_mod]
 rw[e];exact key _ h
theorem wB (n:Nat):(ql n).fine:=by
 refine nN.2 ⟨?_,fun t h=>by cases h⟩;obtain⟨s,hs⟩:∃ s,s=oJ fun c=>(eu n).contains c:=⟨_,rfl⟩
 have h:=Im n;rw[<-hs]at h ⊢;unfold RX.dG RX.kind RX.set RX.mn RX.mx RX.subs;simpa using h
theorem wC:dN.fine:=nN.2 ⟨by decide,fun t h=>by cases h⟩
theorem eK (a b:List RX):RX.sizes (a++b)=RX.sizes a+RX.sizes b:=by
 induction a with
 | nil=>simp[RX.sizes]
 | cons x a ih=>rw[List.cons_append,RX.sizes,RX.sizes,ih];omega
theorem eL (a b:List RX):RX.bL (a++b)=RX.bL a+RX.bL b:=by
 induction a with
 | nil=>simp[RX.bL]
 | cons x a ih=>rw[List.cons_append,RX.bL,RX.bL,ih];omega
theorem size_pos (t:RX):1<=t.size:=by cases t;rw[RX.size];omega
theorem De (t:RX):RX.sizes t.subs+1=t.size:=by cases t;rw[RX.size,RX.subs];omega
theorem r9 {k:Nat} (hk:k=3\/k=4) {x:RX} (h:x.fine):(∀ t∈ew k x,t.fine/\t.kind≠k/\(k=3->t.kind≠1))/\RX.sizes (ew k x)<=x.size/\(x.kind=k->RX.sizes (ew k x)+1<=x.size)/\min (RX.bL (ew k x)) 10001<=x.cO:=by
 unfold ew;by_cases h1:x.kind=k
 ·rw[if_pos h1]
  have hs:=De x;refine⟨fun t ht=>⟨OH h t ht,?_⟩,by omega,fun _=>by omega,?_⟩
  ·have hr:=vo h
   unfold RX.dG at hr;split at hr
   ·cases hr
   ·have hh:∀ j,x.has j=false->t.kind≠j:=fun j hj=>by
     unfold RX.has at hj;have:=List.any_eq_false.1 hj t ht;simpa using this
    rcases hk with rfl | rfl
    ·simp[h1]at hr
     exact⟨hh 3 hr.2,fun _=>hh 1 hr.1.2⟩
    ·simp[h1]at hr
     exact⟨hh 4 hr.2,fun e=>by omega⟩
  ·cases x with
   | nd k' s a b l=>
    have e:k'=k:=h1;subst e;rw[RX.subs,RX.cO,if_neg (by omega),if_neg (by omega)];omega
 ·rw[if_neg h1]
  by_cases h2:k=3/\x.kind=1
  ·rw[if_pos h2]
   exact⟨fun t ht=>by(cases ht),by simp[RX.sizes],fun e=>absurd e h1,by simp[RX.bL]⟩
  ·rw[if_neg h2]
   refine⟨fun t ht=>?_,by simp[RX.sizes],fun e=>absurd e h1,?_⟩
   ·rw[List.mem_singleton.1 ht]
    exact⟨h,h1,fun e=>fun e2=>h2 ⟨e,e2⟩⟩
   ·simp[RX.bL];omega
theorem Fa {k:Nat} (hk:k=3\/k=4) {l:List RX} (h:∀ t∈l,t.fine/\t.kind≠k/\(k=3->t.kind≠1)):(gT k l).fine/\(gT k l).size<=RX.sizes l+1/\(gT k l).cO<=RX.bL l:=by
 match l with
 | []=>exact⟨wC,by simp[gT,dN,RX.size,RX.sizes],by simp[gT,dN,RX.cO,RX.bL]⟩
 | [x]=>
  refine⟨(h x (List.mem_cons_self ..)).1,?_,?_⟩
  ·simp[gT,RX.sizes]
  ·simp[gT,RX.bL]
 | x::y::r=>
  refine⟨nN.2 ⟨?_,fun t ht=>(h t ht).1⟩,?_,?_⟩
  ·have hh:∀ j,(∀ t∈x::y::r,t.kind≠j)->(RX.nd k 0 0 0 (x::y::r)).has j=false:=fun j hj=>by
    unfold RX.has;rw[List.any_eq_false];intro t ht;simpa using hj t ht
   unfold RX.dG;rw[if_neg (by rintro(h | h | h)<;>simp[RX.kind,RX.set,RX.mn,RX.mx]at h;omega)];rcases hk with rfl | rfl
   ·rw[hh 1 fun t ht=>(h t ht).2.2 rfl,hh 3 fun t ht=>(h t ht).2.1]
    simp[RX.kind,RX.subs]
   ·rw[hh 4 fun t ht=>(h t ht).2.1]
    simp[RX.kind,RX.subs]
  ·show RX.size (.nd k 0 0 0 (x::y::r))<=_
   rw[RX.size];omega
  ·show RX.cO (.nd k 0 0 0 (x::y::r))<=_
   rw[RX.cO,if_neg (by omega),if_neg (by omega)];omega
theorem Fb (t:RX):t.cO<=10001:=by cases t;rw[RX.cO];omega
theorem wD {k:Nat} (hk:k=3\/k=4) {a b:RX} (ha:a.fine) (hb:b.fine):(cF k a b).fine/\(cF k a b).size<=a.size+b.size+1/\(cF k a b).cO<=a.cO+b.cO:=by
 obtain⟨a1,a2,_,a4⟩:=r9 hk ha;obtain⟨b1,b2,_,b4⟩:=r9 hk hb;obtain⟨g1,g2,g3⟩:=Fa hk (l:=ew k a++ew k b) fun t ht=>(List.mem_append.1 ht).elim (a1 t) (b1 t)
 rw[eK]at g2;rw[eL]at g3;have:=Fb (cF k a b);refine⟨g1,?_,?_⟩
 ·show(gT k (ew k a++ew k b)).size<=_
  omega
 ·have e:(cF k a b).cO=(gT k (ew k a++ew k b)).cO:=rfl
  omega
theorem SV (a b:Int) (s:BS) (x:RX):(RX.nd 5 s a b [x]).cO<=x.cO*RX.times a b:=by rw[RX.cO,if_neg (by decide),if_pos rfl,RX.bL,RX.bL,Nat.zero_add,Nat.add_zero];refine Nat.le_trans (Nat.min_le_left _ _) (Nat.mul_le_mul_left _ (Nat.min_le_left _ _))
theorem yZ (n m:Nat):jv (fH n) (kM n m)=true/\RX.times (fH n) (kM n m)=jo n m/\1<=jo n m:=by
 have h1:n%3<3:=Nat.mod_lt _ (by decide);have h2:m%4<4:=Nat.mod_lt _ (by decide);unfold jo kM fH;generalize n%3=p at*;generalize m%4=q at*;have key:∀ p:Nat,p<3->∀ q:Nat,q<4->jv (p:Int) (if q<p\/q=0\/(p=1/\q=1)then-1 else(q:Int))=true/\RX.times (p:Int) (if q<p\/q=0\/(p=1/\q=1)then-1 else(q:Int))=(max (max (p:Int) (if q<p\/q=0\/(p=1/\q=1)then-1 else(q:Int))) 1).toNat/\1<=(max (max (p:Int) (if q<p\/q=0\/(p=1/\q=1)then-1 else(q:Int))) 1).toNat:=by decide+kernel
 exact key p h1 q h2
structure dH.ok (P:dH) (c:Nat):Prop where
 fine:∀ t∈P.all,t.fine
 kind:∀ t∈P.all,t.kind≠0
 size:RX.sizes P.all<=c
 cO:RX.bL P.all<=c*P.oC
 oC:1<=P.oC
 Df:P.oC<=16
 len:P.all.length<=c
theorem mU {l:List RX} (h:0<l.length):l=l.take (l.length-1)++ [l.getD (l.length-1) dN]:=by
 have e:l.getD (l.length-1) dN=l[l.length-1]'(by omega):=by rw[List.getD_eq_getElem?_getD,List.getElem?_eq_getElem (by omega)];rfl
 rw[e,List.take_append_getElem (by omega),show l.length-1+1=l.length by omega,List.take_length]
theorem Lc {l:List RX} (h:1<l.length):l=l.take (l.length-2)++ [l.getD (l.length-2) dN,l.getD (l.length-1) dN]:=by
 have e1:=mU (l:=l) (by omega);have e2:=mU (l:=l.take (l.length-1)) (by simp;omega);rw[List.length_take,Nat.min_eq_left (by omega),show l.length-1-1=l.length-2 by omega]at e2;rw[List.take_take,Nat.min_eq_left (by omega)]at e2;have e3:(l.take (l.length-1)).getD (l.length-2) dN=l.getD (l.length-2) dN:=by rw[List.getD_eq_getElem?_getD,List.getD_eq_getElem?_getD,List.getElem?_take,if_pos (by omega)]
 rw[e3]at e2;rw[e2]at e1;rw[e1.trans (List.append_assoc _ _ _)];simp
theorem qW {l:List RX} {k:Nat} (h:k<l.length):l.getD k dN∈l:=by rw[List.getD_eq_getElem?_getD,List.getElem?_eq_getElem h];exact List.getElem_mem h
theorem qX {t:RX} (h:t.fine):t.kind≠0:=(cW t (vo h)).2.2.1
theorem dH.ok.more {P:dH} {c:Nat} (h:P.ok c):P.ok (c+1):=
 ⟨h.fine,h.kind,by have:=h.size;omega,by have:=h.cO;rw[Nat.succ_mul];omega,h.oC,h.Df,by have:=h.len;omega⟩
theorem dH.ok.push {P:dH} {c:Nat} (h:P.ok c) {x:RX} (hx:x.fine) (hs:x.size<=1) (hp:x.cO<=1):(⟨P.put 0 x,P.oC,P.Ap⟩:dH).ok (c+1):=by
 have e:P.put 0 x=P.all++ [x]:=by unfold dH.put;rw[Nat.sub_zero,List.take_length]
 have hf:∀ t∈P.put 0 x,t.fine:=fun t ht=>by
  rw[e]at ht;rcases List.mem_append.1 ht with ht | ht
  ·exact h.fine t ht
  ·rw[List.mem_singleton.1 ht];exact hx
 refine⟨hf,fun t ht=>qX (hf t ht),?_,?_,h.oC,h.Df,?_⟩
 ·show RX.sizes (P.put 0 x)<=_
  rw[e,eK];have:=h.size;simp[RX.sizes];omega
 ·show RX.bL (P.put 0 x)<=(c+1)*P.oC
  rw[e,eL,Nat.succ_mul];have:=h.cO;have:=h.oC;simp[RX.bL];omega
 ·show(P.put 0 x).length<=_
  rw[e];have:=h.len;simp;omega
theorem dH.ok.join {P:dH} {c:Nat} (h:P.ok c) {k:Nat} (hk:k=3\/k=4) (hn:1<P.all.length):(⟨P.put 2 (cF k P.iX P.last),P.oC,P.Ap⟩:dH).ok (c+1):=by
 have e:=Lc hn;obtain⟨g1,g2,g3⟩:=wD hk (h.fine _ (qW (show P.all.length-2<P.all.length by omega))) (h.fine _ (qW (show P.all.length-1<P.all.length by omega)));have hf:∀ t∈P.put 2 (cF k P.iX P.last),t.fine:=fun t ht=>by
  rcases List.mem_append.1 ht with ht | ht
  ·exact h.fine t (List.mem_of_mem_take ht)
  ·rw[List.mem_singleton.1 ht];exact g1
 have hs:=h.size;have hp:=h.cO;have hl:=h.len;rw[e,eK]at hs;rw[e,eL]at hp;simp only[RX.sizes,RX.bL]at hs hp;refine⟨hf,fun t ht=>qX (hf t ht),?_,?_,h.oC,h.Df,?_⟩
 ·show RX.sizes (P.all.take (P.all.length-2)++ [cF k P.iX P.last])<=_
  rw[eK];simp only[RX.sizes];show _+((cF k (P.all.getD (P.all.length-2) dN) (P.all.getD (P.all.length-1) dN)).size+0)<=_;omega
 ·show RX.bL (P.all.take (P.all.length-2)++ [cF k P.iX P.last])<=(c+1)*P.oC
  rw[eL,Nat.succ_mul];simp only[RX.bL];show _+((cF k (P.all.getD (P.all.length-2) dN) (P.all.getD (P.all.length-1) dN)).cO+0)<=_;omega
 ·show(P.all.take (P.all.length-2)++ [cF k P.iX P.last]).length<=_
  rw[List.length_append,List.length_take];simp;omega
theorem dH.ok.turn {P:dH} {c:Nat} (h:P.ok c) (hn:0<P.all.length) {x:RX} {f:Nat} (hx:x.fine) (hs:x.size<=P.last.size+1) (hp:x.cO<=P.last.cO*f) (Oc:1<=f) (ajV:P.oC*f<=16) (g:Nat):(⟨P.put 1 x,P.oC*f,g⟩:dH).ok (c+1):=by
 have e:=mU hn;have hf:∀ t∈P.put 1 x,t.fine:=fun t ht=>by
  rcases List.mem_append.1 ht with ht | ht
  ·exact h.fine t (List.mem_of_mem_take ht)
  ·rw[List.mem_singleton.1 ht];exact hx
 have hs2:=h.size;have Hi:=h.cO;have hl:=h.len;have hu:=h.oC;rw[e,eK]at hs2;rw[e,eL]at Hi;simp only[RX.sizes,RX.bL]at hs2 Hi;refine⟨hf,fun t ht=>qX (hf t ht),?_,?_,Nat.mul_pos hu Oc,ajV,?_⟩
 ·show RX.sizes (P.all.take (P.all.length-1)++ [x])<=_
  rw[eK];simp only[RX.sizes];have:P.last.size=(P.all.getD (P.all.length-1) dN).size:=rfl;omega
 ·show RX.bL (P.all.take (P.all.length-1)++ [x])<=(c+1)*(P.oC*f)
  rw[eL];simp only[RX.bL];have e2:P.last.cO=(P.all.getD (P.all.length-1) dN).cO:=rfl;rw[e2]at hp;have h1:RX.bL (P.all.take (P.all.length-1))+(P.all.getD (P.all.length-1) dN).cO*f<=(RX.bL (P.all.take (P.all.length-1))+(P.all.getD (P.all.length-1) dN).cO)*f:=by rw[Nat.add_mul];exact Nat.add_le_add_right (Nat.le_mul_of_pos_right _ Oc) _
  have h2:(RX.bL (P.all.take (P.all.length-1))+(P.all.getD (P.all.length-1) dN).cO)*f<=c*P.oC*f:=Nat.mul_le_mul_right _ (by omega);have h3:(c+1)*(P.oC*f)=c*P.oC*f+P.oC*f:=by rw[Nat.succ_mul,Nat.mul_assoc]
  omega
 ·show(P.all.take (P.all.length-1)++ [x]).length<=_
  rw[List.length_append,List.length_take];simp;omega
theorem Ld {x:RX} (h:x.fine):(RX.nd 6 0 0 0 [x]).fine/\(RX.nd 6 0 0 0 [x]).size<=x.size+1/\(RX.nd 6 0 0 0 [x]).cO<=x.cO*1:=by
 refine⟨nN.2 ⟨?_,fun t ht=>by rw[List.mem_singleton.1 ht];exact h⟩,?_,?_⟩
 ·unfold RX.dG
  simp[RX.kind,RX.set,RX.mn,RX.mx,RX.subs]
 ·simp[RX.size,RX.sizes];omega
 ·rw[RX.cO,if_neg (by decide),if_neg (by decide),RX.bL,RX.bL];omega
theorem SY {x:RX} (h:x.fine) (hk:x.kind≠1) (n m:Nat):(RX.nd 5 0 (fH n) (kM n m) [x]).fine/\(RX.nd 5 0 (fH n) (kM n m) [x]).size<=x.size+1:=by
 refine⟨nN.2 ⟨?_,fun t ht=>by rw[List.mem_singleton.1 ht];exact h⟩,?_⟩
 ·have hh:(RX.nd 5 0 (fH n) (kM n m) [x]).has 1=false:=by
   unfold RX.has RX.subs;simpa using hk
  unfold RX.dG;rw[if_neg (by rintro(h | h | h)<;>simp[RX.kind,RX.set,RX.mn,RX.mx]at h),hh];simp[RX.kind,RX.subs,RX.mn,RX.mx,(yZ n m).1]
 ·simp[RX.size,RX.sizes];omega
theorem dH.ok.step {P:dH} {c:Nat} (h:P.ok c) (s:Nat×Nat×Nat):(P.step s).ok (c+1):=by
 unfold dH.step;split
 ·exact h.push (wB _) (by simp[ql,RX.size,RX.sizes]) (by simp[ql,RX.cO,RX.bL])
 split
 ·exact h.push wC (by decide) (by decide)
 split
 ·rename_i hc;exact h.join (.inl rfl) hc.2
 split
 ·rename_i hc;exact h.join (.inr rfl) hc.2
 split
 ·rename_i hc
  obtain⟨g1,g2,g3⟩:=Ld (h.fine _ (qW (show P.all.length-1<P.all.length by omega)));have:=h.turn hc.2.1 g1 g2 g3 (Nat.le_refl 1) (by rw[Nat.mul_one];exact h.Df) (P.Ap+1);rwa[Nat.mul_one]at this
 split
 ·rename_i hc
  split
  ·rename_i hu
   obtain⟨r1,r2,r3⟩:=yZ s.2.1 s.2.2;obtain⟨g1,g2⟩:=SY (h.fine _ (qW (show P.all.length-1<P.all.length by omega))) hc.2.2 s.2.1 s.2.2;exact h.turn hc.2.1 g1 g2 (by rw[<-r2];exact SV _ _ _ _) r3 hu P.Ap
  ·exact h.more
 ·exact h.more
theorem zf (l:List (Nat×Nat×Nat)):(jQ l).ok l.length:=by
 have:∀ (l:List (Nat×Nat×Nat)) (P:dH) (c:Nat),P.ok c->(l.foldl dH.step P).ok (c+l.length):=by
  intro l;induction l with
  | nil=>intro P c h;exact h
  | cons s l ih=>
   intro P c h;rw[List.foldl_cons,List.length_cons,show c+(l.length+1)=c+1+l.length by omega];exact ih _ _ (h.step s)
 have h:=this l ⟨[],1,0⟩ 0 ⟨fun t ht=>by(cases ht),fun t ht=>by(cases ht),by simp[RX.sizes],by simp[RX.bL],Nat.le_refl _,by decide,Nat.zero_le _⟩;rwa[Nat.zero_add]at h
theorem se:∀ (r:List RX) (x:RX),x.fine->(∀ t∈r,t.fine)->(r.foldl (cF 4) x).fine/\(r.foldl (cF 4) x).size<=x.size+RX.sizes r+r.length/\(r.foldl (cF 4) x).cO<=x.cO+RX.bL r
 | [],x,h,_=>⟨h,by simp[RX.sizes],by simp[RX.bL]⟩
 | y::r,x,h,hr=>by
  rw[List.foldl_cons,List.length_cons,RX.sizes,RX.bL];obtain⟨g1,g2,g3⟩:=wD (.inr rfl) h (hr y (List.mem_cons_self ..)) (k:=4);obtain⟨k1,k2,k3⟩:=se r _ g1 fun t ht=>hr t (List.mem_cons_of_mem _ ht)
  exact⟨k1,by omega,by omega⟩
structure Le (t:RX):Prop where
 fine:t.fine
 size:t.size<=60
 cO:t.cO<=400
theorem qm (l:List (Nat×Nat×Nat)):Le (dc l):=by
 have H:=zf (l.take 25);have hl:(l.take 25).length<=25:=by rw[List.length_take];omega
 have h16:=H.Df;have hlen:=H.len;have hsz:=H.size;have Mh:RX.bL (jQ (l.take 25)).all<=400:=Nat.le_trans H.cO (Nat.le_trans (Nat.mul_le_mul hl h16) (by decide));have YE:=H.fine;unfold dc;generalize (jQ (l.take 25)).all=p at*;cases p with
 | nil=>exact⟨wB 0,by decide,by decide+kernel⟩
 | cons x r=>
  rw[RX.sizes]at hsz;rw[RX.bL]at Mh;rw[List.length_cons]at hlen;obtain⟨g1,g2,g3⟩:=se r x (YE x (List.mem_cons_self ..)) fun t ht=>YE t (List.mem_cons_of_mem _ ht)
  exact⟨g1,by show(r.foldl (cF 4) x).size<=60;omega,by show(r.foldl (cF 4) x).cO<=400;omega⟩
theorem Le.clean {t:RX} (h:Le t):t.clean=true:=by unfold RX.clean;rw[Bool.and_eq_true,List.all_eq_true];exact⟨decide_eq_true (by have:=h.size;omega),h.fine⟩
end
end Go.Proofs.YtalombmiochpmaaGreatDoor
