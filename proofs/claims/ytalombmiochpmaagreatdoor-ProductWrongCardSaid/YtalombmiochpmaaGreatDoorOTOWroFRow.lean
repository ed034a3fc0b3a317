/- ProductWrong returns true for any small steps, any small steps, any byte, any integer; the arguments read behind the call as they did. No condition. A tied card: the three listed tables hold at the call what the program's text lays. Printed by wip/gen/drow.py. -/
import Derived.Test.YtalombmiochpmaaGreatDoorCards
import Derived.Test.YtalombmiochpmaaGreatDoorTie
import Derived.Deep.DeepHandedRow
import Derived.Stop.LaidErr
import Derived.Test.YtalombmiochpmaaGreatDoorOR36
set_option maxRecDepth 100000
set_option maxHeartbeats 16000000
open Go.Lib (hid)
namespace Go.Proofs.YtalombmiochpmaaGreatDoor
section
open Go Go.RowKit Go.WideShapes Go.ChangeShapes Go.ChangeAt Go.Deep
section
variable {H:Type} {enc:TypeId×Value→H} {P:Program}
end
section
variable {H:Type} {enc:TypeId×Value→H} {W:World} {base:Nat} {sp:Nat→Bool}
end
end
section
open Go Go.ChangeShapes Go.WideShapes Go.ChangeAt Go.RowKit
section
variable {H:Type} {enc:TypeId×Value→H} {W:World}
theorem Ya {r:Go.Reach} {v:Value} {d:DataW H} {p:List MemPlace} {b0:Nat} (ou:Value.okWide Tryz.prog W r b0 5 v) (h:DataW.Trod enc Tryz.prog W 0 (fun _=>true) true 5 v d p):∃ n:Nat,v=.int .u8 n/\n<256:=by obtain⟨n,rfl,_,_,hw⟩:=open_int Tryz.underlying5 ou h;have:=jx hw;exact⟨n.toNat,by rw[Int.toNat_of_nonneg this.1],by omega⟩
end
end
section
open Go Go.RowKit Go.Shelf Go.Maps
section
variable {α:Type} [DecidableEq α]
theorem qB {f:Nat} {st fT:List α×List Nat} {q:α} (h:dI f st q=some fT):st.1.length<=fT.1.length:=by
 unfold dI at h;split at h
 ·split at h
  ·cases h
  ·cases h;simp
 ·cases h;exact Nat.le_refl _
theorem vA {f g:Nat} {st fT:List α×List Nat} {q:α} (h:dI f st q=some fT) (hg:fT.1.length<=g):dI g st q=some fT:=by
 unfold dI at h ⊢;split at h
 ·rename_i e
  rw[if_pos e];split at h
  ·cases h
  ·cases h
   rw[if_neg];have:st.1.length+1<=g:=by simpa using hg
   omega
 ·rename_i e
  rw[if_neg e];exact h
theorem mZ {f:Nat} {s:Nat->α} {todo:List α} :∀ {k:Nat} {st:List α×List Nat},bO f s todo k=some st->todo.length<=st.1.length
 | 0,st,h=>by cases h;exact Nat.le_refl _
 | k+1,st,h=>by
  rw[bO]at h;obtain⟨st1,h1,h2⟩:=Option.bind_eq_some_iff.1 h;exact Nat.le_trans (mZ h1) (qB h2)
theorem kZ {f g:Nat} {s:Nat->α} {todo:List α} :∀ {k:Nat} {st:List α×List Nat},bO f s todo k=some st->st.1.length<=g->bO g s todo k=some st
 | 0,st,h,_=>h
 | k+1,st,h,hg=>by
  rw[bO]at h ⊢;obtain⟨st1,h1,h2⟩:=Option.bind_eq_some_iff.1 h;rw[kZ h1 (Nat.le_trans (qB h2) hg)];exact vA h2 hg
theorem sG {f:Nat} {s:α->Nat->α} {K n:Nat} {st fT:List α×List (List Nat)} (h:cB f s K n st=some fT):st.1.length<=fT.1.length:=by
 unfold cB at h;split at h
 ·cases h;exact Nat.le_refl _
 ·obtain⟨r,h1,h2⟩:=Option.map_eq_some_iff.1 h
  cases h2
  exact mZ h1
theorem qC {f g:Nat} {s:α->Nat->α} {K n:Nat} {st fT:List α×List (List Nat)} (h:cB f s K n st=some fT) (hg:fT.1.length<=g):cB g s K n st=some fT:=by
 unfold cB at h ⊢;split at h
 ·exact h
 ·obtain⟨r,h1,h2⟩:=Option.map_eq_some_iff.1 h
  cases h2
  rw[kZ h1 hg];rfl
theorem ng {f g:Nat} {s:α->Nat->α} {K:Nat} {p0:α} :∀ {n:Nat} {st:List α×List (List Nat)},cS f s K p0 n=some st->st.1.length<=g->cS g s K p0 n=some st
 | 0,st,h,_=>h
 | n+1,st,h,hg=>by
  rw[cS]at h ⊢;obtain⟨st1,h1,h2⟩:=Option.bind_eq_some_iff.1 h;rw[ng h1 (Nat.le_trans (sG h2) hg)];exact qC h2 hg
end
end
section
open Go Go.RowKit
section
variable {α:Type}
def eA (g:Nat->α) (st:List α×List Nat):Prop:=∀ (k t:Nat),st.2[k]? =some t->st.1[t]? =some (g k)
def LX (f:α->Nat->α) (st:List α×List (List Nat)):Prop:=∀ (s:Nat) (r:List Nat),st.2[s]? =some r->∃ p,st.1[s]? =some p/\eA (f p) (st.1,r)
theorem eA.more {g:Nat->α} {t:List α} {r:List Nat} (h:eA g (t,r)) (ys:List α):eA g (t++ys,r):=fun k u hk=>by
 have h1:=h k u hk;show(t++ys)[u]? =_;rw[List.getElem?_append_left (List.getElem?_eq_some_iff.1 h1).1];exact h1
end
section
variable {α β:Type} [DecidableEq α] [DecidableEq β]
theorem k7 {f:Nat} {st fT:List α×List Nat} {q:α} (h:dI f st q=some fT):∃ t ys,fT=(st.1++ys,st.2++ [t])/\(st.1++ys)[t]? =some q:=by
 unfold dI at h;split at h
 ·split at h
  ·cases h
  ·cases h
   exact⟨_,[q],rfl,by simp⟩
 ·rename_i he
  cases h
  have hlt:st.1.idxOf q<st.1.length:=by have:=List.idxOf_le_length (a:=q) (l:=st.1);omega
  refine⟨_,[],by rw[List.append_nil],?_⟩;rw[List.append_nil,List.getElem?_eq_getElem hlt,List.getElem_idxOf hlt]
theorem fI {f:Nat} {g:Nat->α} {todo:List α} :∀ {k:Nat} {st:List α×List Nat},bO f g todo k=some st->(∃ ys,st.1=todo++ys)/\st.2.length=k/\eA g st
 | 0,st,h=>by cases h;exact⟨⟨[],by simp⟩,rfl,fun k t e=>by simp at e⟩
 | k+1,st,h=>by
  rw[bO]at h;obtain⟨s1,h1,h2⟩:=Option.bind_eq_some_iff.1 h;obtain⟨⟨ys,e1⟩,e2,e3⟩:=fI h1;obtain⟨t,zs,e4,e5⟩:=k7 h2;subst e4;refine⟨⟨ys++zs,by simp[e1]⟩,by simp[e2],fun j u hj=>?_⟩;rcases Nat.lt_or_ge j k with hjk | hjk
  ·have eE:s1.2[j]? =some u:=by
    have:(s1.2++ [t])[j]? =some u:=hj;rwa[List.getElem?_append_left (by omega)]at this
   have h3:=e3 j u eE;show(s1.1++zs)[u]? =_;rw[List.getElem?_append_left (List.getElem?_eq_some_iff.1 h3).1];exact h3
  ·have eE:(s1.2++ [t])[j]? =some u:=hj
   have hl:=(List.getElem?_eq_some_iff.1 eE).1;simp[e2]at hl;obtain rfl:j=k:=by omega
   rw[List.getElem?_append_right (by omega),e2,Nat.sub_self]at eE;cases eE;exact e5
theorem ja {fuel K:Nat} {f:α->Nat->α} {p0:α} :∀ (n:Nat) {st:List α×List (List Nat)},cS fuel f K p0 n=some st->st.2.length=min n st.1.length/\LX f st
 | 0,st,h=>by cases h;exact⟨by simp,fun s r e=>by simp at e⟩
 | n+1,st,h=>by
  rw[cS]at h;obtain⟨s1,h1,h2⟩:=Option.bind_eq_some_iff.1 h;obtain⟨i1,i2⟩:=ja n h1;unfold cB at h2;split at h2
  ·rename_i he
   have e:=Option.some.inj h2;subst e;have hl:s1.1.length<=n:=by simpa using he
   exact⟨by omega,i2⟩
  ·rename_i p he
   obtain⟨r,h3,rfl⟩:=Option.map_eq_some_iff.1 h2;have hlt:n<s1.1.length:=(List.getElem?_eq_some_iff.1 he).1;obtain⟨⟨ys,e1⟩,e2,e3⟩:=fI h3;have Qg:s1.1.length<=r.1.length:=by rw[e1];simp
   refine⟨by simp;omega,fun s x hx=>?_⟩;have hx:(s1.2++ [r.2])[s]? =some x:=hx;rcases Nat.lt_or_ge s n with hs | hs
   ·rw[List.getElem?_append_left (by omega)]at hx
    obtain⟨q,g1,g2⟩:=i2 s x hx;refine⟨q,?_,?_⟩
    ·show r.1[s]? =_
     rw[e1,List.getElem?_append_left (by omega)];exact g1
    ·show eA (f q) (r.1,x)
     rw[e1];exact g2.more ys
   ·have hl:=(List.getElem?_eq_some_iff.1 hx).1
    simp at hl;obtain rfl:s=n:=by omega
    rw[List.getElem?_append_right (by omega)]at hx;have:s-s1.2.length=0:=by omega
    rw[this]at hx;cases hx;refine⟨p,?_,e3⟩;show r.1[s]? =_;rw[e1,List.getElem?_append_left (by omega)];exact he
end
theorem nT {α:Type} {P:List α->Prop} (h0:P []) (h1:∀ l x,P l->P (l++ [x])) (l:List α):P l:=by
 have key:∀ r:List α,P r.reverse:=fun r=>by
  induction r with
  | nil=>exact h0
  | cons x r ih=>rw[List.reverse_cons];exact h1 _ _ ih
 have:=key l.reverse;rwa[List.reverse_reverse]at this
theorem sH {d:DF} (rt:Rt d) {c:Nat} (hc:c<256):lb d.cl (cls d.cl c)<256/\cls d.cl (lb d.cl (cls d.cl c))=cls d.cl c:=by have h:=jX rt (rt.part.cU hc);exact⟨h.1,h.2.1⟩
theorem fJ {a:DF} (ha:Rt a) {L:List BS} (hL:∀ s∈a.cl,s∈L) {c e:Nat} (hc:c<256) (he:e<256) (h:cls (partsOf L) c=cls (partsOf L) e):cls a.cl c=cls a.cl e:=by have h1:Alike L c e:=((cw.jy L).gJ hc he).1 h;exact(ha.part.gJ hc he).2 fun s hs=>h1 s (hL s hs)
theorem dy {a b:DF} {op:Int} {fuel:Nat} {d:DF} (h:bK a b op fuel=some d):∃ st,cS fuel (eI a b) (partsOf (a.cl++b.cl)).length (0,0) fuel=some st/\d=⟨partsOf (a.cl++b.cl),st.2.map fun r=>r.map Int.ofNat,st.1.map (bX a b op)⟩:=by unfold bK at h;obtain⟨st,h1,h2⟩:=Option.map_eq_some_iff.1 h;exact⟨st,h1,h2.symm⟩
theorem k8 {a b d:DF} (ha:Rt a) (hb:Rt b) {op:Int} {fuel:Nat} (hf:1<=fuel) (hf2:fuel<=4000) (h:bK a b op fuel=some d) (w:List Nat) (hw:∀ c∈w,c<256): d.mr.getD (aU d 0 w) []=bX a b op (aU a 0 w,aU b 0 w):=by
 have rt:=cL ha hb hf hf2 h;obtain⟨st,h1,hd⟩:=dy h;have I:=lQ ha hb hf h1;have hl:=(ja fuel h1).2;have hn:st.2.length=st.1.length:=by have:=I.len;have:=I.le;omega
 have key:st.1[aU d 0 w]? =some (aU a 0 w,aU b 0 w):=by
  revert hw;refine nT (P:=fun w=>(∀ c∈w,c<256)->st.1[aU d 0 w]? =some (aU a 0 w,aU b 0 w)) (fun _=>I.head) (fun w c ih hw=>?_) w;have ih:=ih fun x hx=>hw x (List.mem_append_left _ hx)
  have hc:c<256:=hw c (by simp);obtain⟨s,hs⟩:∃ s,s=aU d 0 w:=⟨_,rfl⟩;rw[dw,dw,dw, <-hs];rw[<-hs]at ih;have fy:=(List.getElem?_eq_some_iff.1 ih).1;obtain⟨r,hr⟩:∃ r,st.2[s]? =some r:=⟨_,List.getElem?_eq_getElem (by omega)⟩;obtain⟨p,q1,q2⟩:=hl s r hr;rw[ih]at q1;cases q1;have jV:d.cl=partsOf (a.cl++b.cl):=by rw[hd]
  have e1:d.nx.getD s []=r.map Int.ofNat:=by rw[hd];show(st.2.map fun (r:List Nat)=>r.map Int.ofNat).getD s []=_;rw[List.getD_eq_getElem?_getD,List.getElem?_map,hr];rfl
  have hk:cls d.cl c<r.length:=by rw[(I.rows r (List.mem_of_getElem? hr)).1, <-jV];exact rt.part.cU hc
  have e2:eJ d s (cls d.cl c)=r.getD (cls d.cl c) 0:=by unfold eJ;rw[e1,List.getD_eq_getElem?_getD,List.getElem?_map,aI (l:=r) 0 hk];rfl
  have h3:=q2 (cls d.cl c) (r.getD (cls d.cl c) 0) (aI 0 hk);rw[e2];refine(show st.1[r.getD (cls d.cl c) 0]? =some (eI a b (aU a 0 w,aU b 0 w) (cls d.cl c)) from h3).trans ?_;have hq:=sH rt hc;rw[jV]at hq;unfold eI;rw[jV,fJ ha (L:=a.cl++b.cl) (fun s hs=>List.mem_append_left _ hs) hq.1 hc hq.2,fJ hb (L:=a.cl++b.cl) (fun s hs=>List.mem_append_right _ hs) hq.1 hc hq.2]
 rw[List.getD_eq_getElem?_getD,hd];show((st.1.map (bX a b op))[aU ⟨partsOf (a.cl++b.cl),st.2.map fun r=>r.map Int.ofNat,st.1.map (bX a b op)⟩ 0 w]?).getD []=_;rw[<-hd,List.getElem?_map,key];rfl
theorem jb {a b d:DF} (ha:Rt a) (hb:Rt b) {op:Int} {fuel:Nat} (hf:1<=fuel) (hf2:fuel<=4000) (h:bK a b op fuel=some d) (w:List Nat) (hw:∀ c∈w,c<256):aG d w=cr op (aG a w) (aG b w):=by unfold aG acc;rw[k8 ha hb hf hf2 h w hw];unfold bX;show(!(if cr op (acc a (aU a 0 w)) (acc b (aU b 0 w))then [0]else []).isEmpty)=cr op (acc a (aU a 0 w)) (acc b (aU b 0 w));cases cr op (acc a (aU a 0 w)) (acc b (aU b 0 w))<;>rfl
theorem lg {n m:Nat} :∀ (l:List (Nat×Nat)),l.Nodup->(∀ p∈l,p.1<n/\p.2<m)->l.length<=n*m:=fun l hn hl=>by
 have h1:(l.map fun p=>p.1*m+p.2).Nodup:=by
  rw[List.nodup_iff_pairwise_ne,List.pairwise_map];refine(List.nodup_iff_pairwise_ne.1 hn).imp_of_mem fun {p q} hp hq hne e=>hne ?_
  have h2:=hl p hp;have h3:=hl q hq;have hm:0<m:=by omega
  have e1:(p.1*m+p.2)/m=(q.1*m+q.2)/m:=by rw[e]
  have e2:(p.1*m+p.2)%m=(q.1*m+q.2)%m:=by rw[e]
  rw[Nat.mul_comm,Nat.mul_add_div hm,Nat.div_eq_of_lt h2.2,Nat.mul_comm q.1,Nat.mul_add_div hm,Nat.div_eq_of_lt h3.2]at e1;rw[Nat.mul_comm,Nat.mul_add_mod,Nat.mod_eq_of_lt h2.2,Nat.mul_comm q.1,Nat.mul_add_mod,Nat.mod_eq_of_lt h3.2]at e2;exact Prod.ext (by omega) e2
 have h2:=gK (n*m) _ h1 fun t ht=>by
  obtain⟨p,hp,rfl⟩:=List.mem_map.1 ht;have h3:=hl p hp;have:(p.1+1)*m<=n*m:=Nat.mul_le_mul_right _ (by omega);rw[Nat.add_mul,Nat.one_mul]at this;omega
 rwa[List.length_map]at h2
theorem js {α:Type} [DecidableEq α] {f:Nat} {st:List α×List Nat} {q:α} (h:dI f st q=none):q∉st.1/\st.1.length=f:=by
 unfold dI at h;split at h
 ·rename_i he
  split at h
  ·rename_i hf
   exact⟨fun hm=>by have:=List.idxOf_lt_length_of_mem hm;omega,hf⟩
  ·cases h
 ·cases h
theorem dO {α:Type} [DecidableEq α] {fuel:Nat} {P:α->Prop} {g:Nat->α} {todo:List α} (hB:∀ l:List α,l.Nodup->(∀ p∈l,P p)->l.length<=fuel) (hn:todo.Nodup) (hp:∀ p∈todo,P p):∀ k,(∀ j,j<k->P (g j))->∃ st,bO fuel g todo k=some st
 | 0,_=>⟨_,rfl⟩
 | k+1,hg=>by
  obtain⟨st,h⟩:=dO hB hn hp k fun j hj=>hg j (by omega)
  have R:=iO hn (hB _ hn hp) hp k (fun j hj=>hg j (by omega)) h;rw[bO,h];show ∃ s,dI fuel st (g k)=some s;cases e:dI fuel st (g k)with
  | some s=>exact⟨s,rfl⟩
  | none=>
   obtain⟨h1,h2⟩:=js e;have:=hB (g k::st.1) (List.nodup_cons.2 ⟨h1,R.nodup⟩) fun p hp=>by
    rcases List.mem_cons.1 hp with rfl | hp
    ·exact hg k (by omega)
    ·exact R.all p hp
   rw[List.length_cons]at this;omega
theorem dT {α:Type} [DecidableEq α] {fuel K:Nat} {P:α->Prop} {f:α->Nat->α} {p0:α} (hB:∀ l:List α,l.Nodup->(∀ p∈l,P p)->l.length<=fuel) (h0:P p0) (hP:∀ p k,P p->k<K->P (f p k)):∀ n,∃ st,cS fuel f K p0 n=some st
 | 0=>⟨_,rfl⟩
 | n+1=>by
  obtain⟨st,h⟩:=dT hB h0 hP n;have hf:1<=fuel:=hB [p0] (by simp) (by simpa using h0);have I:=lO hf h0 hP n h;rw[cS,h];show ∃ s,cB fuel f K n st=some s;unfold cB;cases e:st.1[n]? with
  | none=>exact⟨_,rfl⟩
  | some p=>
   obtain⟨r,hr⟩:=dO hB I.nodup I.all K fun j hj=>hP p j (I.all p (List.mem_of_getElem? e)) hj
   show ∃ s,(bO fuel (f p) st.1 K).map (fun r=>(r.1,st.2++ [r.2]))=some s;rw[hr];exact⟨_,rfl⟩
theorem jt {a b:DF} (ha:Rt a) (hb:Rt b) (op:Int) {fuel:Nat} (hf:a.nx.length*b.nx.length<=fuel):∃ d,bK a b op fuel=some d:=by obtain⟨st,h⟩:=dT (α:=Nat×Nat) (fuel:=fuel) (K:=(partsOf (a.cl++b.cl)).length) (P:=gu a b) (f:=eI a b) (p0:=(0,0)) (fun l hn hl=>Nat.le_trans (lg l hn hl) hf) ⟨ha.pos,hb.pos⟩ (fun p k hp hk=>mI ha hb p k hp hk) fuel;unfold bK;rw[h];exact⟨_,rfl⟩
theorem cC {a b:DF} (ha:Rt a) (hb:Rt b) {op f:Int} (ho:1<=op/\op<=4) {n:Nat} (hfn:f=n) (hf:a.nx.length*b.nx.length<=n) (hf2:n<=4000):∃ d,aP a b op f=(d,0)/\Rt d/\∀ w:List Nat,(∀ c∈w,c<256)->aG d w=cr op (aG a w) (aG b w):=by
 obtain⟨d,hd⟩:=jt ha hb op hf;have h1:1<=n:=by have:=Nat.mul_le_mul ha.pos hb.pos;omega
 refine⟨d,?_,cL ha hb h1 hf2 hd,fun w hw=>jb ha hb h1 hf2 hd w hw⟩;unfold aP;rw[if_neg (by rw[(aC a).2 ha,(aC b).2 hb];simp),if_neg (by omega),if_neg (by omega),if_neg (by omega)];subst hfn;rw[Int.toNat_natCast,hd]
theorem nU {a b d d':DF} (ha:Rt a) (hb:Rt b) {op:Int} {f f':Nat} (h1:1<=f') (hf:f'<=f) (h:bK a b op f=some d) (h':bK a b op f'=some d'):d'=d/\d.nx.length<=f':=by obtain⟨st,e1,rfl⟩:=dy h;obtain⟨fT,e2,rfl⟩:=dy h';have I:=lQ ha hb h1 e2;have e3:=tC (ng e2 (g:=f) (by have:=I.le;omega)) I.le f hf;rw[e1]at e3;cases e3;refine⟨rfl,?_⟩;show(st.2.map _).length<=f';rw[List.length_map];have:=I.len;have:=I.le;omega
theorem Jr {a b d:DF} (ha:Rt a) (hb:Rt b) {op f:Int} (ho:1<=op/\op<=4) {n:Nat} (hfn:f=n) (hn:n<=4000) (h:aP a b op f=(d,0)):1<=d.nx.length/\aP a b op ((d.nx.length:Int)-1)=(sN,181):=by
 subst hfn;unfold aP at h;rw[if_neg (by rw[(aC a).2 ha,(aC b).2 hb];simp),if_neg (by omega),if_neg (by omega)]at h;split at h
 ·cases (Prod.ext_iff.1 h).2
 ·split at h
  ·rename_i dD x hx
   cases h
   rw[Int.toNat_natCast]at hx;have rt:=cL ha hb (by omega) hn hx;have h1:=rt.pos;have h2:d.nx.length<=n:=(nU ha hb (by omega) (Nat.le_refl n) hx hx).2;refine⟨h1,?_⟩;unfold aP;rw[if_neg (by rw[(aC a).2 ha,(aC b).2 hb];simp),if_neg (by omega),if_neg (by omega)];split
   ·rfl
   ·rw[show((d.nx.length:Int)-1).toNat=d.nx.length-1 by omega]
    cases e:bK a b op (d.nx.length-1)with
    | none=>rfl
    | some d'=>
     have:=(nU ha hb (by omega) (by omega) hx e).2;omega
  ·cases (Prod.ext_iff.1 h).2
end
section
open Go Go.RowKit Go.Shelf Go.Maps
def lh (p q:DF) (few:Bool) (n0 n1 n2 m0 m1 m2:Nat) (W:World) (e:Ending) (w':World):Prop:=
 ∃ a0 c0 a1 c1 a2 c2 b0 d0 b1 d1 b2 d2,e=.returned (.tuple #[.agg #[.slice a0 n0 c0,.slice a1 n1 c1,.slice a2 n2 c2],.agg #[.slice b0 m0 d0,.slice b1 m1 d1,.slice b2 m2 d2],.bool few,.bool true])/\
  ay W.heap.size w' (.agg #[.slice a0 n0 c0,.slice a1 n1 c1,.slice a2 n2 c2]) p/\ay W.heap.size w' (.agg #[.slice b0 m0 d0,.slice b1 m1 d1,.slice b2 m2 d2]) q/\Below W.heap.size W w'
theorem fY {p q d:DF} {op:Nat} {f code:Int} (sp:Sm p) (sq:Sm q) (he:aP p q op f=(d,code)) (W:World) (v v':Value) (h:aT W v p) (h':aT W v' q): Calls Tryz.prog 12 #[v,v',.int .u8 op,.int .i64 f] W (fW d.cl.length d.nx.length d.mr.length code d W):=(kE v v' p q sp sq op f W h h').mono fun e w' ⟨r,hr,hd,hx⟩=>by
 rw[he]at hr hd;obtain⟨a0,c0,a1,c1,a2,c2,rfl⟩:=hd.form;exact⟨a0,c0,a1,c1,a2,c2,hr,hd,hx⟩
def mi (b0 b1:Nat) (c0 c1:Array Value) (A B:World):Prop:=aa (fun x=>x≠b0/\x≠b1) A B/\(ah A b0 c0 28->ah B b0 c0 28)/\(ah A b1 c1 28->ah B b1 c1 28)/\(ZB A b0->ZB B b0)/\(ZB A b1->ZB B b1)
theorem mi.trans {b0 b1:Nat} {c0 c1:Array Value} {A B C:World} (h:mi b0 b1 c0 c1 A B) (k:mi b0 b1 c0 c1 B C):mi b0 b1 c0 c1 A C:=⟨h.1.tr k.1,fun x=>k.2.1 (h.2.1 x),fun x=>k.2.2.1 (h.2.2.1 x),fun x=>k.2.2.2.1 (h.2.2.2.1 x),fun x=>k.2.2.2.2 (h.2.2.2.2 x)⟩
theorem mi.drew {b0 b1:Nat} {c0 c1:Array Value} {A:World} :mi b0 b1 c0 c1 A A.drew:=⟨(aa.refl _ _).drew,fun a=>a,fun a=>a,fun a=>a,fun a=>a⟩
def qE (b0 b1:Nat) (c0 c1:Array Value):aH (mi b0 b1 c0 c1):=⟨fun u=>u=undef,fun _ W=>ah W b0 c0 28,undef,rfl,fun _ _ _ hm _ h=>hm.2.1 h⟩
def qF (b0 b1:Nat) (c0 c1:Array Value):aH (mi b0 b1 c0 c1):=⟨fun u=>u=undef,fun _ W=>ah W b1 c1 28,undef,rfl,fun _ _ _ hm _ h=>hm.2.2.1 h⟩
theorem fM {W:World} {b:Nat} {u0 u1 u2:Value} (h:ah W b #[u0,u1,u2] 28) (x0 x1 x2:Value):ah (((W.setCell ⟨b,0,none⟩ x0).setCell ⟨b,1,none⟩ x1).setCell ⟨b,2,none⟩ x2) b #[x0,x1,x2] 28/\aa (· ≠b) W (((W.setCell ⟨b,0,none⟩ x0).setCell ⟨b,1,none⟩ x1).setCell ⟨b,2,none⟩ x2):=
 ⟨((h.set 0 _).set 1 _).set 2 _,(((aa.refl _ _).setCell (p:=⟨b,0,none⟩) (fun h=>h rfl) _).setCell (p:=⟨b,1,none⟩) (fun h=>h rfl) _).setCell (p:=⟨b,2,none⟩) (fun h=>h rfl) _⟩
theorem nV (v v':Value) (x y:List (Nat×Nat×Nat)) (xL:x.length<=1000000000000000) (LY:y.length<=1000000000000000) (cG:Bool) {p q:DF} {cp cq:Int} (hp:jO (T1 x cG) 40=(p,cp)) (hq:jO (T1 y cG) 40=(q,cq)) (yh:cp=0\/cp=181) (hcq:cq=0\/cq=181) {n0 n1 n2 m0 m1 m2:Nat} (h0:n0=p.cl.length) (h1:n1=p.nx.length) (h2:n2=p.mr.length) (h3:m0=q.cl.length) (h4:m1=q.nx.length) (h5:m2=q.mr.length) (w:World) (h:cJ w v x) (h':cJ w v' y) (hT:∀ W,Below w.heap.size w W->gL W): Calls Tryz.prog 10 #[v,v',.bool cG] w (lh p q (cp != 181&&cq != 181) n0 n1 n2 m0 m1 m2 w):=by
 have CM:Hid (∀ W,Below w.heap.size w W->Calls Tryz.prog 24 #[v] W fun e w'=>∃ u,e=.returned u/\aL (· <w'.heap.size) w' u (dc x)/\Below W.heap.size W w'):=hid fun W hW=>eO v x xL W (h.below hW)
 have CN:Hid (∀ W,Below w.heap.size w W->Calls Tryz.prog 24 #[v'] W fun e w'=>∃ u,e=.returned u/\aL (· <w'.heap.size) w' u (dc y)/\Below W.heap.size W w'):=hid fun W hW=>eO v' y LY W (h'.below hW)
 have TT:Hid (∀ A,Below w.heap.size w A->∀ V,Below A.heap.size A V->gL V):=hid fun A hA V hV=>hT V (hA.trans (hV.mono hA.size))
 have CA:Hid (∀ W u,Below w.heap.size w W->aL (· <W.heap.size) W u (dc x)->Calls Tryz.prog 23 #[u,.bool cG,.int .i64 40] W (fW n0 n1 n2 cp p W)):=hid fun W u hW hu=>eQ u x cG hp h0 h1 h2 W hu (TT.out W hW)
 have CB:Hid (∀ W u,Below w.heap.size w W->aL (· <W.heap.size) W u (dc y)->Calls Tryz.prog 23 #[u,.bool cG,.int .i64 40] W (fW m0 m1 m2 cq q W)):=hid fun W u hW hu=>eQ u y cG hq h3 h4 h5 W hu (TT.out W hW)
 obtain⟨va,vc,rfl⟩:=h.form;obtain⟨wa,wc,rfl⟩:=h'.form;generalize x.length=xn at*;generalize y.length=yn at*;clear h h' hT hp hq h0 h1 h2 h3 h4 h5 TT;go_enter Tryz.func10,Tryz.ntmps10;go_upto_region 1 with fail
 refine aw ?_;intro V0 hV;have BZ:Hid (ah V0 w.heap.size #[.slice none 0 0,.slice none 0 0,.slice none 0 0] 28):=hid (by rw[hV];exact(ah.new w _ _).alloc _);have BY:Hid (ah V0 (w.heap.size+1) #[.slice none 0 0,.slice none 0 0,.slice none 0 0] 28):=hid (by rw[hV];exact(ah.new (w.alloc _) _ _).at (by simp));have X0:Hid (Below w.heap.size w V0):=hid (by rw[hV];exact(((Ext.refl w).alloc _).alloc _).below);clear hV;go_wp2_with fail
 refine(CM.out V0 X0.out).mono ?_;rintro e w1 ⟨u,rfl,ht,hx⟩;have X1:=hid (X0.out.trans (hx.mono X0.out.size));have Y1:Hid (Below V0.heap.size V0 w1):=hid hx;have HT:=hid ht;obtain⟨tp,tc,rfl⟩:=ht.form;clear ht hx CM X0;go_wp2_with fail
 refine(CA.out w1 _ X1.out HT.out).mono ?_;rintro e w2 ⟨a0,c0,a1,c1,a2,c2,rfl,ho,hx⟩;have OP:=hid ho;have X2:=hid (X1.out.trans (hx.mono X1.out.size));have Y2:=hid (Y1.out.trans (hx.mono Y1.out.size));have LW:Hid (w1.heap.size<=w2.heap.size):=hid hx.size;have L1:Hid (w.heap.size+1<w1.heap.size):=hid (Nat.lt_of_lt_of_le BY.out.lt Y1.out.size);clear ho hx CA HT Y1 X1;go_upto_region 2 with fail
 refine aw ?_;intro V1 hV;have BA:Hid (ah V1 w2.heap.size #[.slice a0 n0 c0,.slice a1 n1 c1,.slice a2 n2 c2] 28):=hid (by rw[hV];exact ah.new w2 _ _);have XV:Hid (Below w2.heap.size w2 V1):=hid (by rw[hV];exact((Ext.refl w2).alloc _).below);clear hV;have UB:=hid (OP.out.below XV.out);have X3:=hid (X2.out.trans (XV.out.mono X2.out.size));have Y3:=hid (Y2.out.trans (XV.out.mono Y2.out.size));clear OP X2 Y2 XV;go_wp2_with fail
 refine(CN.out V1 X3.out).mono ?_;rintro e w3 ⟨u,rfl,ht,hx⟩;have X4:=hid (X3.out.trans (hx.mono X3.out.size));have Z1:Hid (Below V1.heap.size V1 w3):=hid hx;have HT:=hid ht;obtain⟨tq,td,rfl⟩:=ht.form;clear ht hx CN X3;go_wp2_with fail
 refine(CB.out w3 _ X4.out HT.out).mono ?_;rintro e w4 ⟨b0,d0,b1,d1,b2,d2,rfl,ho,hx⟩;have OQ:=hid ho;have X5:=hid (X4.out.trans (hx.mono X4.out.size));have Z2:=hid (Z1.out.trans (hx.mono Z1.out.size));have L2:Hid (w.heap.size+1<w3.heap.size):=hid (Nat.lt_of_lt_of_le (Nat.lt_of_lt_of_le BY.out.lt Y3.out.size) Z1.out.size);clear ho hx CB HT Z1 X4;go_upto_region 3 with fail
 refine aw ?_;intro V2 hV;have BB:Hid (ah V2 w4.heap.size #[.slice b0 m0 d0,.slice b1 m1 d1,.slice b2 m2 d2] 28):=hid (by rw[hV];exact ah.new w4 _ _);have XV:Hid (Below w4.heap.size w4 V2):=hid (by rw[hV];exact((Ext.refl w4).alloc _).below);clear hV;have Z3:=hid (Z2.out.trans (XV.out.mono Z2.out.size));have OQ2:=hid (OQ.out.below XV.out);have OP3:=hid (UB.out.below Z3.out);have BA2:=hid (BA.out.below Z3.out BA.out.lt);have X6:=hid (X5.out.trans (XV.out.mono X5.out.size));have Y4:=hid (Y3.out.trans (Z3.out.mono Y3.out.size));have PH:=hid (BZ.out.below Y4.out BZ.out.lt);have BY2:=hid (BY.out.below Y4.out BY.out.lt);have L3:Hid (w2.heap.size<w4.heap.size):=hid (Nat.lt_of_lt_of_le BA.out.lt Z2.out.size);have L4:Hid (w1.heap.size<=w2.heap.size):=hid LW.out;clear UB OQ BA Z2 Z3 X5 Y3 Y4 XV BZ BY;have qK:=L1.out;have hl2:=L2.out;have Fg:=L3.out;have hl4:=L4.out;have hl5:=BB.out.lt;obtain⟨k0,k1,k2⟩:=ay.dB BA2.out;obtain⟨k3,k4,k5⟩:=ay.dB BB.out;rcases yh with rfl | rfl<;>rcases hcq with rfl | rfl
 all_goals (
  go_upto_region 4 with fail
  refine aY (mi w.heap.size (w.heap.size+1) #[.slice a0 n0 c0,.slice a1 n1 c1,.slice a2 n2 c2] #[.slice b0 m0 d0,.slice b1 m1 d1,.slice b2 m2 d2]) mi.drew (fun _ _ _ h k=>h.trans k) (by kernel_rfl) 14 [0,0,0,0,8,24,56,56,248,504,1016,57,2107,6207,16383] (fun i=>i==11 || i==12) (by kernel_rfl) (fun i=>if i=11 then qE _ _ _ _ else if i=12 then qF _ _ _ _ else aH.any _) ?_;intro C hC hne;have HC:=hid hC;have kc:∀ {b o:Nat} {u:Value},b≠w.heap.size->b≠w.heap.size+1->b<V2.heap.size->V2.cell? ⟨b,o,none⟩=some u->∀ W: {W//C W},W.1.cell? ⟨b,o,none⟩=some u:=fun {b o u} h1 h2 h3 h W=>(((hC W.1).1 W.2).1.cell (p:=⟨b,o,none⟩) ⟨h1,h2⟩).trans h
  replace k0:=kc (by omega) (by omega) (by omega) k0;replace k1:=kc (by omega) (by omega) (by omega) k1;replace k2:=kc (by omega) (by omega) (by omega) k2;replace k3:=kc (by omega) (by omega) (by omega) k3;replace k4:=kc (by omega) (by omega) (by omega) k4;replace k5:=kc (by omega) (by omega) (by omega) k5;clear hC kc
  repeat (refine ae (fun K hK=>?_);first | (refine aR rfl ?_;try go_simp;refine hK _ _ ?_;clear hK K) | (refine aO rfl rfl ?_;unfold ai;go_simp;refine hK _ _ ?_;clear hK K))
  refine ae (fun K hK=>?_);refine bg rfl rfl (qE _ _ _ _) rfl (fun W hW hN=>?_) (fun v hv=>?_)
  ·have hM:=(HC.out W).1 hW
   obtain⟨u0,u1,u2,hb⟩:ZB W (w.heap.size):=hM.2.2.2.1 ⟨_,_,_,PH.out⟩;obtain⟨r1,r2⟩:=fM hb (.slice a0 n0 c0) (.slice a1 n1 c1) (.slice a2 n2 c2);obtain⟨z0,z1,z2⟩:=ay.dB hb;have z3:=hb.frozen 0;have z4:=hb.frozen 1;have z5:=hb.frozen 2;clear hW hN hK K hM hb k0 k1 k2 k3 k4 k5;go_simp;exact⟨⟨r2.mono fun x hx=>hx.1,fun _=>r1,fun h=>h.keeps r2 (by omega),fun _=>⟨_,_,_,r1⟩,fun ⟨v0,v1,v2,h⟩=>⟨v0,v1,v2,h.keeps r2 (by omega)⟩⟩,rfl,r1⟩
  replace hv:v=_:=hv;subst hv;go_simp;refine hK _ _ ?_;clear hK K;refine ae (fun K hK=>?_);refine bg rfl rfl (qF _ _ _ _) rfl (fun W hW hN=>?_) (fun v hv=>?_)
  ·have hM:=(HC.out W).1 hW
   obtain⟨u0,u1,u2,hb⟩:ZB W (w.heap.size+1):=hM.2.2.2.2 ⟨_,_,_,BY2.out⟩;obtain⟨r1,r2⟩:=fM hb (.slice b0 m0 d0) (.slice b1 m1 d1) (.slice b2 m2 d2);obtain⟨z0,z1,z2⟩:=ay.dB hb;have z3:=hb.frozen 0;have z4:=hb.frozen 1;have z5:=hb.frozen 2;clear hW hN hK K hM hb k0 k1 k2 k3 k4 k5;go_simp;exact⟨⟨r2.mono fun x hx=>hx.2,fun h=>h.keeps r2 (by omega),fun _=>r1,fun ⟨v0,v1,v2,h⟩=>⟨v0,v1,v2,h.keeps r2 (by omega)⟩,fun _=>⟨_,_,_,r1⟩⟩,rfl,r1⟩
  replace hv:v=_:=hv;subst hv;go_simp;refine hK _ _ ?_;clear hK K
  repeat (refine ae (fun K hK=>?_);first | (refine aR rfl ?_;try go_simp;refine hK _ _ ?_;clear hK K) | (refine aO rfl rfl ?_;unfold ai;go_simp;refine hK _ _ ?_;clear hK K))
  refine bh (fun W hW hH=>?_);have hM:=(HC.out W).1 hW;have hb1:ah W (w.heap.size+1) #[.slice b0 m0 d0,.slice b1 m1 d1,.slice b2 m2 d2] 28:=hH _ (List.mem_of_getElem? (show _=some _ from rfl:_[0]? =some _));have hb0:ah W w.heap.size #[.slice a0 n0 c0,.slice a1 n1 c1,.slice a2 n2 c2] 28:=hH _ (List.mem_of_getElem? (show _=some _ from rfl:_[1]? =some _));have pW:=hid hM.1;clear hM hW hH HC hne k0 k1 k2 k3 k4 k5;obtain⟨z0,z1,z2⟩:=ay.dB hb0;obtain⟨y0,y1,y2⟩:=ay.dB hb1;go_wp2;refine bodyPost_ret (v:=.tuple #[.agg #[.slice a0 n0 c0,.slice a1 n1 c1,.slice a2 n2 c2],.agg #[.slice b0 m0 d0,.slice b1 m1 d1,.slice b2 m2 d2],.bool _,.bool true]) (by simp[results,Tryz.results10,go_sem,z0,z1,z2,y0,y1,y2,show IntKind.i64.wrap 0=0 from rfl]) rfl ⟨a0,c0,a1,c1,a2,c2,b0,d0,b1,d1,b2,d2,rfl,(OP3.out.keeps pW.out fun b hb _=>⟨by omega,by omega⟩).base (by omega),(OQ2.out.keeps pW.out fun b hb _=>⟨by omega,by omega⟩).base (by omega),?_⟩
  exact X6.out.trans (pW.out.mono fun x (hx:x<w.heap.size)=>⟨by omega,by omega⟩:aa (· <w.heap.size) V2 W).below)
theorem lj (x y:List (Nat×Nat×Nat)) (cG:Bool):∃ (p q:DF) (cp cq:Int),jO (T1 x cG) 40=(p,cp)/\jO (T1 y cG) 40=(q,cq)/\(cp=0\/cp=181)/\(cq=0\/cq=181)/\((cp != 181&&cq != 181)=true->Rt p/\Rt q/\p.nx.length<=40/\q.nx.length<=40):=by
 rcases ez x cG with⟨p,h1,h2,h3⟩ | h
 ·rcases ez y cG with⟨q,h4,h5,h6⟩ | h'
  ·exact⟨p,q,0,0,h1,h4,.inl rfl,.inl rfl,fun _=>⟨h2,h5,h3,h6⟩⟩
  ·exact⟨p,_,0,181,h1,h',.inl rfl,.inr rfl,fun e=>by cases e⟩
 ·rcases ez y cG with⟨q,h4,h5,h6⟩ | h'
  ·exact⟨_,q,181,0,h,h4,.inr rfl,.inl rfl,fun e=>by cases e⟩
  ·exact⟨_,_,181,181,h,h',.inr rfl,.inr rfl,fun e=>by cases e⟩
theorem DR {base g:Nat} {w:World} {us:List Value} {L:List (List Int)} (hlen:us.length=L.length) (h3:∀ (i:Nat) (u:Value) (l:List Int),us[i]? =some u->L[i]? =some l->w.ownsRow base 3 1 u l.length (l.map aS)) (z:Int): ∃ L':List (List Int),L'.length=L.length/\(∀ (i:Nat) (u:Value) (l:List Int),us[i]? =some u->L'[i]? =some l->(w.setCell ⟨g,0,none⟩ (.int .i64 z)).ownsRow base 3 1 u l.length (l.map aS))/\(∀ (i:Nat) (l:List Int),L[i]? =some l->∃ l',L'[i]? =some l'/\l'.length=l.length)/\∀ (i:Nat) (u:Value) (l:List Int),us[i]? =some u->L[i]? =some l->u.ownBlock=some g->L'[i]? =some (l.set 0 z):=by
 have key:∀ (i:Nat) (u:Value) (l:List Int),us[i]? =some u->L[i]? =some l->((List.range L.length).map fun i=>if(us.getD i undef).ownBlock=some g then(L.getD i []).set 0 z else L.getD i [])[i]? =some (if u.ownBlock=some g then l.set 0 z else l):=fun i u l hu hl=>by
  rw[List.getElem?_map,List.getElem?_range (List.getElem?_eq_some_iff.1 hl).1];show some (if(us.getD i undef).ownBlock=some g then(L.getD i []).set 0 z else L.getD i [])=_;rw[getD_some hu,getD_some hl]
 refine⟨(List.range L.length).map fun i=>if(us.getD i undef).ownBlock=some g then(L.getD i []).set 0 z else L.getD i [],by simp,fun i u l hu hl=>?_,fun i l hl=>?_,fun i u l hu hl e=>by rw[key i u l hu hl,if_pos e]⟩
 ·have jK:i<L.length:=by have:=(List.getElem?_eq_some_iff.1 hu).1;omega
  obtain⟨l0,hl0⟩:∃ l0,L[i]? =some l0:=⟨_,List.getElem?_eq_getElem jK⟩;rw[key i u l0 hu hl0]at hl;have hr:=h3 i u l0 hu hl0;by_cases e:u.ownBlock=some g
  ·rw[if_pos e]at hl
   cases hl
   rcases hr.2 with⟨h1,_⟩ | ⟨g',c,cur,h1,_⟩
   ·subst h1;cases e
   ·subst h1
    injection e with e
    subst e;have:=(hr.stored 0 (.int .i64 z)).1;rw[List.length_set,List.map_set];exact this
  ·rw[if_neg e]at hl
   cases hl
   exact aj hr ((aa.refl (· ≠g) _).setCell (p:=⟨g,0,none⟩) (fun h=>h rfl) _) fun x hx e2=>e (by rw[hx,e2])
 ·have jK:=(List.getElem?_eq_some_iff.1 hl).1
  obtain⟨u,hu⟩:∃ u,us[i]? =some u:=⟨_,List.getElem?_eq_getElem (by omega)⟩;refine⟨_,key i u l hu hl,?_⟩;split<;>simp
theorem Qd {d:DF} {s:Nat} {l:List Int} {z:Int} (hl:d.nx[s]? =some l) (hz:z∈l) (h:(d.nx.length:Int)<=z):d.right=false:=by
 cases e:d.right with
 | false=>rfl
 | true=>
  have rt:=(aC d).1 e;have hs:=(List.getElem?_eq_some_iff.1 hl).1;have:=(rt.jM s hs z (by rw[getD_some hl];exact hz)).2;omega
theorem Yb {W:World} {base n0 n1 n2:Nat} {e0 e1 e2:Option Addr} {g0 g1 g2:Nat} {d:DF} (rt:Rt d) (sd:Sm d) (dD:n0=d.cl.length) (gR:n1=d.nx.length) (_:n2=d.mr.length) (h:ay base W (.agg #[.slice e0 n0 g0,.slice e1 n1 g1,.slice e2 n2 g2]) d) (q:0<n0) (z:Int) (hz:(n1:Int)<=z): ∃ (ga gr rc:Nat) (ur:Value),e1=some ⟨ga,0,none⟩/\ga<W.heap.size/\W.cell? ⟨ga,0,none⟩=some (.slice (some ⟨gr,0,none⟩) n0 rc)/\base<=gr/\gr<W.heap.size/\ ∀ (A:World),Below W.heap.size W A->A.frozen? ⟨gr,0,none⟩=false/\A.cell? ⟨gr,0,none⟩=some ur/\∃ DX,ay base (A.setCell ⟨gr,0,none⟩ (.int .i64 z)) (.agg #[.slice e0 n0 g0,.slice e1 n1 g1,.slice e2 n2 g2]) DX/\DX.right=false/\Sm DX:=by
 obtain⟨v0,v1,v2,e,h0,⟨us,u1,u2,u3⟩,⟨ms,t1,t2,t3⟩⟩:=h;cases e;have u2':=u2;have t2':=t2;rw[u1, <-gR]at u2';have hp:0<n1:=by rw[gR];exact rt.pos
 obtain⟨l,hl⟩:∃ l,d.nx[0]? =some l:=⟨_,List.getElem?_eq_getElem rt.pos⟩;have VX:l.length=n0:=by have:=rt.len 0 rt.pos;rw[getD_some hl]at this;rw[this,dD]
 obtain⟨ga,u,rfl,_,Fs,hou,hoc,_⟩:=fj u2' hp;have hrow:=u3 0 u l hou hl;rw[VX]at hrow;obtain⟨ra,rc,rfl⟩:=ownsRow_form hrow;obtain⟨gr,ur,rfl,hgr1,hgr2,_,hrc,_⟩:=fj hrow q;refine⟨ga,gr,rc,ur,rfl,Fs,hoc,hgr1,hgr2,fun A hA=>⟨(aq hrow hA).frozenAt 0,((aa.ag hA fun _ h=>h:aa (· <W.heap.size) W A).cell (p:=⟨gr,0,none⟩) hgr2).trans hrc,?_⟩⟩;obtain⟨L',p1,p2,p3,p4⟩:=DR (g:=gr) (w:=A) u1 (fun i u l hu hl=>aq (u3 i u l hu hl) hA) z;obtain⟨M',r1,r2,r3,_⟩:=DR (g:=gr) (w:=A) t1 (fun i u l hu hl=>aq (t3 i u l hu hl) hA) z;have K5:aa (· ≠gr) A (A.setCell ⟨gr,0,none⟩ (.int .i64 z)):=(aa.refl _ _).setCell (p:=⟨gr,0,none⟩) (fun h=>h rfl) _;have far:∀ {e:TypeId} {sz m:Nat} {v:Value} {xs:List Value},W.ownsRow base e sz v m xs->3≠e->(A.setCell ⟨gr,0,none⟩ (.int .i64 z)).ownsRow base e sz v m xs:=fun h he=>aj (aq h hA) K5 fun x hx e2=>by
  rcases ownBlock_ne he (aq hrow hA) (aq h hA)with h5 | h5
  ·cases h5
  ·exact h5 (by rw[hx,e2];rfl)
 refine⟨⟨d.cl,L',M'⟩,⟨_,_,_,rfl,far h0 (by decide),⟨us,by rw[u1,p1],far u2 (by decide),p2⟩,⟨ms,by rw[t1,r1],far t2 (by decide),r2⟩⟩,?_,?_⟩
 ·exact Qd (s:=0) (l:=l.set 0 z) (z:=z) (p4 0 _ l hou hl rfl) (by
   have hl0:0<l.length:=by rw[VX];exact q
   exact List.mem_of_getElem? (i:=0) (by rw[List.getElem?_set_self hl0])) (by show(L'.length:Int)<=z;rw[p1, <-gR];exact hz)
 ·exact⟨sd.cl,by show L'.length<=_;rw[p1];exact sd.nx,by show M'.length<=_;rw[r1];exact sd.mr,fun q hq=>by
   obtain⟨j,hj⟩:=List.getElem?_of_mem hq;obtain⟨q0,hq0⟩:∃ q0,d.nx[j]? =some q0:=⟨_,List.getElem?_eq_getElem (by have:=(List.getElem?_eq_some_iff.1 hj).1;rw[<-p1];exact this)⟩;obtain⟨q1,h1,h2⟩:=p3 j q0 hq0;rw[hj]at h1;cases h1;rw[h2];exact sd.Ci _ (List.mem_of_getElem? hq0),fun q hq=>by
   obtain⟨j,hj⟩:=List.getElem?_of_mem hq;obtain⟨q0,hq0⟩:∃ q0,d.mr[j]? =some q0:=⟨_,List.getElem?_eq_getElem (by have:=(List.getElem?_eq_some_iff.1 hj).1;rw[<-r1];exact this)⟩;obtain⟨q1,h1,h2⟩:=r3 j q0 hq0;rw[hj]at h1;cases h1
   rw[h2];exact sd.mks _ (List.mem_of_getElem? hq0)⟩
theorem Bq (v v':Value) (p q:DF) (few:Bool) (Eu:few=true->Rt p/\Rt q/\p.nx.length<=40/\q.nx.length<=40) (um:Nat) (hum:um<256) (z:Int) (w:World) (hv:∃ a n c,v=.slice a n c) (hv':∃ a n c,v'=.slice a n c) (hA:∀ W,Below w.heap.size w W->Calls Tryz.prog 9 #[] W fun e w'=>e=.returned (.bool true)/\Below W.heap.size W w') (hT:∀ W,Below w.heap.size w W->Calls Tryz.prog 10 #[v,v',.bool ((um:Int)%2==0)] W (lh p q few p.cl.length p.nx.length p.mr.length q.cl.length q.nx.length q.mr.length W)): Calls Tryz.prog 6 #[v,v',.int .u8 um,.int .i64 z] w fun e w'=>e=.returned (.bool true)/\Below w.heap.size w w':=by
 obtain⟨n0,dD⟩:∃ n,n=p.cl.length:=⟨_,rfl⟩;obtain⟨n1,gR⟩:∃ n,n=p.nx.length:=⟨_,rfl⟩;obtain⟨n2,jB⟩:∃ n,n=p.mr.length:=⟨_,rfl⟩;obtain⟨m0,oU⟩:∃ n,n=q.cl.length:=⟨_,rfl⟩;obtain⟨m1,oQ⟩:∃ n,n=q.nx.length:=⟨_,rfl⟩;obtain⟨m2,mz⟩:∃ n,n=q.mr.length:=⟨_,rfl⟩;rw[<-dD, <-gR, <-jB, <-oU, <-oQ, <-mz]at hT;obtain⟨va,vn,vc,rfl⟩:=hv;obtain⟨wa,wn,wc,rfl⟩:=hv';have HA:=hid hA;have HT:=hid hT;have Gp:=hid Eu;have lJ:=hid dD;have ku:=hid gR;have j9:=hid jB;have Zf:=hid oU;have HM1:=hid oQ;have HM2:=hid mz;clear hA hT Eu dD gR jB oU oQ mz;go_enter Tryz.func6,Tryz.ntmps6;go_wp2_with fail
 refine(HA.out w (Below.refl _ _)).mono ?_;rintro e w1 ⟨rfl,hx⟩;have X1:=hid hx;clear hx;go_wp2_with fail
 refine(HT.out w1 X1.out).mono ?_;rintro e w2 ⟨a0,c0,a1,c1,a2,c2,b0,d0,b1,d1,b2,d2,rfl,ho,uJ,hx⟩;have OP:=hid ho;have OQ:=hid uJ;have X2:=hid (X1.out.trans (hx.mono X1.out.size));clear ho uJ hx HA HT;go_upto_region 4 with fail
 refine aw ?_;intro V hV;have BP:Hid (ah V w2.heap.size #[.slice a0 n0 c0,.slice a1 n1 c1,.slice a2 n2 c2] 28):=hid (by rw[hV];exact(ah.new w2 _ _).alloc _);have BQ:Hid (ah V (w2.heap.size+1) #[.slice b0 m0 d0,.slice b1 m1 d1,.slice b2 m2 d2] 28):=hid (by rw[hV];exact(ah.new (w2.alloc _) _ _).at (by simp));have XV:Hid (Below w2.heap.size w2 V):=hid (by rw[hV];exact(((Ext.refl w2).alloc _).alloc _).below);clear hV;have IP:=hid (OP.out.below XV.out);have IQ:=hid (OQ.out.below XV.out);have X3:=hid (X2.out.trans (XV.out.mono X2.out.size));clear OP OQ XV X2;cases few with
 | false=>
  go_wp2;go_ret;exact⟨rfl,X3.out⟩
 | true=>
 obtain⟨rp,rq,Hz,UC⟩:=Gp.out rfl;have RP:=hid rp;have RQ:=hid rq;have Ba:=hid Hz;have P6:=hid UC;clear rp rq Hz UC Gp;obtain⟨db,eb,rb,_⟩:=cC RP.out RQ.out (op:=2) (f:=1600) (by decide) (n:=1600) rfl (Nat.mul_le_mul Ba.out P6.out) (by decide);obtain⟨UE,esh⟩:=Jr RP.out RQ.out (op:=2) (f:=1600) (by decide) (n:=1600) rfl (by decide) eb;obtain⟨n3,JF⟩:∃ n,n=db.cl.length:=⟨_,rfl⟩;obtain⟨n4,Wx⟩:∃ n,n=db.nx.length:=⟨_,rfl⟩;obtain⟨n5,hn5⟩:∃ n,n=db.mr.length:=⟨_,rfl⟩;have l16:n4<=4000:=by rw[Wx];exact rb.le
 rw[<-Wx]at UE esh;obtain⟨nf,xh⟩:∃ n,n=n4-1:=⟨_,rfl⟩;have acw:(n4:Int)-1=(nf:Int):=by omega
 rw[acw]at esh;obtain⟨u5,hu5⟩:∃ n,n=max um 5:=⟨_,rfl⟩;have auG:max (um:Int) 5=(u5:Int):=by omega
 have agW:4<u5:=by omega
 have agX:u5<256:=by omega
 obtain⟨za,hza⟩:∃ z',z'=min z (-1):=⟨_,rfl⟩;obtain⟨zb,hzb⟩:∃ z',z'=max z 4001:=⟨_,rfl⟩;obtain⟨zc,hzc⟩:∃ z',z'=max z 65:=⟨_,rfl⟩;obtain⟨zd,hzd⟩:∃ z',z'=max z 1099511627777:=⟨_,rfl⟩;obtain⟨ze,hze⟩:∃ z',z'=max z (m1:Int):=⟨_,rfl⟩;have CA:Hid (∀ W u u',aT W u p->aT W u' q->Calls Tryz.prog 12 #[u,u',.int .u8 2,.int .i64 1600] W (fW n3 n4 n5 0 db W)):=hid fun W u u' h h'=>by
  rw[JF,Wx,hn5];exact fY RP.out.sm RQ.out.sm eb W u u' h h'
 have CB:Hid (∀ W u u',aT W u p->aT W u' q->Calls Tryz.prog 12 #[u,u',.int .u8 2,.int .i64 nf] W (fW 0 0 0 181 sN W)):=hid fun W u u' h h'=>fY (d:=sN) RP.out.sm RQ.out.sm esh W u u' h h'
 have rpt:p.right=true:=(aC p).2 RP.out;have rqt:q.right=true:=(aC q).2 RQ.out
 have CC:Hid (∀ W u u',aT W u p->aT W u' q->Calls Tryz.prog 12 #[u,u',.int .u8 u5,.int .i64 (-1)] W (fW 0 0 0 190 sN W)):=hid fun W u u' h h'=>fY (d:=sN) RP.out.sm RQ.out.sm (by
  unfold aP
  rw[rpt,rqt,if_neg (by decide),if_pos (.inr (by omega))]) W u u' h h'
 have CD:Hid (∀ W u u',aT W u p->aT W u' q->Calls Tryz.prog 12 #[u,u',.int .u8 0,.int .i64 9] W (fW 0 0 0 190 sN W)):=hid fun W u u' h h'=>fY (d:=sN) (op:=0) RP.out.sm RQ.out.sm (by
  unfold aP
  rw[rpt,rqt,if_neg (by decide),if_pos (.inl (by decide))]) W u u' h h'
 have CE:Hid (∀ W u u',aT W u p->aT W u' q->Calls Tryz.prog 12 #[u,u',.int .u8 1,.int .i64 za] W (fW 0 0 0 2 sN W)):=hid fun W u u' h h'=>fY (d:=sN) (op:=1) RP.out.sm RQ.out.sm (by
  unfold aP
  rw[rpt,rqt,if_neg (by decide),if_neg (by decide),if_pos (.inl (by omega))]) W u u' h h'
 have CF:Hid (∀ W u u',aT W u p->aT W u' q->Calls Tryz.prog 12 #[u,u',.int .u8 1,.int .i64 zb] W (fW 0 0 0 2 sN W)):=hid fun W u u' h h'=>fY (d:=sN) (op:=1) RP.out.sm RQ.out.sm (by
  unfold aP
  rw[rpt,rqt,if_neg (by decide),if_neg (by decide),if_pos (.inr (by omega))]) W u u' h h'
 have CG:Hid (∀ W,Calls Tryz.prog 19 #[.int .u8 u5] W fun e w'=>e=.returned (.string ⟨#[]⟩)/\Below W.heap.size W w'):=hid fun W=>(Hg u5 agX W).mono fun e w' h=>by
  rw[yA (.inr agW)]at h;exact⟨h.1,h.2.below⟩
 have CN:Hid (∀ W u (a b:Int),aT W u p->(a<0\/64<a\/b<0\/eY<b)->Calls Tryz.prog 18 #[u,.int .i64 a,.int .i64 b] W fun e w'=>e=.returned (.tuple #[.int .i64 0,.int .i64 2])/\Below W.heap.size W w'):=hid fun W u a b h hab=>by
  have h5:=kU u p RP.out.sm a b W h
  rwa[show kT p a b=(0,2) by
   unfold kT kJ
   rw[if_pos rpt,if_pos hab]]at h5
 have CQ:Hid (∀ W u,aT W u q->Calls Tryz.prog 20 #[u] W fun e w'=>∃ a0 c0 a1 c1 a2 c2,e=.returned (.agg #[.slice a0 m0 c0,.slice a1 m1 c1,.slice a2 m2 c2])/\ay W.heap.size w' (.agg #[.slice a0 m0 c0,.slice a1 m1 c1,.slice a2 m2 c2]) q/\Below W.heap.size W w'):=hid fun W u h=>(Cs u q W h RQ.out.sm).mono fun e w' ⟨r,hr,hd,_,hx⟩=>by
  obtain⟨a0,c0,a1,c1,a2,c2,rfl⟩:=hd.form;rw[Zf.out,HM1.out,HM2.out];exact⟨a0,c0,a1,c1,a2,c2,hr,hd,hx⟩
 have agZ:0<m1:=by rw[HM1.out];exact RQ.out.pos
 have ag0:0<m0:=by rw[Zf.out];exact Nat.lt_of_le_of_lt (Nat.zero_le _) (RQ.out.part.cU (c:=0) (by decide))
 have zab:za<0:=by omega
 have zbb:4000<zb:=by omega
 have zcb:64<zc:=by omega
 have zdb:1099511627776<zd:=by omega
 have zeb:(m1:Int)<=ze:=by omega
 have qa:min z (-1)=za:=hza.symm;have qb:max z 4001=zb:=hzb.symm;have qc:max z 65=zc:=hzc.symm;have qd:max z 1099511627777=zd:=hzd.symm;have qe:max z (m1:Int)=ze:=hze.symm;have q4:((n4:Int)==0)=false:=by simp;omega
 have q5:((m1:Int)==0)=false:=by simp;omega
 have q6:((m0:Int)==0)=false:=by simp;omega
 have qw:IntKind.i64.wrap ((n4:Int)-1)=(nf:Int):=by rw[IntWalk.i64_in _ (by omega)];exact acw
 have ZAB:=hid zab;have ZBB:=hid zbb;have ZCB:=hid zcb;have ZDB:=hid zdb;have ZEB:=hid zeb;have ag1:=hid agZ;have acx:=hid ag0;clear eb rb UE esh JF Wx hn5 l16 xh acw hu5 agW agX hza hzb hzc hzd hze rpt rqt agZ ag0 zab zbb zcb zdb zeb;obtain⟨p0,p1,p2⟩:=ay.dB BP.out;obtain⟨r0,r1,r2⟩:=ay.dB BQ.out;go_wp2_with fail
 refine(CA.out V _ _ IP.out.df IQ.out.df).mono ?_;rintro e w3 ⟨x0,y0,x1,y1,x2,y2,rfl,ho,hx⟩;have Y1:=hid hx;clear ho hx p0 p1 p2 r0 r1 r2 CA;go_upto_region 7 with fail
 refine aw ?_;intro V1 hV;have BA:Hid (ah V1 w3.heap.size #[.slice x0 n3 y0,.slice x1 n4 y1,.slice x2 n5 y2] 28):=hid (by rw[hV];exact ah.new w3 _ _);have Y2:Hid (Below V.heap.size V V1):=hid (Y1.out.trans (by rw[hV];exact((Ext.refl w3).alloc _).below.mono Y1.out.size));clear hV Y1;obtain⟨p0,p1,p2⟩:=ay.dB (BP.out.below Y2.out BP.out.lt);obtain⟨r0,r1,r2⟩:=ay.dB (BQ.out.below Y2.out BQ.out.lt);obtain⟨z0,z1,z2⟩:=ay.dB BA.out;go_wp2_with fail
 refine(CB.out V1 _ _ (IP.out.below Y2.out).df (IQ.out.below Y2.out).df).mono ?_;rintro e w4 ⟨x3,y3,x4,y4,x5,y5,rfl,ho,hx⟩;have Y3:=hid (Y2.out.trans (hx.mono Y2.out.size));clear ho hx p0 p1 p2 r0 r1 r2 z0 z1 z2 CB BA Y2;go_upto_region 10 with fail
 refine aw ?_;intro V2 hV;have Z0:Hid (Below V.heap.size V V2):=hid (Y3.out.trans (by rw[hV];exact((Ext.refl _).alloc _).below.mono Y3.out.size));clear hV Y3;obtain⟨p0,p1,p2⟩:=ay.dB (BP.out.below Z0.out BP.out.lt);obtain⟨r0,r1,r2⟩:=ay.dB (BQ.out.below Z0.out BQ.out.lt);go_wp2_with fail
 refine(CC.out V2 _ _ (IP.out.below Z0.out).df (IQ.out.below Z0.out).df).mono ?_;rintro e w5 ⟨x3,y3,x4,y4,x5,y5,rfl,ho,hx⟩;have T0:=hid (Z0.out.trans (hx.mono Z0.out.size));clear ho hx p0 p1 p2 r0 r1 r2 CC Z0;go_upto_region 11 with fail
 refine aw ?_;intro V3 hV;have Z1:Hid (Below V.heap.size V V3):=hid (T0.out.trans (by rw[hV];exact((Ext.refl _).alloc _).below.mono T0.out.size));clear hV T0;obtain⟨p0,p1,p2⟩:=ay.dB (BP.out.below Z1.out BP.out.lt);obtain⟨r0,r1,r2⟩:=ay.dB (BQ.out.below Z1.out BQ.out.lt);go_wp2_with fail
 refine(CD.out V3 _ _ (IP.out.below Z1.out).df (IQ.out.below Z1.out).df).mono ?_;rintro e w6 ⟨x3,y3,x4,y4,x5,y5,rfl,ho,hx⟩;have T1:=hid (Z1.out.trans (hx.mono Z1.out.size));clear ho hx p0 p1 p2 r0 r1 r2 CD Z1;go_upto_region 12 with fail
 refine aw ?_;intro V4 hV;have Z2:Hid (Below V.heap.size V V4):=hid (T1.out.trans (by rw[hV];exact((Ext.refl _).alloc _).below.mono T1.out.size));clear hV T1;obtain⟨p0,p1,p2⟩:=ay.dB (BP.out.below Z2.out BP.out.lt);obtain⟨r0,r1,r2⟩:=ay.dB (BQ.out.below Z2.out BQ.out.lt);go_wp2_with fail
 refine(CE.out V4 _ _ (IP.out.below Z2.out).df (IQ.out.below Z2.out).df).mono ?_;rintro e w7 ⟨x3,y3,x4,y4,x5,y5,rfl,ho,hx⟩;have T2:=hid (Z2.out.trans (hx.mono Z2.out.size));clear ho hx p0 p1 p2 r0 r1 r2 CE Z2;go_upto_region 13 with fail
 refine aw ?_;intro V5 hV;have Z3:Hid (Below V.heap.size V V5):=hid (T2.out.trans (by rw[hV];exact((Ext.refl _).alloc _).below.mono T2.out.size));clear hV T2;obtain⟨p0,p1,p2⟩:=ay.dB (BP.out.below Z3.out BP.out.lt);obtain⟨r0,r1,r2⟩:=ay.dB (BQ.out.below Z3.out BQ.out.lt);go_wp2_with fail
 refine(CF.out V5 _ _ (IP.out.below Z3.out).df (IQ.out.below Z3.out).df).mono ?_;rintro e w8 ⟨x3,y3,x4,y4,x5,y5,rfl,ho,hx⟩;have T3:=hid (Z3.out.trans (hx.mono Z3.out.size));clear ho hx p0 p1 p2 r0 r1 r2 CF Z3;go_upto_region 14 with fail
 refine aw ?_;intro V6 hV;have Z4:Hid (Below V.heap.size V V6):=hid (T3.out.trans (by rw[hV];exact((Ext.refl _).alloc _).below.mono T3.out.size));clear hV T3;go_wp2_with fail
 refine(CG.out V6).mono ?_;rintro e w9 ⟨rfl,hx⟩;have Z5:=hid (Z4.out.trans (hx.mono Z4.out.size));clear hx CG Z4;obtain⟨r0,r1,r2⟩:=ay.dB (BQ.out.below Z5.out BQ.out.lt);go_wp2_with fail
 refine(CQ.out w9 _ (IQ.out.below Z5.out).df).mono ?_;rintro e PW ⟨f0,g0,f1,g1,f2,g2,rfl,ho,hx⟩;have OX:=hid ho;have Z6:=hid (Z5.out.trans (hx.mono Z5.out.size));have S9:Hid (V.heap.size<=w9.heap.size):=hid Z5.out.size;clear ho hx r0 r1 r2 CQ Z5;go_upto_region 17 with fail
 refine aw ?_;intro V7 hV;have BX:Hid (ah V7 PW.heap.size #[.slice f0 m0 g0,.slice f1 m1 g1,.slice f2 m2 g2] 28):=hid (by rw[hV];exact ah.new PW _ _);have XN:Hid (Below PW.heap.size PW V7):=hid (by rw[hV];exact((Ext.refl _).alloc _).below);clear hV;have Z7:=hid (Z6.out.trans (XN.out.mono Z6.out.size));obtain⟨ga,gr,rc,ur,rfl,hga,Rm,hgr1,hgr2,hA⟩:=Yb RQ.out RQ.out.sm Zf.out HM1.out HM2.out OX.out acx.out ze ZEB.out;have PK:=hid hA;have HGA:=hid hga;have HGC:=hid Rm;have HG1:=hid hgr1;have HG2:=hid hgr2;clear hA hga Rm hgr1 hgr2;have ag2:V7.cell? ⟨ga,0,none⟩=some (.slice (some ⟨gr,0,none⟩) m0 rc):=((aa.ag XN.out fun _ h=>h:aa (· <PW.heap.size) PW V7).cell (p:=⟨ga,0,none⟩) HGA.out).trans HGC.out;have alP:(0:Int)<m1:=by have:=ag1.out;omega
 have alQ:0<m1:=ag1.out;have alR:(0:Int)<m0:=by have:=acx.out;omega
 have alS:0<m0:=acx.out;obtain⟨d0,d1,d2⟩:=ay.dB BX.out;go_upto_region 19 with fail
 refine aD false (fun _=>False) (by kernel_rfl) 9 [0,1,3,7,0,0,32,96,240,511,1023] (fun i=>i==10) (by kernel_rfl) (fun _=>aH.any _) ?_;intro C hC hne;have HC:=hid hC;have k1:=ak hC (p:=⟨PW.heap.size,1,none⟩) BX.out.lt (fun h=>h) d1;have k3:=ak hC (p:=⟨ga,0,none⟩) (Nat.lt_of_lt_of_le HGA.out XN.out.size) (fun h=>h) ag2;clear hC d0 d1 d2 ag2
 repeat (refine ae (fun K hK=>?_);first | (refine aR rfl ?_;try go_simp;refine hK _ _ ?_;clear hK K) | (refine aO rfl rfl ?_;unfold ai;go_simp;refine hK _ _ ?_;clear hK K))
 refine bh (fun W hW hH=>?_);have hM:=(HC.out W).1 hW;have XW:=hid (XN.out.trans (hM.below.mono XN.out.size));have Z8:=hid (Z7.out.trans (hM.below.mono Z7.out.size));have BX8:=hid (BX.out.below hM.below BX.out.lt);obtain⟨hrf,hrc,DX,odx,ndx,sdx⟩:=PK.out W XW.out;have OD:=hid odx;have ND:=hid ndx;have SD:=hid sdx;clear hM hW hH HC hne k1 k3 PK odx ndx sdx XN Z6 Z7 BX OX HGC HGA;go_upto_region 20 with fail
 refine aw ?_;intro V8 hV;have K8:aa (· ≠gr) W V8:=by rw[hV];exact(aa.refl _ _).setCell (p:=⟨gr,0,none⟩) (fun h=>h rfl) _
 rw[<-hV]at OD;have OD8:=hid OD.out;have hg9:=HG1.out;have Fs:=HG2.out;have hs9:=S9.out;have hsw:=XW.out.size;have Z9:Hid (Below V.heap.size V V8):=hid (Z8.out.trans (K8.mono fun x (hx:x<V.heap.size)=>by show x≠gr;omega:aa (· <V.heap.size) W V8).below);have Vv:Hid (ah V8 PW.heap.size #[.slice (f0) m0 g0,.slice (some ⟨ga,0,none⟩) m1 g1,.slice f2 m2 g2] 28):=hid (BX8.out.keeps K8 (by show PW.heap.size≠gr;omega));clear hV K8 OD hg9 Fs hs9 hsw Z8 BX8 XW hrf hrc HG1 HG2 S9 alP alQ alR alS
 have E1:Hid (∀ W u u',aT W u p->aT W u' DX->Calls Tryz.prog 12 #[u,u',.int .u8 0,.int .i64 (-1)] W (fW 0 0 0 182 sN W)):=hid fun W u u' h h'=>fY (d:=sN) (op:=0) RP.out.sm SD.out (by
  unfold aP
  rw[ND.out,Bool.and_false,if_pos rfl]) W u u' h h'
 have E2:Hid (∀ W u,aT W u DX->Calls Tryz.prog 14 #[u] W fun e w'=>∃ r,e=.returned (.tuple #[r,.int .i64 182])/\Below W.heap.size W w'):=hid fun W u h=>(mN u DX SD.out W h).mono fun e w' ⟨r,hr,_,hx⟩=>by
  rw[ND.out]at hr;exact⟨r,hr,hx⟩
 have E3:Hid (∀ W u,aT W u DX->Calls Tryz.prog 21 #[u] W fun e w'=>∃ r,e=.returned (.tuple #[r,.bool false,.int .i64 182])/\Below W.heap.size W w'):=hid fun W u h=>(ib u DX SD.out W h).mono fun e w' ⟨r,hr,_,hx⟩=>by
  unfold bH at hr;rw[ND.out]at hr;exact⟨r,hr,hx⟩
 have E4:Hid (∀ W u u',aT W u DX->aT W u' p->Calls Tryz.prog 22 #[u,u',.int .i64 (-1)] W fun e w'=>∃ r,e=.returned (.tuple #[r,.bool false,.int .i64 182])/\Below W.heap.size W w'):=hid fun W u u' h h'=>(lW u u' DX p SD.out RP.out.sm (-1) W h h').mono fun e w' ⟨r,hr,_,hx⟩=>by
  have hz:aP DX p 3 (-1)=(sN,182):=by unfold aP;rw[ND.out,Bool.false_and,if_pos rfl]
  unfold aX at hr;rw[hz]at hr;exact⟨r,hr,hx⟩
 have E5:Hid (∀ W u,aT W u DX->Calls Tryz.prog 18 #[u,.int .i64 (-1),.int .i64 (-1)] W fun e w'=>e=.returned (.tuple #[.int .i64 0,.int .i64 182])/\Below W.heap.size W w'):=hid fun W u h=>by
  have h5:=kU u DX SD.out (-1) (-1) W h
  rwa[show kT DX (-1) (-1)=(0,182) by
   unfold kT
   rw[ND.out];rfl]at h5
 obtain⟨p0,p1,p2⟩:=ay.dB (BP.out.below Z9.out BP.out.lt);obtain⟨d0,d1,d2⟩:=ay.dB Vv.out;go_wp2_with fail
 refine(E1.out V8 _ _ (IP.out.below Z9.out).df OD8.out.df).mono ?_;rintro e w11 ⟨x3,y3,x4,y4,x5,y5,rfl,_,hx⟩;have A1:=hid hx;clear hx p0 p1 p2 d0 d1 d2 E1;obtain⟨d0,d1,d2⟩:=ay.dB (Vv.out.below A1.out Vv.out.lt);go_wp2_with fail
 refine(E2.out w11 _ (OD8.out.below A1.out).df).mono ?_;rintro e w12 ⟨rr,rfl,hx⟩;have A2:=hid (A1.out.trans (hx.mono A1.out.size));clear hx d0 d1 d2 E2 A1;obtain⟨d0,d1,d2⟩:=ay.dB (Vv.out.below A2.out Vv.out.lt);go_wp2_with fail
 refine(E3.out w12 _ (OD8.out.below A2.out).df).mono ?_;rintro e w13 ⟨r2,rfl,hx⟩;have A3:=hid (A2.out.trans (hx.mono A2.out.size));clear hx d0 d1 d2 E3 A2;obtain⟨d0,d1,d2⟩:=ay.dB (Vv.out.below A3.out Vv.out.lt);have ZA:=hid (Z9.out.trans (A3.out.mono Z9.out.size));obtain⟨p0,p1,p2⟩:=ay.dB (BP.out.below ZA.out BP.out.lt);go_wp2_with fail
 refine(E4.out w13 _ _ (OD8.out.below A3.out).df (IP.out.below ZA.out).df).mono ?_;rintro e w14 ⟨r3,rfl,hx⟩;have A4:=hid (A3.out.trans (hx.mono A3.out.size));clear hx d0 d1 d2 p0 p1 p2 E4 A3 ZA;obtain⟨d0,d1,d2⟩:=ay.dB (Vv.out.below A4.out Vv.out.lt);go_wp2_with fail
 refine(E5.out w14 _ (OD8.out.below A4.out).df).mono ?_;rintro e wJ ⟨rfl,hx⟩;have A5:=hid (A4.out.trans (hx.mono A4.out.size));have ZB:=hid (Z9.out.trans (A5.out.mono Z9.out.size));clear hx d0 d1 d2 E5 A4 A5 Z9 OD8 Vv ND SD;go_wp2_with fail
 go_loopw [213] (fun iv wr=>∃ k:Nat,k<=4/\iv=.int .i64 k/\Below V.heap.size V wr/\ah wr wJ.heap.size #[.int .i64 za,.int .i64 1,.int .i64 zc,.int .i64 1,.int .i64 1,.int .i64 za,.int .i64 1,.int .i64 zd] 54) (fun iv _=>4-(intOf iv).toNat)
 case atStart=>exact⟨0,by omega,rfl,ZB.out.trans (((Ext.refl _).alloc _).below.mono ZB.out.size),ah.new _ _ _⟩
 case round=>
  obtain⟨k,hk,rfl,hx,hb⟩:=hrel;obtain⟨wo,rfl⟩:∃ wo:World,wo=wr:=⟨_,rfl⟩;have XO:=hid hx;have BS:=hid hb;clear hx hb;by_cases hlt:k<4
  ·have gz:(k:Int)<4:=by omega
   obtain⟨c0',c1',hcc,e0,e1⟩:∃ a b:Int,(a<0\/64<a\/b<0\/eY<b)/\wo.cell? ⟨wJ.heap.size,k*2,none⟩=some (.int .i64 a)/\wo.cell? ⟨wJ.heap.size,k*2+1,none⟩=some (.int .i64 b):=by
    have h1:=ZAB.out;have h2:=ZCB.out;have h3:eY<zd:=ZDB.out;rw[BS.out.cell,BS.out.cell];rcases(show k=0\/k=1\/k=2\/k=3 by omega)with rfl | rfl | rfl | rfl
    ·exact⟨za,1,by omega,rfl,rfl⟩
    ·exact⟨zc,1,by omega,rfl,rfl⟩
    ·exact⟨1,za,by omega,rfl,rfl⟩
    ·exact⟨1,zd,by omega,rfl,rfl⟩
   have HCC:=hid hcc;clear hcc;go_upto_region 30 with fail
   refine aw ?_;intro V9 hV;have BD:Hid (ah V9 wo.heap.size #[.int .i64 c0',.int .i64 c1'] 54):=hid (by rw[hV];exact ah.new _ _ _);have XN:Hid (Below wo.heap.size wo V9):=hid (by rw[hV];exact((Ext.refl _).alloc _).below);clear hV e0 e1;have X9:=hid (XO.out.trans (XN.out.mono XO.out.size));have BS9:=hid (BS.out.below XN.out BS.out.lt);obtain⟨p0,p1,p2⟩:=ay.dB (BP.out.below X9.out BP.out.lt);have g0:V9.cell? ⟨wo.heap.size,0,none⟩=some (.int .i64 c0'):=BD.out.cell 0;have g1:V9.cell? ⟨wo.heap.size,1,none⟩=some (.int .i64 c1'):=BD.out.cell 1;go_wp2_with fail
   refine(CN.out V9 _ c0' c1' (IP.out.below X9.out).df HCC.out).mono ?_;rintro e w16 ⟨rfl,hx⟩;have XA:=hid (X9.out.trans (hx.mono X9.out.size));have BSA:=hid (BS9.out.below hx BS9.out.lt);clear hx p0 p1 p2 g0 g1;go_wp2;go_roundw;case rel=>exact⟨k+1,by omega,by go_num,XA.out,BSA.out⟩
   case measure=>simp[intOf];omega
  ·obtain rfl:k=4:=by omega
   go_wp2;go_ret;exact⟨rfl,X3.out.trans (XO.out.mono X3.out.size)⟩
theorem vH (v v':Value) (x y:List (Nat×Nat×Nat)) (xL:x.length<=1000000000000000) (LY:y.length<=1000000000000000) (um:Nat) (hum:um<256) (z:Int) (w:World) (h:cJ w v x) (h':cJ w v' y) (hT:∀ W,Below w.heap.size w W->gL W): Calls Tryz.prog 6 #[v,v',.int .u8 um,.int .i64 z] w fun e w'=>e=.returned (.bool true)/\Below w.heap.size w w':=by obtain⟨p,q,cp,cq,h1,h2,h3,h4,h5⟩:=lj x y ((um:Int)%2==0);obtain⟨a,c,e⟩:=h.form;obtain⟨a',c',e'⟩:=h'.form;exact Bq v v' p q _ h5 um hum z w ⟨_,_,_,e⟩ ⟨_,_,_,e'⟩ (fun W _=>kX W) fun W hW=>nV v v' x y xL LY ((um:Int)%2==0) h1 h2 h3 h4 rfl rfl rfl rfl rfl rfl W (h.below hW) (h'.below hW) fun V hV=>hT V (hW.trans (hV.mono hW.size))
end
section
open Go Go.ChangeShapes Go.WideShapes Go.ChangeAt Go.RowKit
theorem Js:Tryz.prog.globalNamed "internal/strconv.uint64pow10" =some 1:=by kernel_rfl
theorem xz:(Tryz.prog.globals[1]?).map (·.type)=some 258:=by kernel_rfl
theorem Br:Tryz.prog.cellsOf 258=20:=by kernel_rfl
theorem Bt:Tryz.prog.cellsOf 57=1:=by kernel_rfl
theorem Gb {W:World} (h:laidMetH Tryz.prog Rows.productWrongRow.laid W):gL W:=by have h1:laidMet Tryz.prog [("math/bits.deBruijn32tab",Rows.laid_math_bits_deBruijn32tab),("math/bits.deBruijn64tab",Rows.laid_math_bits_deBruijn64tab),("internal/strconv.uint64pow10",Lib.tabData .u64 Lib.pow10Tab)] W:=h;exact Lib.tabIs_of_head (rest:=[]) Js xz Tryz.underlying258 Tryz.underlying57 Bt Br h1.tail.tail
noncomputable def qJ (cs:Array Value):Obj->Obj
 | .cells _ t frozen=>.cells cs t frozen
 | o=>o
noncomputable def og (os:Os):World:=
 {World.holding Tryz.prog os ⟨#[], #[],[]⟩with heap:=(((World.holding Tryz.prog os ⟨#[], #[],[]⟩).heap.modify 1 (qJ #[.int .u64 1,.int .u64 10,.int .u64 100,.int .u64 1000,.int .u64 10000,.int .u64 100000,.int .u64 1000000,.int .u64 10000000,.int .u64 100000000,.int .u64 1000000000,.int .u64 10000000000,.int .u64 100000000000,.int .u64 1000000000000,.int .u64 10000000000000,.int .u64 100000000000000,.int .u64 1000000000000000,.int .u64 10000000000000000,.int .u64 100000000000000000,.int .u64 1000000000000000000,.int .u64 10000000000000000000])).modify 2 (qJ #[.int .u8 0,.int .u8 1,.int .u8 28,.int .u8 2,.int .u8 29,.int .u8 14,.int .u8 24,.int .u8 3,.int .u8 30,.int .u8 22,.int .u8 20,.int .u8 15,.int .u8 25,.int .u8 17,.int .u8 4,.int .u8 8,.int .u8 31,.int .u8 27,.int .u8 13,.int .u8 23,.int .u8 21,.int .u8 19,.int .u8 16,.int .u8 7,.int .u8 26,.int .u8 12,.int .u8 18,.int .u8 6,.int .u8 11,.int .u8 5,.int .u8 10,.int .u8 9])).modify 3 (qJ #[.int .u8 0,.int .u8 1,.int .u8 56,.int .u8 2,.int .u8 57,.int .u8 49,.int .u8 28,.int .u8 3,.int .u8 61,.int .u8 58,.int .u8 42,.int .u8 50,.int .u8 38,.int .u8 29,.int .u8 17,.int .u8 4,.int .u8 62,.int .u8 47,.int .u8 59,.int .u8 36,.int .u8 45,.int .u8 43,.int .u8 51,.int .u8 22,.int .u8 53,.int .u8 39,.int .u8 33,.int .u8 30,.int .u8 24,.int .u8 18,.int .u8 12,.int .u8 5,.int .u8 63,.int .u8 55,.int .u8 48,.int .u8 27,.int .u8 60,.int .u8 41,.int .u8 37,.int .u8 16,.int .u8 46,.int .u8 35,.int .u8 44,.int .u8 21,.int .u8 52,.int .u8 32,.int .u8 23,.int .u8 11,.int .u8 54,.int .u8 26,.int .u8 40,.int .u8 15,.int .u8 34,.int .u8 20,.int .u8 31,.int .u8 10,.int .u8 25,.int .u8 14,.int .u8 19,.int .u8 9,.int .u8 13,.int .u8 8,.int .u8 7,.int .u8 6])}
theorem Mg (os:Os):laidMet Tryz.prog Rows.productWrongRow.laid ((og os).forCall (fun _ _=>0) ⟨#[], #[.slice none 0 0,.slice none 0 0,.int .u8 0,.int .i64 0],[]⟩).memory:=
 laidMet_of_run' 8 (by kernel_rfl) (by kernel_rfl)
theorem Gc (os:Os) {H:Type} (enc:TypeId×Value->H):∃ places,DataW.whole enc Tryz.prog ((og os).forCall (fun _ _=>0) ⟨#[], #[.slice none 0 0,.slice none 0 0,.int .u8 0,.int .i64 0],[]⟩).memory Tryz.f6.params.toList Rows.productWrongSpec.vars false (#[.slice none 0 0,.slice none 0 0,.int .u8 0,.int .i64 0]:Array Value).toList 8=some ([.nil,.nil,.lit (.int .u8 0),.lit (.int .i64 0)],[],places):=
 ⟨[],by kernel_rfl⟩
theorem Bu (os:Os) (started:os.Started) (H:Type) (enc:TypeId×Value->H) (F:Stop.Interp): ReturnsInHanded {} Tryz.checked os 6 .any ((OpenSpec.ofChange Rows.productWrongSpec).preRow enc Tryz.prog Tryz.f6 Rows.productWrongRow.domain false Rows.productWrongRow.laid) (((OpenSpec.ofChange Rows.productWrongSpec).at F).post enc Tryz.prog Tryz.f6 false true false false):=by
 obtain⟨places,hx⟩:=Gc os enc;refine returnsInHanded_of_row (C:=Tryz.checked) (s:=OpenSpec.ofChange Rows.productWrongSpec) Tryz.own started (by kernel_rfl) Tryz.func6
  (witness_row_at (enc:=enc) (C:=Tryz.checked) false (og os) #[.slice none 0 0,.slice none 0 0,.int .u8 0,.int .i64 0] rfl (by kernel_rfl) (by kernel_rfl) (by kernel_rfl)
   (OpenSpec.preRow_of_cond 8 hx (by kernel_rfl) (fun k hk=>by cases hk) (by kernel_rfl) (Mg os))) ?_
 intro W base args ds gs before uq hW _ _ FD hL _ _;have hval:∀ (j:Nat) t v,Tryz.f6.params[j]? =some t->args[j]? =some v->Value.okWide Tryz.prog W .any base t v:=uq;have hT:∀ V,Below W.heap.size W V->gL V:=fun V hV=>(Gb hL).below hV
 have hW1:DataW.Whole enc Tryz.prog Tryz.f6.params.toList Rows.productWrongSpec.vars false W args.toList ds gs before:=hW;have Et:=hW1;obtain⟨p,q,Nh,hV,rfl,hfz,Vy⟩:=hW1;have hA:DataW.TrodAll enc Tryz.prog W 0 (fun _=>true) true Tryz.f6.params.toList args.toList ds p:=Nh;have hsz:(DataW.weightsEach Tryz.prog (Tryz.f6.params.toList++Rows.productWrongSpec.plain.varTypes Tryz.prog) (ds++gs)).all (· <=reachBytes)=true:=FD;rw[Tryz.params6]at hA hval hsz;obtain⟨v0,v1,v2,v3,d0,d1,d2,d3,p0,p1,p2,p3,rfl,rfl,rfl,h0,h1,h2,h3⟩:=trodAll_four hA;obtain⟨l0,s0,g0⟩:=eP (hval 0 _ v0 rfl rfl) h0 (fV hsz (j:=0) rfl rfl);obtain⟨l1,s1,g1⟩:=eP (hval 1 _ v1 rfl rfl) h1 (fV hsz (j:=1) rfl rfl);obtain⟨x2,rfl,u2⟩:=Ya (hval 2 _ v2 rfl rfl) h2;obtain⟨x3,rfl,_,_,_⟩:=open_int Tryz.underlying3 (hval 3 _ v3 rfl rfl) h3;refine(vH v0 v1 l0 l1 g0 g1 x2 u2 x3 W s0 s1 hT).mono fun e W' ⟨he,hw⟩=>⟨_,he,?_⟩
 exact pE (s:=Rows.productWrongSpec) Tryz.laidOut rfl (by rw[Tryz.params6];exact of_decide_eq_true (by kernel_rfl)) rfl Tryz.underlying4 rfl Et hw
theorem Jt:Rows.ProductWrongSaid:=
 OpenClaim.holds_of_cond 6 Tryz.f6 rfl rfl rfl rfl rfl rfl rfl ⟨rfl,rfl,rfl,rfl,rfl⟩ rfl rfl rfl rfl rfl (by kernel_rfl) Tryz.func6 (by kernel_rfl)
  (of_decide_eq_true (by kernel_rfl)) (by unfold Func.isWrapper;first | (rw[if_pos (by decide+kernel)];kernel_rfl) | (rw[if_neg (by decide+kernel)];exact⟨rfl,rfl⟩))
  (fun os started H enc _ F=>by rw[OpenClaim.pre_eq_preRow];exact Bu os started H enc F)
theorem Gd (f:FuncId) (fn:Func) (hf:Tryz.pinned.checked.prog.funcNamed "repartee/reparteelaw19.ProductWrong" =some f) (hfn:Tryz.pinned.checked.prog.funcs[f]? =some fn): true=Tryz.pinned.checked.prog.looks []/\∀ (j:Nat) t,fn.params[j]? =some t->Tryz.pinned.checked.prog.wantsStandIn t=false:=by
 obtain rfl:f=6:=Option.some.inj ((show Tryz.prog.funcNamed "repartee/reparteelaw19.ProductWrong" =some 6 by kernel_rfl).symm.trans hf) |>.symm;obtain rfl:fn=Tryz.f6:=(Option.some.inj (Tryz.func6.symm.trans hfn)).symm;refine⟨by kernel_rfl,fun j t ht=>?_⟩;rw[Tryz.params6]at ht;have h2:t=22\/t=5\/t=3:=by have:=Array.mem_of_getElem? ht;simpa using this
 rcases h2 with rfl | rfl | rfl
 ·exact(show Tryz.prog.wantsStandIn 22=false by kernel_rfl)
 ·exact(show Tryz.prog.wantsStandIn 5=false by kernel_rfl)
 ·exact(show Tryz.prog.wantsStandIn 3=false by kernel_rfl)
theorem pwrong_card:Rows.ProductWrongCardSaid:=
 Claim7.holds_tied_plain_at .later [] _ _ _ _ Jt (fun _ h=>by cases h) (by kernel_rfl) (fun _ h=>by cases h) productWrong_row_tie rfl ⟨rfl,rfl⟩ (by kernel_rfl) rfl Gd (by kernel_rfl)
end
end Go.Proofs.YtalombmiochpmaaGreatDoor
