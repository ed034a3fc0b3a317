/- ProductAlgebra returns true for any small steps, any small steps, any bool; the arguments read behind the call as they did. No condition. A tied card: the three listed tables hold at the call what the program's text lays. Printed by wip/gen/drow.py. -/
import Derived.Test.YtalombmiochpmaaGreatDoorCards
import Derived.Test.YtalombmiochpmaaGreatDoorTie
import Derived.Deep.DeepHandedRow
import Derived.Stop.LaidErr
import Derived.Test.YtalombmiochpmaaGreatDoorOR36
set_option maxRecDepth 100000
set_option maxHeartbeats 16000000
open Go.Lib (hid)
namespace Go.Proofs.YtalombmiochpmaaGreatDoor
section
open Go Go.RowKit
theorem kY {d:DF} {s c:Nat} (hc:c<256) (hp:bR d s c=true):cg d s<256/\bR d s (cg d s)=true/\∀ e,e<cg d s->bR d s e=false:=by
 have:∃ c,c<256/\bR d s c=true/\∀ e,e<c->bR d s e=false:=by
  induction c using Nat.strongRecOn with
  | ind c ih=>
   by_cases hx:∃ e,e<c/\bR d s e=true
   ·obtain⟨e,h1,h2⟩:=hx
    exact ih e h1 (by omega) h2
   ·exact⟨c,hc,hp,fun e he=>by
     cases hb:bR d s e with
     | false=>rfl
     | true=>exact absurd ⟨e,he,hb⟩ hx⟩
 obtain⟨c,h1,h2,h3⟩:=this;rw[tH h1 h2 h3];exact⟨h1,h2,h3⟩
theorem iy {d:DF} (h:Rt d) {s:Nat} (hs:s<d.nx.length) (h0:0<bE d s) (hl:bE d s<d.nx.length):cg d s<256/\bR d s (cg d s)=true/\(∀ e,e<cg d s->bR d s e=false):=by have hr:=eW h hs hl;obtain⟨m,hm⟩:∃ m,(bE d s).toNat=m+1:=⟨(bE d s).toNat-1,by omega⟩;rw[hm]at hr;obtain⟨k,hk,wR⟩:=hr;have h1:=hZ h (h.cK hs hk) wR;have h2:=kI h hs hk (by omega);obtain⟨b1,b2,_⟩:=jX h hk;refine kY b1 ?_;unfold bR;rw[b2,beq_iff_eq];omega
theorem iZ {d:DF} (h:Rt d) (hl:bE d 0<d.nx.length):∀ j:Nat,(j:Int)<=bE d 0->(aF d j).1<d.nx.length/\bE d (aF d j).1=bE d 0-j/\(aF d j).2.length=j/\∀ c∈(aF d j).2,c<256
 | 0,_=>⟨h.pos,by simp[aF],rfl,fun c hc=>by cases hc⟩
 | j+1,hj=>by
  obtain⟨a,b,c,e⟩:=iZ h hl j (by omega);obtain⟨x,y,_⟩:=iy h a (by omega) (by omega);refine⟨h.cK a (h.part.cU x),?_,by simp[aF,c],fun z hz=>?_⟩
  ·unfold bR at y
   rw[beq_iff_eq]at y;show bE d (eJ d (aF d j).1 (cls d.cl (cg d (aF d j).1)))=_;omega
  ·rcases List.mem_append.1 hz with hz | hz
   ·exact e z hz
   ·simp at hz;subst hz;exact x
end
section
open Go Go.RowKit Go.Shelf Go.Maps
theorem zR {w w':World} {b base size n:Nat} {c:Array Value} {t e:TypeId} {v:Value} {xs:List Value} (h:ah w b c t) (ho:w.ownsRow base e size v n xs) (hne:t≠e) (hk:aa (· ≠b) w w'):w'.ownsRow base e size v n xs:=aj ho hk fun x hx=>dA h ho hne x hx
theorem aW.past {w w':World} {b base:Nat} {c:Array Value} {t:TypeId} {v:Value} {ll:List (List Int)} (h:ah w b c t) (ho:aW base w v ll) (h1:t≠47) (h2:t≠3) (hk:aa (· ≠b) w w'):aW base w' v ll:=by obtain⟨us,e,o1,o2⟩:=ho;exact⟨us,e,zR h o1 h1 hk,fun i u l hu hl=>zR h (o2 i u l hu hl) h2 hk⟩
theorem ay.past {w w':World} {b base:Nat} {c:Array Value} {t:TypeId} {v:Value} {d:DF} (h:ah w b c t) (ho:ay base w v d) (h0:t≠59) (h1:t≠47) (h2:t≠3) (hk:aa (· ≠b) w w'):ay base w' v d:=by obtain⟨v0,v1,v2,e,o0,o1,o2⟩:=ho;exact⟨v0,v1,v2,e,zR h o0 h0 hk,o1.past h h1 h2 hk,o2.past h h1 h2 hk⟩
section
variable {α:Type} [DecidableEq α]
theorem qB {f:Nat} {st fT:List α×List Nat} {q:α} (h:dI f st q=some fT):st.1.length<=fT.1.length:=by
 unfold dI at h;split at h
 ·split at h
  ·cases h
  ·cases h;simp
 ·cases h;exact Nat.le_refl _
theorem vA {f g:Nat} {st fT:List α×List Nat} {q:α} (h:dI f st q=some fT) (hg:fT.1.length<=g):dI g st q=some fT:=by
 unfold dI at h ⊢;split at h
 ·rename_i e
  rw[if_pos e];split at h
  ·cases h
  ·cases h
   rw[if_neg];have:st.1.length+1<=g:=by simpa using hg
   omega
 ·rename_i e
  rw[if_neg e];exact h
theorem mZ {f:Nat} {s:Nat->α} {todo:List α} :∀ {k:Nat} {st:List α×List Nat},bO f s todo k=some st->todo.length<=st.1.length
 | 0,st,h=>by cases h;exact Nat.le_refl _
 | k+1,st,h=>by
  rw[bO]at h;obtain⟨st1,h1,h2⟩:=Option.bind_eq_some_iff.1 h;exact Nat.le_trans (mZ h1) (qB h2)
theorem kZ {f g:Nat} {s:Nat->α} {todo:List α} :∀ {k:Nat} {st:List α×List Nat},bO f s todo k=some st->st.1.length<=g->bO g s todo k=some st
 | 0,st,h,_=>h
 | k+1,st,h,hg=>by
  rw[bO]at h ⊢;obtain⟨st1,h1,h2⟩:=Option.bind_eq_some_iff.1 h;rw[kZ h1 (Nat.le_trans (qB h2) hg)];exact vA h2 hg
theorem sG {f:Nat} {s:α->Nat->α} {K n:Nat} {st fT:List α×List (List Nat)} (h:cB f s K n st=some fT):st.1.length<=fT.1.length:=by
 unfold cB at h;split at h
 ·cases h;exact Nat.le_refl _
 ·obtain⟨r,h1,h2⟩:=Option.map_eq_some_iff.1 h
  cases h2
  exact mZ h1
theorem qC {f g:Nat} {s:α->Nat->α} {K n:Nat} {st fT:List α×List (List Nat)} (h:cB f s K n st=some fT) (hg:fT.1.length<=g):cB g s K n st=some fT:=by
 unfold cB at h ⊢;split at h
 ·exact h
 ·obtain⟨r,h1,h2⟩:=Option.map_eq_some_iff.1 h
  cases h2
  rw[kZ h1 hg];rfl
theorem ng {f g:Nat} {s:α->Nat->α} {K:Nat} {p0:α} :∀ {n:Nat} {st:List α×List (List Nat)},cS f s K p0 n=some st->st.1.length<=g->cS g s K p0 n=some st
 | 0,st,h,_=>h
 | n+1,st,h,hg=>by
  rw[cS]at h ⊢;obtain⟨st1,h1,h2⟩:=Option.bind_eq_some_iff.1 h;rw[ng h1 (Nat.le_trans (sG h2) hg)];exact qC h2 hg
end
end
section
open Go Go.RowKit
section
variable {α:Type}
def eA (g:Nat->α) (st:List α×List Nat):Prop:=∀ (k t:Nat),st.2[k]? =some t->st.1[t]? =some (g k)
def LX (f:α->Nat->α) (st:List α×List (List Nat)):Prop:=∀ (s:Nat) (r:List Nat),st.2[s]? =some r->∃ p,st.1[s]? =some p/\eA (f p) (st.1,r)
theorem eA.more {g:Nat->α} {t:List α} {r:List Nat} (h:eA g (t,r)) (ys:List α):eA g (t++ys,r):=fun k u hk=>by
 have h1:=h k u hk;show(t++ys)[u]? =_;rw[List.getElem?_append_left (List.getElem?_eq_some_iff.1 h1).1];exact h1
end
section
variable {α β:Type} [DecidableEq α] [DecidableEq β]
theorem k7 {f:Nat} {st fT:List α×List Nat} {q:α} (h:dI f st q=some fT):∃ t ys,fT=(st.1++ys,st.2++ [t])/\(st.1++ys)[t]? =some q:=by
 unfold dI at h;split at h
 ·split at h
  ·cases h
  ·cases h
   exact⟨_,[q],rfl,by simp⟩
 ·rename_i he
  cases h
  have hlt:st.1.idxOf q<st.1.length:=by have:=List.idxOf_le_length (a:=q) (l:=st.1);omega
  refine⟨_,[],by rw[List.append_nil],?_⟩;rw[List.append_nil,List.getElem?_eq_getElem hlt,List.getElem_idxOf hlt]
theorem fI {f:Nat} {g:Nat->α} {todo:List α} :∀ {k:Nat} {st:List α×List Nat},bO f g todo k=some st->(∃ ys,st.1=todo++ys)/\st.2.length=k/\eA g st
 | 0,st,h=>by cases h;exact⟨⟨[],by simp⟩,rfl,fun k t e=>by simp at e⟩
 | k+1,st,h=>by
  rw[bO]at h;obtain⟨s1,h1,h2⟩:=Option.bind_eq_some_iff.1 h;obtain⟨⟨ys,e1⟩,e2,e3⟩:=fI h1;obtain⟨t,zs,e4,e5⟩:=k7 h2;subst e4;refine⟨⟨ys++zs,by simp[e1]⟩,by simp[e2],fun j u hj=>?_⟩;rcases Nat.lt_or_ge j k with hjk | hjk
  ·have eE:s1.2[j]? =some u:=by
    have:(s1.2++ [t])[j]? =some u:=hj;rwa[List.getElem?_append_left (by omega)]at this
   have h3:=e3 j u eE;show(s1.1++zs)[u]? =_;rw[List.getElem?_append_left (List.getElem?_eq_some_iff.1 h3).1];exact h3
  ·have eE:(s1.2++ [t])[j]? =some u:=hj
   have hl:=(List.getElem?_eq_some_iff.1 eE).1;simp[e2]at hl;obtain rfl:j=k:=by omega
   rw[List.getElem?_append_right (by omega),e2,Nat.sub_self]at eE;cases eE;exact e5
theorem ja {fuel K:Nat} {f:α->Nat->α} {p0:α} :∀ (n:Nat) {st:List α×List (List Nat)},cS fuel f K p0 n=some st->st.2.length=min n st.1.length/\LX f st
 | 0,st,h=>by cases h;exact⟨by simp,fun s r e=>by simp at e⟩
 | n+1,st,h=>by
  rw[cS]at h;obtain⟨s1,h1,h2⟩:=Option.bind_eq_some_iff.1 h;obtain⟨i1,i2⟩:=ja n h1;unfold cB at h2;split at h2
  ·rename_i he
   have e:=Option.some.inj h2;subst e;have hl:s1.1.length<=n:=by simpa using he
   exact⟨by omega,i2⟩
  ·rename_i p he
   obtain⟨r,h3,rfl⟩:=Option.map_eq_some_iff.1 h2;have hlt:n<s1.1.length:=(List.getElem?_eq_some_iff.1 he).1;obtain⟨⟨ys,e1⟩,e2,e3⟩:=fI h3;have Qg:s1.1.length<=r.1.length:=by rw[e1];simp
   refine⟨by simp;omega,fun s x hx=>?_⟩;have hx:(s1.2++ [r.2])[s]? =some x:=hx;rcases Nat.lt_or_ge s n with hs | hs
   ·rw[List.getElem?_append_left (by omega)]at hx
    obtain⟨q,g1,g2⟩:=i2 s x hx;refine⟨q,?_,?_⟩
    ·show r.1[s]? =_
     rw[e1,List.getElem?_append_left (by omega)];exact g1
    ·show eA (f q) (r.1,x)
     rw[e1];exact g2.more ys
   ·have hl:=(List.getElem?_eq_some_iff.1 hx).1
    simp at hl;obtain rfl:s=n:=by omega
    rw[List.getElem?_append_right (by omega)]at hx;have:s-s1.2.length=0:=by omega
    rw[this]at hx;cases hx;refine⟨p,?_,e3⟩;show r.1[s]? =_;rw[e1,List.getElem?_append_left (by omega)];exact he
end
theorem nT {α:Type} {P:List α->Prop} (h0:P []) (h1:∀ l x,P l->P (l++ [x])) (l:List α):P l:=by
 have key:∀ r:List α,P r.reverse:=fun r=>by
  induction r with
  | nil=>exact h0
  | cons x r ih=>rw[List.reverse_cons];exact h1 _ _ ih
 have:=key l.reverse;rwa[List.reverse_reverse]at this
theorem sH {d:DF} (rt:Rt d) {c:Nat} (hc:c<256):lb d.cl (cls d.cl c)<256/\cls d.cl (lb d.cl (cls d.cl c))=cls d.cl c:=by have h:=jX rt (rt.part.cU hc);exact⟨h.1,h.2.1⟩
theorem fJ {a:DF} (ha:Rt a) {L:List BS} (hL:∀ s∈a.cl,s∈L) {c e:Nat} (hc:c<256) (he:e<256) (h:cls (partsOf L) c=cls (partsOf L) e):cls a.cl c=cls a.cl e:=by have h1:Alike L c e:=((cw.jy L).gJ hc he).1 h;exact(ha.part.gJ hc he).2 fun s hs=>h1 s (hL s hs)
theorem dy {a b:DF} {op:Int} {fuel:Nat} {d:DF} (h:bK a b op fuel=some d):∃ st,cS fuel (eI a b) (partsOf (a.cl++b.cl)).length (0,0) fuel=some st/\d=⟨partsOf (a.cl++b.cl),st.2.map fun r=>r.map Int.ofNat,st.1.map (bX a b op)⟩:=by unfold bK at h;obtain⟨st,h1,h2⟩:=Option.map_eq_some_iff.1 h;exact⟨st,h1,h2.symm⟩
theorem k8 {a b d:DF} (ha:Rt a) (hb:Rt b) {op:Int} {fuel:Nat} (hf:1<=fuel) (hf2:fuel<=4000) (h:bK a b op fuel=some d) (w:List Nat) (hw:∀ c∈w,c<256): d.mr.getD (aU d 0 w) []=bX a b op (aU a 0 w,aU b 0 w):=by
 have rt:=cL ha hb hf hf2 h;obtain⟨st,h1,hd⟩:=dy h;have I:=lQ ha hb hf h1;have hl:=(ja fuel h1).2;have hn:st.2.length=st.1.length:=by have:=I.len;have:=I.le;omega
 have key:st.1[aU d 0 w]? =some (aU a 0 w,aU b 0 w):=by
  revert hw;refine nT (P:=fun w=>(∀ c∈w,c<256)->st.1[aU d 0 w]? =some (aU a 0 w,aU b 0 w)) (fun _=>I.head) (fun w c ih hw=>?_) w;have ih:=ih fun x hx=>hw x (List.mem_append_left _ hx)
  have hc:c<256:=hw c (by simp);obtain⟨s,hs⟩:∃ s,s=aU d 0 w:=⟨_,rfl⟩;rw[dw,dw,dw, <-hs];rw[<-hs]at ih;have fy:=(List.getElem?_eq_some_iff.1 ih).1;obtain⟨r,hr⟩:∃ r,st.2[s]? =some r:=⟨_,List.getElem?_eq_getElem (by omega)⟩;obtain⟨p,q1,q2⟩:=hl s r hr;rw[ih]at q1;cases q1;have jV:d.cl=partsOf (a.cl++b.cl):=by rw[hd]
  have e1:d.nx.getD s []=r.map Int.ofNat:=by rw[hd];show(st.2.map fun (r:List Nat)=>r.map Int.ofNat).getD s []=_;rw[List.getD_eq_getElem?_getD,List.getElem?_map,hr];rfl
  have hk:cls d.cl c<r.length:=by rw[(I.rows r (List.mem_of_getElem? hr)).1, <-jV];exact rt.part.cU hc
  have e2:eJ d s (cls d.cl c)=r.getD (cls d.cl c) 0:=by unfold eJ;rw[e1,List.getD_eq_getElem?_getD,List.getElem?_map,aI (l:=r) 0 hk];rfl
  have h3:=q2 (cls d.cl c) (r.getD (cls d.cl c) 0) (aI 0 hk);rw[e2];refine(show st.1[r.getD (cls d.cl c) 0]? =some (eI a b (aU a 0 w,aU b 0 w) (cls d.cl c)) from h3).trans ?_;have hq:=sH rt hc;rw[jV]at hq;unfold eI;rw[jV,fJ ha (L:=a.cl++b.cl) (fun s hs=>List.mem_append_left _ hs) hq.1 hc hq.2,fJ hb (L:=a.cl++b.cl) (fun s hs=>List.mem_append_right _ hs) hq.1 hc hq.2]
 rw[List.getD_eq_getElem?_getD,hd];show((st.1.map (bX a b op))[aU ⟨partsOf (a.cl++b.cl),st.2.map fun r=>r.map Int.ofNat,st.1.map (bX a b op)⟩ 0 w]?).getD []=_;rw[<-hd,List.getElem?_map,key];rfl
theorem jb {a b d:DF} (ha:Rt a) (hb:Rt b) {op:Int} {fuel:Nat} (hf:1<=fuel) (hf2:fuel<=4000) (h:bK a b op fuel=some d) (w:List Nat) (hw:∀ c∈w,c<256):aG d w=cr op (aG a w) (aG b w):=by unfold aG acc;rw[k8 ha hb hf hf2 h w hw];unfold bX;show(!(if cr op (acc a (aU a 0 w)) (acc b (aU b 0 w))then [0]else []).isEmpty)=cr op (acc a (aU a 0 w)) (acc b (aU b 0 w));cases cr op (acc a (aU a 0 w)) (acc b (aU b 0 w))<;>rfl
theorem lg {n m:Nat} :∀ (l:List (Nat×Nat)),l.Nodup->(∀ p∈l,p.1<n/\p.2<m)->l.length<=n*m:=fun l hn hl=>by
 have h1:(l.map fun p=>p.1*m+p.2).Nodup:=by
  rw[List.nodup_iff_pairwise_ne,List.pairwise_map];refine(List.nodup_iff_pairwise_ne.1 hn).imp_of_mem fun {p q} hp hq hne e=>hne ?_
  have h2:=hl p hp;have h3:=hl q hq;have hm:0<m:=by omega
  have e1:(p.1*m+p.2)/m=(q.1*m+q.2)/m:=by rw[e]
  have e2:(p.1*m+p.2)%m=(q.1*m+q.2)%m:=by rw[e]
  rw[Nat.mul_comm,Nat.mul_add_div hm,Nat.div_eq_of_lt h2.2,Nat.mul_comm q.1,Nat.mul_add_div hm,Nat.div_eq_of_lt h3.2]at e1;rw[Nat.mul_comm,Nat.mul_add_mod,Nat.mod_eq_of_lt h2.2,Nat.mul_comm q.1,Nat.mul_add_mod,Nat.mod_eq_of_lt h3.2]at e2;exact Prod.ext (by omega) e2
 have h2:=gK (n*m) _ h1 fun t ht=>by
  obtain⟨p,hp,rfl⟩:=List.mem_map.1 ht;have h3:=hl p hp;have:(p.1+1)*m<=n*m:=Nat.mul_le_mul_right _ (by omega);rw[Nat.add_mul,Nat.one_mul]at this;omega
 rwa[List.length_map]at h2
theorem js {α:Type} [DecidableEq α] {f:Nat} {st:List α×List Nat} {q:α} (h:dI f st q=none):q∉st.1/\st.1.length=f:=by
 unfold dI at h;split at h
 ·rename_i he
  split at h
  ·rename_i hf
   exact⟨fun hm=>by have:=List.idxOf_lt_length_of_mem hm;omega,hf⟩
  ·cases h
 ·cases h
theorem dO {α:Type} [DecidableEq α] {fuel:Nat} {P:α->Prop} {g:Nat->α} {todo:List α} (hB:∀ l:List α,l.Nodup->(∀ p∈l,P p)->l.length<=fuel) (hn:todo.Nodup) (hp:∀ p∈todo,P p):∀ k,(∀ j,j<k->P (g j))->∃ st,bO fuel g todo k=some st
 | 0,_=>⟨_,rfl⟩
 | k+1,hg=>by
  obtain⟨st,h⟩:=dO hB hn hp k fun j hj=>hg j (by omega)
  have R:=iO hn (hB _ hn hp) hp k (fun j hj=>hg j (by omega)) h;rw[bO,h];show ∃ s,dI fuel st (g k)=some s;cases e:dI fuel st (g k)with
  | some s=>exact⟨s,rfl⟩
  | none=>
   obtain⟨h1,h2⟩:=js e;have:=hB (g k::st.1) (List.nodup_cons.2 ⟨h1,R.nodup⟩) fun p hp=>by
    rcases List.mem_cons.1 hp with rfl | hp
    ·exact hg k (by omega)
    ·exact R.all p hp
   rw[List.length_cons]at this;omega
theorem dT {α:Type} [DecidableEq α] {fuel K:Nat} {P:α->Prop} {f:α->Nat->α} {p0:α} (hB:∀ l:List α,l.Nodup->(∀ p∈l,P p)->l.length<=fuel) (h0:P p0) (hP:∀ p k,P p->k<K->P (f p k)):∀ n,∃ st,cS fuel f K p0 n=some st
 | 0=>⟨_,rfl⟩
 | n+1=>by
  obtain⟨st,h⟩:=dT hB h0 hP n;have hf:1<=fuel:=hB [p0] (by simp) (by simpa using h0);have I:=lO hf h0 hP n h;rw[cS,h];show ∃ s,cB fuel f K n st=some s;unfold cB;cases e:st.1[n]? with
  | none=>exact⟨_,rfl⟩
  | some p=>
   obtain⟨r,hr⟩:=dO hB I.nodup I.all K fun j hj=>hP p j (I.all p (List.mem_of_getElem? e)) hj
   show ∃ s,(bO fuel (f p) st.1 K).map (fun r=>(r.1,st.2++ [r.2]))=some s;rw[hr];exact⟨_,rfl⟩
theorem jt {a b:DF} (ha:Rt a) (hb:Rt b) (op:Int) {fuel:Nat} (hf:a.nx.length*b.nx.length<=fuel):∃ d,bK a b op fuel=some d:=by obtain⟨st,h⟩:=dT (α:=Nat×Nat) (fuel:=fuel) (K:=(partsOf (a.cl++b.cl)).length) (P:=gu a b) (f:=eI a b) (p0:=(0,0)) (fun l hn hl=>Nat.le_trans (lg l hn hl) hf) ⟨ha.pos,hb.pos⟩ (fun p k hp hk=>mI ha hb p k hp hk) fuel;unfold bK;rw[h];exact⟨_,rfl⟩
theorem cC {a b:DF} (ha:Rt a) (hb:Rt b) {op f:Int} (ho:1<=op/\op<=4) {n:Nat} (hfn:f=n) (hf:a.nx.length*b.nx.length<=n) (hf2:n<=4000):∃ d,aP a b op f=(d,0)/\Rt d/\∀ w:List Nat,(∀ c∈w,c<256)->aG d w=cr op (aG a w) (aG b w):=by
 obtain⟨d,hd⟩:=jt ha hb op hf;have h1:1<=n:=by have:=Nat.mul_le_mul ha.pos hb.pos;omega
 refine⟨d,?_,cL ha hb h1 hf2 hd,fun w hw=>jb ha hb h1 hf2 hd w hw⟩;unfold aP;rw[if_neg (by rw[(aC a).2 ha,(aC b).2 hb];simp),if_neg (by omega),if_neg (by omega),if_neg (by omega)];subst hfn;rw[Int.toNat_natCast,hd]
theorem PX {a b:DF} (ha:Rt a) (hb:Rt b) {op f:Int} (ho:1<=op/\op<=4) (hf:0<=f/\f<=4000):(∃ d,aP a b op f=(d,0)/\Rt d/\∀ w:List Nat,(∀ c∈w,c<256)->aG d w=cr op (aG a w) (aG b w))\/aP a b op f=(sN,181):=by
 unfold aP;rw[if_neg (by rw[(aC a).2 ha,(aC b).2 hb];simp),if_neg (by omega),if_neg (by omega)];by_cases h0:f=0
 ·rw[if_pos h0];exact .inr rfl
 ·rw[if_neg h0]
  cases e:bK a b op f.toNat with
  | none=>exact .inr rfl
  | some d=>exact .inl ⟨d,rfl,cL ha hb (by omega) (by omega) e,fun w hw=>jb ha hb (by omega) (by omega) e w hw⟩
theorem fh {d:DF} (h:Rt d):Rt (aK d) where
 pos:=h.pos
 le:=h.le
 mr:=by show(d.mr.map _).length=_;rw[List.length_map];exact h.mr
 cl:=h.cl
 len:=h.len
 jM:=h.jM
 ris:=fun s hs=>by
  show jl ((d.mr.map fun m=>if m.isEmpty then [0]else []).getD s [])=true;rw[List.getD_eq_getElem?_getD,List.getElem?_map,aI (l:=d.mr) [] (by rw[h.mr];exact hs)];show jl (if(d.mr.getD s []).isEmpty then [0]else [])=true;split
  ·exact kf
  ·exact pO
theorem ud (d:DF) (s:Nat) (w:List Nat):aU (aK d) s w=aU d s w:=rfl
theorem fp {d:DF} (h:Rt d) (w:List Nat) (hw:∀ c∈w,c<256):aG (aK d) w= !aG d w:=by have hs:=tX h h.pos w hw;unfold aG acc;rw[ud];show(!((d.mr.map fun (m:List Int)=>if m.isEmpty then([0]:List Int)else []).getD (aU d 0 w) []).isEmpty)=_;rw[List.getD_eq_getElem?_getD,List.getElem?_map,aI (l:=d.mr) [] (by rw[h.mr];exact hs)];show(!(if(d.mr.getD (aU d 0 w) []).isEmpty then [0]else []:List Int).isEmpty)=_;cases (d.mr.getD (aU d 0 w) []).isEmpty<;>rfl
theorem ct {d:DF} (h:Rt d):∀ (w:List Nat) (s:Nat),s<d.nx.length->(∀ c∈w,c<256)->acc d (aU d s w)=true->Reach d w.length s
 | [],_,_,_,ha=>ha
 | c::w,s,hs,hw,ha=>by
  have hk:=h.part.cU (hw c (List.mem_cons_self ..));exact⟨_,hk,ct h w _ (h.cK hs hk) (fun x hx=>hw x (List.mem_cons_of_mem _ hx)) ha⟩
theorem fK (d:DF):∀ j,aU d 0 (aF d j).2=(aF d j).1
 | 0=>rfl
 | j+1=>by
  show aU d 0 ((aF d j).2++ [cg d (aF d j).1])=_;rw[dw,fK d j];rfl
theorem bV (d:DF):∀ j,(aF d j).2.length=j
 | 0=>rfl
 | j+1=>by
  show((aF d j).2++ [cg d (aF d j).1]).length=_;rw[List.length_append,bV d j];rfl
theorem eB (d:DF) (j:Nat):∀ m,j<=m->(aF d m).2.take j=(aF d j).2
 | 0,hj=>by
  obtain rfl:j=0:=by omega
  rfl
 | m+1,hj=>by
  show((aF d m).2++ [cg d (aF d m).1]).take j=_;by_cases e:j=m+1
  ·subst e
   rw[List.take_of_length_le (by rw[List.length_append,bV];exact Nat.le_refl _)];rfl
  ·rw[List.take_append_of_le_length (by rw[bV];omega)]
   exact eB d j m (by omega)
theorem qD (d:DF) {j m:Nat} (hj:j<m):(aF d m).2[j]? =some (cg d (aF d j).1):=by
 have h1:=eB d (j+1) m (by omega);have h2:((aF d m).2.take (j+1))[j]? =(aF d m).2[j]? :=by rw[List.getElem?_take,if_pos (by omega)]
 rw[<-h2,h1];show((aF d j).2++ [cg d (aF d j).1])[j]? =_;rw[List.getElem?_append_right (by rw[bV];exact Nat.le_refl _),bV,Nat.sub_self];rfl
def zS (d:DF) (m s:Nat):Prop:=Reach d m s/\∀ j,j<m->¬Reach d j s
theorem ue {d:DF} {s:Nat} :∀ m,Reach d m s->∃ m0,zS d m0 s:=fun m=>by
 induction m using Nat.strongRecOn with
 | ind m ih=>
  intro hr;by_cases e:∃ j,j<m/\Reach d j s
  ·obtain⟨j,h1,h2⟩:=e;exact ih j h1 h2
  ·exact⟨m,hr,fun j hj wR=>e ⟨j,hj,wR⟩⟩
theorem iz {d:DF} (h:Rt d):∀ (m s:Nat),s<d.nx.length->zS d m s->∃ l:List Nat,l.length=m+1/\l.Nodup/\∀ t∈l,t<d.nx.length/\∃ j,j<=m/\zS d j t
 | 0,s,hs,hm=>⟨[s],rfl,by simp,fun t ht=>by
  obtain rfl:=List.mem_singleton.1 ht
  exact⟨hs,0,Nat.le_refl _,hm⟩⟩
 | m+1,s,hs,hm=>by
  obtain⟨k,hk,hr⟩:=hm.1;obtain⟨l,h1,h2,h3⟩:=iz h m _ (h.cK hs hk) ⟨hr,fun j hj wR=>hm.2 (j+1) (by omega) ⟨k,hk,wR⟩⟩;refine⟨s::l,by rw[List.length_cons,h1],List.nodup_cons.2 ⟨fun pC=>?_,h2⟩,fun t ht=>?_⟩
  ·obtain⟨_,j,hj,eE⟩:=h3 s pC
   exact hm.2 j (by omega) eE.1
  ·rcases List.mem_cons.1 ht with rfl | ht
   ·exact⟨hs,m+1,Nat.le_refl _,hm⟩
   ·obtain⟨g1,j,g2,g3⟩:=h3 t ht
    exact⟨g1,j,by omega,g3⟩
theorem nh {d:DF} (h:Rt d) {s m:Nat} (hs:s<d.nx.length) (hr:Reach d m s):bE d s<d.nx.length:=by
 obtain⟨m0,hm⟩:=ue m hr;obtain⟨l,h1,h2,h3⟩:=iz h m0 s hs hm;have h4:=gK _ l h2 fun t ht=>(h3 t ht).1
 have h5:=hZ h hs hm.1;omega
theorem fL {d:DF} (h:Rt d) {s:List Nat} (hs:aJ d=some s):bE d 0<d.nx.length/\s=(aF d (bE d 0).toNat).2:=by
 unfold aJ at hs;split at hs
 ·cases hs
 ·have:=(jm h h.pos).2
  exact⟨by omega,(Option.some.inj hs).symm⟩
theorem eU {d:DF} (h:Rt d) {s:List Nat} (hs:aJ d=some s):aG d s=true/\(∀ c∈s,c<256)/\s.length<d.nx.length:=by obtain⟨h1,rfl⟩:=fL h hs;have h0:=(jm h h.pos).1;obtain⟨a1,a2,a3,a4⟩:=iZ h h1 (bE d 0).toNat (by omega);refine⟨?_,a4,by rw[a3];omega⟩;unfold aG;rw[fK];have h2:=eW h a1 (by omega);rw[show(bE d (aF d (bE d 0).toNat).1).toNat=0 by omega]at h2;exact h2
theorem jD {d:DF} (h:Rt d) {s w:List Nat} (hs:aJ d=some s) (hw:∀ c∈w,c<256) (ha:aG d w=true):s.length<=w.length:=by obtain⟨h1,rfl⟩:=fL h hs;have h2:=hZ h h.pos (ct h w 0 h.pos hw ha);rw[bV];omega
theorem eC {d:DF} (h:Rt d) (hs:aJ d=none) (w:List Nat) (hw:∀ c∈w,c<256):aG d w=false:=by
 cases e:aG d w with
 | false=>rfl
 | true=>
  exfalso;have h2:=ct h w 0 h.pos hw e;unfold aJ at hs;split at hs
  ·rename_i hf
   have:=nh h h.pos h2;omega
  ·cases hs
theorem nr {d:DF} (h:Rt d) {s w:List Nat} (hs:aJ d=some s) (hw:∀ c∈w,c<256) (ha:aG d w=true) (hl:w.length=s.length) {j x y:Nat} (ht:w.take j=s.take j) (hx:w[j]? =some x) (hy:s[j]? =some y):y<=x:=by
 obtain⟨h1,rfl⟩:=fL h hs;have h0:=(jm h h.pos).1;have hj:j<(bE d 0).toNat:=by have:=(List.getElem?_eq_some_iff.1 hy).1;rwa[bV]at this
 rw[qD d hj]at hy;cases hy;rw[eB d j _ (by omega)]at ht;obtain⟨a1,a2,a3,a4⟩:=iZ h h1 j (by omega);have xL:x<256:=hw x (List.mem_of_getElem? hx);obtain⟨b1,b2,b3⟩:=iy h a1 (by omega) (by omega);refine Nat.le_of_not_lt fun hlt=>?_
 have hn:=b3 x hlt
 -- but the word goes on to a state with marks
 have hk:=h.part.cU xL;have hwd:w=w.take j++x::w.drop (j+1):=by
  have eE:=(List.getElem?_eq_some_iff.1 hx);obtain⟨hj3,hj4⟩:=eE
  conv=>lhs;rw[<-List.take_append_drop j w,List.drop_eq_getElem_cons hj3,hj4]
 have hr:acc d (aU d (eJ d (aF d j).1 (cls d.cl x)) (w.drop (j+1)))=true:=by have h5:=ha;unfold aG at h5;rw[hwd,ht]at h5;unfold aU at h5;rw[List.foldl_append]at h5;have h6:=fK d j;unfold aU at h6;rw[h6]at h5;exact h5
 have h7:=hZ h (h.cK a1 hk) (ct h _ _ (h.cK a1 hk) (fun c hc=>hw c (List.mem_of_mem_drop hc)) hr);rw[List.length_drop,hl,bV]at h7;have h8:=kI h a1 hk (by omega);unfold bR at hn;rw[beq_eq_false_iff_ne]at hn;omega
theorem nU {a b d d':DF} (ha:Rt a) (hb:Rt b) {op:Int} {f f':Nat} (h1:1<=f') (hf:f'<=f) (h:bK a b op f=some d) (h':bK a b op f'=some d'):d'=d/\d.nx.length<=f':=by obtain⟨st,e1,rfl⟩:=dy h;obtain⟨fT,e2,rfl⟩:=dy h';have I:=lQ ha hb h1 e2;have e3:=tC (ng e2 (g:=f) (by have:=I.le;omega)) I.le f hf;rw[e1]at e3;cases e3;refine⟨rfl,?_⟩;show(st.2.map _).length<=f';rw[List.length_map];have:=I.len;have:=I.le;omega
structure cY (P:List Nat->Bool) (s:List Nat):Prop where
 ok:P s=true
 jN:∀ c∈s,c<256
 short:∀ w:List Nat,(∀ c∈w,c<256)->P w=true->s.length<=w.length
 lex:∀ w:List Nat,(∀ c∈w,c<256)->P w=true->w.length=s.length->∀ j x y,w.take j=s.take j->w[j]? =some x->s[j]? =some y->y<=x
theorem rA {d:DF} (h:Rt d) {s:List Nat} (hs:aJ d=some s):cY (aG d) s/\s.length<d.nx.length:=
 ⟨⟨(eU h hs).1,(eU h hs).2.1,fun _ hw ha=>jD h hs hw ha,fun _ hw ha hl _ _ _ ht hx hy=>nr h hs hw ha hl ht hx hy⟩,(eU h hs).2.2⟩
theorem cY.congr {P Q:List Nat->Bool} {s:List Nat} (h:cY P s) (e:∀ w:List Nat,(∀ c∈w,c<256)->P w=Q w):cY Q s:=
 ⟨by rw[<-e s h.jN];exact h.ok,h.jN,fun w hw ha=>h.short w hw (by rw[e w hw];exact ha),fun w hw ha=>h.lex w hw (by rw[e w hw];exact ha)⟩
def gy (P:List Nat->Bool) (s:List Nat) (is:Bool):Prop:=(is=true/\s=[]/\∀ w:List Nat,(∀ c∈w,c<256)->P w=false)\/(is=false/\cY P s)
theorem zT {a b d:DF} {op f:Int} (h:aP a b op f=(d,0)) (rt:Rt d) (hd:∀ w:List Nat,(∀ c∈w,c<256)->aG d w=cr op (aG a w) (aG b w)):∃ s is,aX a b op f=(s,is,0)/\gy (fun w=>cr op (aG a w) (aG b w)) s is:=by
 unfold aX;rw[h,if_pos rfl];show ∃ s is,((aJ d).getD [], !(aJ d).isSome,(0:Int))=(s,is,0)/\_;cases e:aJ d with
 | none=>exact⟨[],true,rfl,.inl ⟨rfl,rfl,fun w hw=>(hd w hw).symm.trans (eC rt e w hw)⟩⟩
 | some s=>exact⟨s,false,rfl,.inr ⟨rfl,(rA rt e).1.congr hd⟩⟩
theorem PY {a b:DF} (ha:Rt a) (hb:Rt b) {op f:Int} (ho:1<=op/\op<=4) (hf:0<=f/\f<=4000):(∃ s is,aX a b op f=(s,is,0)/\gy (fun w=>cr op (aG a w) (aG b w)) s is)\/aX a b op f=([],false,181):=by
 rcases PX ha hb ho hf with⟨d,h1,h2,h3⟩ | h
 ·exact .inl (zT h1 h2 h3)
 ·refine .inr ?_
  unfold aX;rw[h];rfl
theorem gy.yes {P:List Nat->Bool} {s:List Nat} {is:Bool} (h:gy P s is) (hP:∀ w:List Nat,(∀ c∈w,c<256)->P w=false):is=true/\s=[]:=by
 rcases h with⟨h1,h2,_⟩ | ⟨_,h2⟩
 ·exact⟨h1,h2⟩
 ·have:=h2.ok
  rw[hP s h2.jN]at this;cases this
theorem wK (a b:Bool):cr 4 a b=(a != b):=rfl
end
section
open Go Go.RowKit Go.Shelf Go.Maps
def lh (p q:DF) (few:Bool) (n0 n1 n2 m0 m1 m2:Nat) (W:World) (e:Ending) (w':World):Prop:=
 ∃ a0 c0 a1 c1 a2 c2 b0 d0 b1 d1 b2 d2,e=.returned (.tuple #[.agg #[.slice a0 n0 c0,.slice a1 n1 c1,.slice a2 n2 c2],.agg #[.slice b0 m0 d0,.slice b1 m1 d1,.slice b2 m2 d2],.bool few,.bool true])/\
  ay W.heap.size w' (.agg #[.slice a0 n0 c0,.slice a1 n1 c1,.slice a2 n2 c2]) p/\ay W.heap.size w' (.agg #[.slice b0 m0 d0,.slice b1 m1 d1,.slice b2 m2 d2]) q/\Below W.heap.size W w'
theorem fY {p q d:DF} {op:Nat} {f code:Int} (sp:Sm p) (sq:Sm q) (he:aP p q op f=(d,code)) (W:World) (v v':Value) (h:aT W v p) (h':aT W v' q): Calls Tryz.prog 12 #[v,v',.int .u8 op,.int .i64 f] W (fW d.cl.length d.nx.length d.mr.length code d W):=(kE v v' p q sp sq op f W h h').mono fun e w' ⟨r,hr,hd,hx⟩=>by
 rw[he]at hr hd;obtain⟨a0,c0,a1,c1,a2,c2,rfl⟩:=hd.form;exact⟨a0,c0,a1,c1,a2,c2,hr,hd,hx⟩
theorem sI {p:DF} (rt:Rt p) (sp:Sm p) (W:World) (v:Value) (h:aT W v p): Calls Tryz.prog 14 #[v] W (fW p.cl.length p.nx.length p.mr.length 0 (aK p) W):=(mN v p sp W h).mono fun e w' ⟨r,hr,hd,hx⟩=>by
 rw[if_pos ((aC p).2 rt)]at hr hd;obtain⟨a0,c0,a1,c1,a2,c2,e2⟩:=hd.form;have hl:(aK p).mr.length=p.mr.length:=List.length_map ..;rw[hl]at e2;exact⟨a0,c0,a1,c1,a2,c2,by rw[hr,e2];rfl,by rw[e2]at hd;exact hd,hx⟩
def mi (b0 b1:Nat) (c0 c1:Array Value) (A B:World):Prop:=aa (fun x=>x≠b0/\x≠b1) A B/\(ah A b0 c0 28->ah B b0 c0 28)/\(ah A b1 c1 28->ah B b1 c1 28)/\(ZB A b0->ZB B b0)/\(ZB A b1->ZB B b1)
theorem mi.trans {b0 b1:Nat} {c0 c1:Array Value} {A B C:World} (h:mi b0 b1 c0 c1 A B) (k:mi b0 b1 c0 c1 B C):mi b0 b1 c0 c1 A C:=⟨h.1.tr k.1,fun x=>k.2.1 (h.2.1 x),fun x=>k.2.2.1 (h.2.2.1 x),fun x=>k.2.2.2.1 (h.2.2.2.1 x),fun x=>k.2.2.2.2 (h.2.2.2.2 x)⟩
theorem mi.drew {b0 b1:Nat} {c0 c1:Array Value} {A:World} :mi b0 b1 c0 c1 A A.drew:=⟨(aa.refl _ _).drew,fun a=>a,fun a=>a,fun a=>a,fun a=>a⟩
def qE (b0 b1:Nat) (c0 c1:Array Value):aH (mi b0 b1 c0 c1):=⟨fun u=>u=undef,fun _ W=>ah W b0 c0 28,undef,rfl,fun _ _ _ hm _ h=>hm.2.1 h⟩
def qF (b0 b1:Nat) (c0 c1:Array Value):aH (mi b0 b1 c0 c1):=⟨fun u=>u=undef,fun _ W=>ah W b1 c1 28,undef,rfl,fun _ _ _ hm _ h=>hm.2.2.1 h⟩
theorem fM {W:World} {b:Nat} {u0 u1 u2:Value} (h:ah W b #[u0,u1,u2] 28) (x0 x1 x2:Value):ah (((W.setCell ⟨b,0,none⟩ x0).setCell ⟨b,1,none⟩ x1).setCell ⟨b,2,none⟩ x2) b #[x0,x1,x2] 28/\aa (· ≠b) W (((W.setCell ⟨b,0,none⟩ x0).setCell ⟨b,1,none⟩ x1).setCell ⟨b,2,none⟩ x2):=
 ⟨((h.set 0 _).set 1 _).set 2 _,(((aa.refl _ _).setCell (p:=⟨b,0,none⟩) (fun h=>h rfl) _).setCell (p:=⟨b,1,none⟩) (fun h=>h rfl) _).setCell (p:=⟨b,2,none⟩) (fun h=>h rfl) _⟩
theorem nV (v v':Value) (x y:List (Nat×Nat×Nat)) (xL:x.length<=1000000000000000) (LY:y.length<=1000000000000000) (cG:Bool) {p q:DF} {cp cq:Int} (hp:jO (T1 x cG) 40=(p,cp)) (hq:jO (T1 y cG) 40=(q,cq)) (yh:cp=0\/cp=181) (hcq:cq=0\/cq=181) {n0 n1 n2 m0 m1 m2:Nat} (h0:n0=p.cl.length) (h1:n1=p.nx.length) (h2:n2=p.mr.length) (h3:m0=q.cl.length) (h4:m1=q.nx.length) (h5:m2=q.mr.length) (w:World) (h:cJ w v x) (h':cJ w v' y) (hT:∀ W,Below w.heap.size w W->gL W): Calls Tryz.prog 10 #[v,v',.bool cG] w (lh p q (cp != 181&&cq != 181) n0 n1 n2 m0 m1 m2 w):=by
 have CM:Hid (∀ W,Below w.heap.size w W->Calls Tryz.prog 24 #[v] W fun e w'=>∃ u,e=.returned u/\aL (· <w'.heap.size) w' u (dc x)/\Below W.heap.size W w'):=hid fun W hW=>eO v x xL W (h.below hW)
 have CN:Hid (∀ W,Below w.heap.size w W->Calls Tryz.prog 24 #[v'] W fun e w'=>∃ u,e=.returned u/\aL (· <w'.heap.size) w' u (dc y)/\Below W.heap.size W w'):=hid fun W hW=>eO v' y LY W (h'.below hW)
 have TT:Hid (∀ A,Below w.heap.size w A->∀ V,Below A.heap.size A V->gL V):=hid fun A hA V hV=>hT V (hA.trans (hV.mono hA.size))
 have CA:Hid (∀ W u,Below w.heap.size w W->aL (· <W.heap.size) W u (dc x)->Calls Tryz.prog 23 #[u,.bool cG,.int .i64 40] W (fW n0 n1 n2 cp p W)):=hid fun W u hW hu=>eQ u x cG hp h0 h1 h2 W hu (TT.out W hW)
 have CB:Hid (∀ W u,Below w.heap.size w W->aL (· <W.heap.size) W u (dc y)->Calls Tryz.prog 23 #[u,.bool cG,.int .i64 40] W (fW m0 m1 m2 cq q W)):=hid fun W u hW hu=>eQ u y cG hq h3 h4 h5 W hu (TT.out W hW)
 obtain⟨va,vc,rfl⟩:=h.form;obtain⟨wa,wc,rfl⟩:=h'.form;generalize x.length=xn at*;generalize y.length=yn at*;clear h h' hT hp hq h0 h1 h2 h3 h4 h5 TT;go_enter Tryz.func10,Tryz.ntmps10;go_upto_region 1 with fail
 refine aw ?_;intro V0 hV;have BZ:Hid (ah V0 w.heap.size #[.slice none 0 0,.slice none 0 0,.slice none 0 0] 28):=hid (by rw[hV];exact(ah.new w _ _).alloc _);have BY:Hid (ah V0 (w.heap.size+1) #[.slice none 0 0,.slice none 0 0,.slice none 0 0] 28):=hid (by rw[hV];exact(ah.new (w.alloc _) _ _).at (by simp));have X0:Hid (Below w.heap.size w V0):=hid (by rw[hV];exact(((Ext.refl w).alloc _).alloc _).below);clear hV;go_wp2_with fail
 refine(CM.out V0 X0.out).mono ?_;rintro e w1 ⟨u,rfl,ht,hx⟩;have X1:=hid (X0.out.trans (hx.mono X0.out.size));have Y1:Hid (Below V0.heap.size V0 w1):=hid hx;have HT:=hid ht;obtain⟨tp,tc,rfl⟩:=ht.form;clear ht hx CM X0;go_wp2_with fail
 refine(CA.out w1 _ X1.out HT.out).mono ?_;rintro e w2 ⟨a0,c0,a1,c1,a2,c2,rfl,ho,hx⟩;have OP:=hid ho;have X2:=hid (X1.out.trans (hx.mono X1.out.size));have Y2:=hid (Y1.out.trans (hx.mono Y1.out.size));have LW:Hid (w1.heap.size<=w2.heap.size):=hid hx.size;have L1:Hid (w.heap.size+1<w1.heap.size):=hid (Nat.lt_of_lt_of_le BY.out.lt Y1.out.size);clear ho hx CA HT Y1 X1;go_upto_region 2 with fail
 refine aw ?_;intro V1 hV;have BA:Hid (ah V1 w2.heap.size #[.slice a0 n0 c0,.slice a1 n1 c1,.slice a2 n2 c2] 28):=hid (by rw[hV];exact ah.new w2 _ _);have XV:Hid (Below w2.heap.size w2 V1):=hid (by rw[hV];exact((Ext.refl w2).alloc _).below);clear hV;have UB:=hid (OP.out.below XV.out);have X3:=hid (X2.out.trans (XV.out.mono X2.out.size));have Y3:=hid (Y2.out.trans (XV.out.mono Y2.out.size));clear OP X2 Y2 XV;go_wp2_with fail
 refine(CN.out V1 X3.out).mono ?_;rintro e w3 ⟨u,rfl,ht,hx⟩;have X4:=hid (X3.out.trans (hx.mono X3.out.size));have Z1:Hid (Below V1.heap.size V1 w3):=hid hx;have HT:=hid ht;obtain⟨tq,td,rfl⟩:=ht.form;clear ht hx CN X3;go_wp2_with fail
 refine(CB.out w3 _ X4.out HT.out).mono ?_;rintro e w4 ⟨b0,d0,b1,d1,b2,d2,rfl,ho,hx⟩;have OQ:=hid ho;have X5:=hid (X4.out.trans (hx.mono X4.out.size));have Z2:=hid (Z1.out.trans (hx.mono Z1.out.size));have L2:Hid (w.heap.size+1<w3.heap.size):=hid (Nat.lt_of_lt_of_le (Nat.lt_of_lt_of_le BY.out.lt Y3.out.size) Z1.out.size);clear ho hx CB HT Z1 X4;go_upto_region 3 with fail
 refine aw ?_;intro V2 hV;have BB:Hid (ah V2 w4.heap.size #[.slice b0 m0 d0,.slice b1 m1 d1,.slice b2 m2 d2] 28):=hid (by rw[hV];exact ah.new w4 _ _);have XV:Hid (Below w4.heap.size w4 V2):=hid (by rw[hV];exact((Ext.refl w4).alloc _).below);clear hV;have Z3:=hid (Z2.out.trans (XV.out.mono Z2.out.size));have OQ2:=hid (OQ.out.below XV.out);have OP3:=hid (UB.out.below Z3.out);have BA2:=hid (BA.out.below Z3.out BA.out.lt);have X6:=hid (X5.out.trans (XV.out.mono X5.out.size));have Y4:=hid (Y3.out.trans (Z3.out.mono Y3.out.size));have PH:=hid (BZ.out.below Y4.out BZ.out.lt);have BY2:=hid (BY.out.below Y4.out BY.out.lt);have L3:Hid (w2.heap.size<w4.heap.size):=hid (Nat.lt_of_lt_of_le BA.out.lt Z2.out.size);have L4:Hid (w1.heap.size<=w2.heap.size):=hid LW.out;clear UB OQ BA Z2 Z3 X5 Y3 Y4 XV BZ BY;have qK:=L1.out;have hl2:=L2.out;have Fg:=L3.out;have hl4:=L4.out;have hl5:=BB.out.lt;obtain⟨k0,k1,k2⟩:=ay.dB BA2.out;obtain⟨k3,k4,k5⟩:=ay.dB BB.out;rcases yh with rfl | rfl<;>rcases hcq with rfl | rfl
 all_goals (
  go_upto_region 4 with fail
  refine aY (mi w.heap.size (w.heap.size+1) #[.slice a0 n0 c0,.slice a1 n1 c1,.slice a2 n2 c2] #[.slice b0 m0 d0,.slice b1 m1 d1,.slice b2 m2 d2]) mi.drew (fun _ _ _ h k=>h.trans k) (by kernel_rfl) 14 [0,0,0,0,8,24,56,56,248,504,1016,57,2107,6207,16383] (fun i=>i==11 || i==12) (by kernel_rfl) (fun i=>if i=11 then qE _ _ _ _ else if i=12 then qF _ _ _ _ else aH.any _) ?_;intro C hC hne;have HC:=hid hC;have kc:∀ {b o:Nat} {u:Value},b≠w.heap.size->b≠w.heap.size+1->b<V2.heap.size->V2.cell? ⟨b,o,none⟩=some u->∀ W: {W//C W},W.1.cell? ⟨b,o,none⟩=some u:=fun {b o u} h1 h2 h3 h W=>(((hC W.1).1 W.2).1.cell (p:=⟨b,o,none⟩) ⟨h1,h2⟩).trans h
  replace k0:=kc (by omega) (by omega) (by omega) k0;replace k1:=kc (by omega) (by omega) (by omega) k1;replace k2:=kc (by omega) (by omega) (by omega) k2;replace k3:=kc (by omega) (by omega) (by omega) k3;replace k4:=kc (by omega) (by omega) (by omega) k4;replace k5:=kc (by omega) (by omega) (by omega) k5;clear hC kc
  repeat (refine ae (fun K hK=>?_);first | (refine aR rfl ?_;try go_simp;refine hK _ _ ?_;clear hK K) | (refine aO rfl rfl ?_;unfold ai;go_simp;refine hK _ _ ?_;clear hK K))
  refine ae (fun K hK=>?_);refine bg rfl rfl (qE _ _ _ _) rfl (fun W hW hN=>?_) (fun v hv=>?_)
  ·have hM:=(HC.out W).1 hW
   obtain⟨u0,u1,u2,hb⟩:ZB W (w.heap.size):=hM.2.2.2.1 ⟨_,_,_,PH.out⟩;obtain⟨r1,r2⟩:=fM hb (.slice a0 n0 c0) (.slice a1 n1 c1) (.slice a2 n2 c2);obtain⟨z0,z1,z2⟩:=ay.dB hb;have z3:=hb.frozen 0;have z4:=hb.frozen 1;have z5:=hb.frozen 2;clear hW hN hK K hM hb k0 k1 k2 k3 k4 k5;go_simp;exact⟨⟨r2.mono fun x hx=>hx.1,fun _=>r1,fun h=>h.keeps r2 (by omega),fun _=>⟨_,_,_,r1⟩,fun ⟨v0,v1,v2,h⟩=>⟨v0,v1,v2,h.keeps r2 (by omega)⟩⟩,rfl,r1⟩
  replace hv:v=_:=hv;subst hv;go_simp;refine hK _ _ ?_;clear hK K;refine ae (fun K hK=>?_);refine bg rfl rfl (qF _ _ _ _) rfl (fun W hW hN=>?_) (fun v hv=>?_)
  ·have hM:=(HC.out W).1 hW
   obtain⟨u0,u1,u2,hb⟩:ZB W (w.heap.size+1):=hM.2.2.2.2 ⟨_,_,_,BY2.out⟩;obtain⟨r1,r2⟩:=fM hb (.slice b0 m0 d0) (.slice b1 m1 d1) (.slice b2 m2 d2);obtain⟨z0,z1,z2⟩:=ay.dB hb;have z3:=hb.frozen 0;have z4:=hb.frozen 1;have z5:=hb.frozen 2;clear hW hN hK K hM hb k0 k1 k2 k3 k4 k5;go_simp;exact⟨⟨r2.mono fun x hx=>hx.2,fun h=>h.keeps r2 (by omega),fun _=>r1,fun ⟨v0,v1,v2,h⟩=>⟨v0,v1,v2,h.keeps r2 (by omega)⟩,fun _=>⟨_,_,_,r1⟩⟩,rfl,r1⟩
  replace hv:v=_:=hv;subst hv;go_simp;refine hK _ _ ?_;clear hK K
  repeat (refine ae (fun K hK=>?_);first | (refine aR rfl ?_;try go_simp;refine hK _ _ ?_;clear hK K) | (refine aO rfl rfl ?_;unfold ai;go_simp;refine hK _ _ ?_;clear hK K))
  refine bh (fun W hW hH=>?_);have hM:=(HC.out W).1 hW;have hb1:ah W (w.heap.size+1) #[.slice b0 m0 d0,.slice b1 m1 d1,.slice b2 m2 d2] 28:=hH _ (List.mem_of_getElem? (show _=some _ from rfl:_[0]? =some _));have hb0:ah W w.heap.size #[.slice a0 n0 c0,.slice a1 n1 c1,.slice a2 n2 c2] 28:=hH _ (List.mem_of_getElem? (show _=some _ from rfl:_[1]? =some _));have pW:=hid hM.1;clear hM hW hH HC hne k0 k1 k2 k3 k4 k5;obtain⟨z0,z1,z2⟩:=ay.dB hb0;obtain⟨y0,y1,y2⟩:=ay.dB hb1;go_wp2;refine bodyPost_ret (v:=.tuple #[.agg #[.slice a0 n0 c0,.slice a1 n1 c1,.slice a2 n2 c2],.agg #[.slice b0 m0 d0,.slice b1 m1 d1,.slice b2 m2 d2],.bool _,.bool true]) (by simp[results,Tryz.results10,go_sem,z0,z1,z2,y0,y1,y2,show IntKind.i64.wrap 0=0 from rfl]) rfl ⟨a0,c0,a1,c1,a2,c2,b0,d0,b1,d1,b2,d2,rfl,(OP3.out.keeps pW.out fun b hb _=>⟨by omega,by omega⟩).base (by omega),(OQ2.out.keeps pW.out fun b hb _=>⟨by omega,by omega⟩).base (by omega),?_⟩
  exact X6.out.trans (pW.out.mono fun x (hx:x<w.heap.size)=>⟨by omega,by omega⟩:aa (· <w.heap.size) V2 W).below)
theorem lj (x y:List (Nat×Nat×Nat)) (cG:Bool):∃ (p q:DF) (cp cq:Int),jO (T1 x cG) 40=(p,cp)/\jO (T1 y cG) 40=(q,cq)/\(cp=0\/cp=181)/\(cq=0\/cq=181)/\((cp != 181&&cq != 181)=true->Rt p/\Rt q/\p.nx.length<=40/\q.nx.length<=40):=by
 rcases ez x cG with⟨p,h1,h2,h3⟩ | h
 ·rcases ez y cG with⟨q,h4,h5,h6⟩ | h'
  ·exact⟨p,q,0,0,h1,h4,.inl rfl,.inl rfl,fun _=>⟨h2,h5,h3,h6⟩⟩
  ·exact⟨p,_,0,181,h1,h',.inl rfl,.inr rfl,fun e=>by cases e⟩
 ·rcases ez y cG with⟨q,h4,h5,h6⟩ | h'
  ·exact⟨_,q,181,0,h,h4,.inr rfl,.inl rfl,fun e=>by cases e⟩
  ·exact⟨_,_,181,181,h,h',.inr rfl,.inr rfl,fun e=>by cases e⟩
end
end Go.Proofs.YtalombmiochpmaaGreatDoor
namespace Go.Proofs.YtalombmiochpmaaGreatDoor.RegF
open Go Go.RowKit
section
variable {P:Program} {ops:Array Oper} {eff:Nat→Bool} {cD:Nat→Nat} {M:World→World→Prop} {EP:Nat→aH M} {C:World→Prop} {al:Nat→Bool} {Fin:List Oper→Act→World→Prop} {fw:Bool} {m:Nat} {E:aH M} {o:Oper} {k:Nat} {aV:List (Nat× (World→Prop))} {a:Act} {K:List (Nat× (World→Prop))→Act→Prop} {l:List Oper}
theorem aO (he:fw=false) (hw:Region.wanted o (yielded ops a.tmps)=true) (h:∃ v,(∀ W: {W//C W},ai P o a v W.1)/\K aV (a.put o.dst v)):cR P ops fw m E C al o k aV a K:=gV.aO he hw h
theorem bg (he:fw=true) (hw:Region.wanted o (yielded ops a.tmps)=true) (ha:al k=false) (E':aH M) (hE:E=E') (h1:∀ W,C W->needs m aV W->kj (Calls P) iG (fun v W'=>M W W'/\E'.P v/\E'.H v W') ((execOp a.eval o).run P W)) (h2:∀ v,E'.P v->K ((k,E'.H v)::aV) (a.put o.dst v)):cR P ops fw m E C al o k aV a K:=
 gV.bg he hw (RegQ.up E') (by rw[hE]) (fun W hW _ hN=>qM (fun _ _ ⟨h1,h2⟩=>by rw[ha];exact⟨⟨h1,fun _ _ _ _=>trivial⟩,h2⟩) (h1 W hW hN)) h2
theorem af4 (he:fw=true) (hw:Region.wanted o (yielded ops a.tmps)=true) (ha:al k=true) (E':aH M) (hE:E=E') (h1:∀ W,C W->needs m aV W->kj (Calls P) iG (fun v W'=>gV.GA W v W'/\M W W'/\E'.P v/\E'.H v W') ((execOp a.eval o).run P W)) (h2:∀ v,E'.P v->K ((k,E'.H v)::aV) (a.put o.dst v)):cR P ops fw m E C al o k aV a K:=
 gV.bg he hw (RegQ.up E') (by rw[hE]) (fun W hW _ hN=>qM (fun _ _ ⟨h0,h1,h2⟩=>by rw[ha];exact⟨h0,⟨h1,fun _ _ _ _=>trivial⟩,h2⟩) (h1 W hW hN)) h2
end
theorem xp {P:Program} {id:Nat} {Q:Exit->Act->World->Prop} {a:Act} {w:World} {l:List Oper} (T:Nat->Prop) (hm:P.follows .mixedOrders=true) (m:Nat) (cD:List Nat) (eff:Nat->Bool) (hB:pg .any l.toArray cD m=true) (al:List Nat) (hA:gV.QR l.toArray eff al m=true) (EP:Nat->aH (Move false T)) (h:∀ C:World->Prop,(∀ W,C W↔Move false T w W)->Nonempty {W//C W} ->eG (gW P l.toArray eff (fun i=>cD.getD i 0) EP C (fun j=>al.contains j) (fun r a W=>gV.Ea l.toArray al a->wpList P l.toArray Q r a W) m l 0 [] a)):(Code.region id l.toArray true).wp P Q a w:=
 gV.kn (Move false T) (Move.ext (Ext.refl w).drew) (fun _ _ _ h k=>h.trans k) hm m cD eff hB (fun _=>none) (fun _ _=>rfl) (List.all_eq_true.2 fun _ _=>List.all_eq_true.2 fun _ _=>rfl) (fun i=>RegQ.up (EP i)) (fun _ _=>True) (fun _ _=>trivial) al (fun j=>al.contains j) hA (fun _=>rfl) (fun _ _ _ h=>h.size) _ (fun _ _ _ h1 h2=>h2 h1) fun C hC hne=>⟨(h C hC hne).out⟩
end Go.Proofs.YtalombmiochpmaaGreatDoor.RegF
namespace Go.Proofs.YtalombmiochpmaaGreatDoor
section
open Go Go.RowKit
theorem gV.Ea.ne {ops:Array Oper} {al:List Nat} {a:Act} (h:gV.Ea ops al a) (i j s t:Nat) {x y:Value} (hi:al.contains i=true) (hj:al.contains j=true) (oZ:i≠j) (hs:dR ops i=some s) (ht:dR ops j=some t) (h1:a.tmps[s]? =some x) (h2:a.tmps[t]? =some y):gV.Ns x≠gV.Ns y:=
 h i j s t x y hi hj oZ hs ht (Array.getElem?_eq_some_iff.1 h1).1 (Array.getElem?_eq_some_iff.1 h2).1 h1 h2
theorem XH {n:Nat} (l:List (Nat×Nat)) (hn:l.Nodup) (hl:∀ p∈l,p.1<n/\p.2=p.1):l.length<=n:=by
 have h1:(l.map fun p=>p.1).Nodup:=by
  rw[List.nodup_iff_pairwise_ne,List.pairwise_map];refine(List.nodup_iff_pairwise_ne.1 hn).imp_of_mem fun {p q} hp hq hne e=>hne ?_
  exact Prod.ext e (by rw[(hl p hp).2,(hl q hq).2];exact e)
 have h2:=gK n _ h1 fun t ht=>by
  obtain⟨p,hp,rfl⟩:=List.mem_map.1 ht;exact(hl p hp).1
 rwa[List.length_map]at h2
theorem PZ {a b:DF} (ha:Rt a) (hc:a.cl=b.cl) (hx:a.nx=b.nx) (op:Int) {fuel:Nat} (hf:a.nx.length<=fuel):∃ d,bK a b op fuel=some d:=by
 obtain⟨st,h⟩:=dT (α:=Nat×Nat) (fuel:=fuel) (K:=(partsOf (a.cl++b.cl)).length) (P:=fun p=>p.1<a.nx.length/\p.2=p.1) (f:=eI a b) (p0:=(0,0)) (fun l hn hl=>Nat.le_trans (XH l hn hl) hf) ⟨ha.pos,rfl⟩ (fun p k hp hk=>by
  refine⟨ha.cK hp.1 (ha.part.cU (Ch hk)),?_⟩;show eJ b p.2 (cls b.cl (lb (partsOf (a.cl++b.cl)) k))=eJ a p.1 (cls a.cl (lb (partsOf (a.cl++b.cl)) k));unfold eJ
  rw[<-hc, <-hx,hp.2]) fuel
 unfold bK;rw[h];exact⟨_,rfl⟩
theorem P0 {a b d e:DF} {o o':Int} {fuel:Nat} (h:bK a b o fuel=some d) (h':bK a b o' fuel=some e):d.cl=e.cl/\d.nx=e.nx:=by obtain⟨st,e1,rfl⟩:=dy h;obtain⟨fT,e2,rfl⟩:=dy h';rw[e1]at e2;cases e2;exact⟨rfl,rfl⟩
theorem uh {a b d:DF} {op f:Int} {n:Nat} (hfn:f=n) (h:aP a b op f=(d,0)):a.right=true/\b.right=true/\1<=op/\op<=4/\1<=n/\n<=4000/\bK a b op n=some d:=by
 subst hfn;unfold aP at h;split at h
 ·cases (Prod.ext_iff.1 h).2
 ·rename_i hr
  split at h
  ·cases (Prod.ext_iff.1 h).2
  ·split at h
   ·cases (Prod.ext_iff.1 h).2
   ·split at h
    ·cases (Prod.ext_iff.1 h).2
    ·split at h
     ·rename_i x hx
      cases h
      rw[Int.toNat_natCast]at hx;refine⟨?_,?_,by omega,by omega,by omega,by omega,hx⟩
      ·cases ha:a.right<;>simp[ha]at hr ⊢
      ·cases hb:b.right<;>simp[hb]at hr ⊢
     ·cases (Prod.ext_iff.1 h).2
theorem LZ {a b d e:DF} {o o' op f:Int} {n:Nat} (hfn:f=n) (h:aP a b o f=(d,0)) (h':aP a b o' f=(e,0)) (ho:1<=op/\op<=4):∃ x,aP d e op f=(x,0)/\Rt x/\∀ w:List Nat,(∀ c∈w,c<256)->aG x w=cr op (aG d w) (aG e w):=by obtain⟨h1,h2,_,_,h3,h4,h5⟩:=uh hfn h;obtain⟨_,_,_,_,_,_,h6⟩:=uh hfn h';have ra:=(aC a).1 h1;have rb:=(aC b).1 h2;have rd:=cL ra rb h3 h4 h5;have re:=cL ra rb h3 h4 h6;obtain⟨c1,c2⟩:=P0 h5 h6;obtain⟨x,hx⟩:=PZ rd c1 c2 op (fuel:=n) ((nU ra rb h3 (Nat.le_refl n) h5 h5).2);refine⟨x,?_,cL rd re h3 h4 hx,fun w hw=>jb rd re h3 h4 hx w hw⟩;unfold aP;rw[if_neg (by rw[(aC d).2 rd,(aC e).2 re];simp),if_neg (by omega),if_neg (by omega),if_neg (by omega)];subst hfn;rw[Int.toNat_natCast,hx]
end
section
open Go Go.RowKit Go.Shelf Go.Maps
theorem DB {W:World} {b:Nat} {u0 u1 u2:Value} (h:ah W b #[u0,u1,u2] 28) (x0 x1 x2:Value):ah (((W.setCell ⟨b,0,none⟩ x0).setCell ⟨b,1,none⟩ x1).setCell ⟨b,2,none⟩ x2) b #[x0,x1,x2] 28/\aa (· ≠b) W (((W.setCell ⟨b,0,none⟩ x0).setCell ⟨b,1,none⟩ x1).setCell ⟨b,2,none⟩ x2):=
 ⟨((h.set 0 _).set 1 _).set 2 _,(((aa.refl _ _).setCell (p:=⟨b,0,none⟩) (fun h=>h rfl) _).setCell (p:=⟨b,1,none⟩) (fun h=>h rfl) _).setCell (p:=⟨b,2,none⟩) (fun h=>h rfl) _⟩
end
section
open Go Go.RowKit
def sumTo (f:Nat->Nat):Nat->Nat
 | 0=>0
 | n+1=>sumTo f n+f n
def zU (f:List Nat->Nat):Nat->Nat
 | 0=>f []
 | n+1=>sumTo (fun c=>zU (fun w=>f (c::w)) n) 256
def ind (b:Bool):Nat:=if b then 1 else 0
def cnt (d:DF) (n:Nat):Nat:=zU (fun w=>ind (aG d w)) n
end
section
open Go Go.RowKit Go.Shelf Go.Maps
theorem qG {P:Program} {Cl:FuncId->Array Value->World->(Ending->World->Prop)->Prop} {Rd:Nat->FuncId->Array Value->Code->Code->World->(Ending->World->Prop)->Prop} {o:Oper} {a:Act} {W:World} {post:Value->World->Prop} (t e:TypeId) (len:Nat) (parts:Array (Nat×Operand)) (ho:o.op=.buildSlice t len parts) (vs:List (Nat×Value)) (hv:parts.toList.map (fun p=>(p.1,a.eval p.2))=vs) (cells:Array Value) (ie:TypeInfo) (z:Value) (hu:P.underlying t=some (.slice e)) (hie:P.info? e=some ie) (hz:ie.zero=some z) (EZ:¬len*ie.size>2^24) (Sh:¬len*ie.size=0) (hf:Instr.fill (fun i=>some (i*ie.size,ie.size)) ((Array.range (len*ie.size)).map (z.cells[· %z.cells.size]!)) vs=some cells) (h:post (.slice (some ⟨W.heap.size,0,none⟩) len len) (W.alloc (.cells cells e))):kj Cl Rd post ((execOp a.eval o).run P W):=by
 unfold execOp;have e1:(parts.map fun (i,x)=>(i,a.eval x))=vs.toArray:=by
  rw[<-hv];apply Array.toList_inj.1;rw[Array.toList_map]
 simp only[ho,Sem.run_bind,e1,run_buildSlice W t e len vs.toArray cells ie z hu hie hz EZ Sh hf,Result.andThen_ok];exact h
theorem zV {w:World} {b:Nat} {x:Value} {t:TypeId} (h:ah w b #[x] t):Below w.heap.size w (w.setCell ⟨b,0,none⟩ x):=by
 have K:=(aa.refl (· ≠b) w).setCell (p:=⟨b,0,none⟩) (fun h=>h rfl) x;have h2:=h.set 0 x
 exact(⟨K.os,K.tape,K.output,K.size,fun k _=>by
  by_cases e:k=b
  ·rw[e]
   exact(show _=some _ from h2).trans (show _=some _ from h).symm
  ·exact K.keep k e⟩:aa (· <w.heap.size) w _).below
theorem eX (v v':Value) (p q d:DF) (sp:Sm p) (sq:Sm q) (op:Nat) (he:aP p q op 1600=(d,0)) (ui:Nat) (w:World) (hB:ah w ui #[.bool true] 4) (h:aT w v p) (h':aT w v' q): Calls Tryz.prog 15 #[v,v',.int .u8 op,.pointer (some ⟨ui,0,none⟩)] w fun e w'=>∃ x0 x1 x2,e=.returned (.agg #[x0,x1,x2])/\ay 0 w' (.agg #[x0,x1,x2]) d/\Below w.heap.size w w':=by
 obtain⟨m0,oU⟩:∃ n,n=d.cl.length:=⟨_,rfl⟩;obtain⟨m1,oQ⟩:∃ n,n=d.nx.length:=⟨_,rfl⟩;obtain⟨m2,mz⟩:∃ n,n=d.mr.length:=⟨_,rfl⟩;have CO:Hid (∀ W,Below w.heap.size w W->Calls Tryz.prog 12 #[v,v',.int .u8 op,.int .i64 1600] W (fW m0 m1 m2 0 d W)):=hid fun W hW=>by
  rw[oU,oQ,mz];exact fY sp sq he W v v' (h.below hW) (h'.below hW)
 obtain⟨v0,v1,v2,rfl,h0,h1,h2⟩:=h;obtain⟨a0,c0,rfl⟩:=h0.1.form;obtain⟨a1,c1,rfl⟩:=h1.form;obtain⟨a2,c2,rfl⟩:=h2.form;obtain⟨u0,u1,u2,rfl,k0,k1,k2⟩:=h';obtain⟨b0,d0,rfl⟩:=k0.1.form;obtain⟨b1,d1,rfl⟩:=k1.form;obtain⟨b2,d2,rfl⟩:=k2.form;generalize p.cl.length=n0 at*;generalize p.nx.length=n1 at*;generalize p.mr.length=n2 at*;generalize q.cl.length=l0 at*;generalize q.nx.length=l1 at*;generalize q.mr.length=l2 at*;have HB:=hid hB;clear h0 h1 h2 k0 k1 k2 sp sq he oU oQ mz hB;go_enter Tryz.func15,Tryz.ntmps15;go_upto_region 1 with fail
 refine aw ?_;intro V hV;have BA:Hid (ah V w.heap.size #[.slice a0 n0 c0,.slice a1 n1 c1,.slice a2 n2 c2] 28):=hid (by rw[hV];exact((ah.new w _ _).alloc _).alloc _);have BB:Hid (ah V (w.heap.size+1) #[.slice b0 l0 d0,.slice b1 l1 d1,.slice b2 l2 d2] 28):=hid (by rw[hV];exact((ah.new (w.alloc _) _ _).at (by simp)).alloc _);have BR:Hid (ah V (w.heap.size+2) #[.slice none 0 0,.slice none 0 0,.slice none 0 0] 28):=hid (by rw[hV];exact(ah.new ((w.alloc _).alloc _) _ _).at (by simp));have XV:Hid (Below w.heap.size w V):=hid (by rw[hV];exact((((Ext.refl w).alloc _).alloc _).alloc _).below);clear hV;obtain⟨p0,p1,p2⟩:=ay.dB BA.out;obtain⟨r0,r1,r2⟩:=ay.dB BB.out;go_wp2_with fail
 refine(CO.out V XV.out).mono ?_;rintro e w1 ⟨x0,y0,x1,y1,x2,y2,rfl,ho,hx⟩;have OD:=hid ho;have X1:=hid (XV.out.trans (hx.mono XV.out.size));have BR1:=hid (BR.out.below hx BR.out.lt);have L1:Hid (w.heap.size+2<V.heap.size/\V.heap.size<=w1.heap.size):=hid ⟨BR.out.lt,hx.size⟩;clear ho hx p0 p1 p2 r0 r1 r2 CO BA BB BR XV;go_upto_region 2 with fail
 refine aw ?_;intro V1 hV;have BN:Hid (ah V1 w1.heap.size #[.slice x0 m0 y0,.slice x1 m1 y1,.slice x2 m2 y2] 28):=hid (by rw[hV];exact ah.new w1 _ _);have XN:Hid (Below w1.heap.size w1 V1):=hid (by rw[hV];exact((Ext.refl w1).alloc _).below);clear hV;have X2:=hid (X1.out.trans (XN.out.mono X1.out.size));have OD2:=hid (OD.out.below XN.out);have BR2:=hid (BR1.out.below XN.out BR1.out.lt);have eT:=hid (HB.out.below X2.out HB.out.lt);clear XN OD BR1 X1;have k0:V1.cell? ⟨ui,0,none⟩=some (.bool true):=eT.out.cell 0;have z0:=eT.out.frozen 0;go_upto_region 3 with fail
 refine aw ?_;intro V2 hV;have XS:Hid (Below V1.heap.size V1 V2):=hid (by rw[hV];exact zV eT.out);clear hV k0 z0;have BN2:=hid (BN.out.below XS.out BN.out.lt);have BR3:=hid (BR2.out.below XS.out BR2.out.lt);have OD3:=hid (OD2.out.below XS.out);have X3:=hid (X2.out.trans (XS.out.mono X2.out.size));clear XS OD2 BR2 BN X2 eT;obtain⟨p0,p1,p2⟩:=ay.dB BN2.out;obtain⟨⟨z0,z1,z2⟩,z3,z4,z5⟩:=BR3.out.three;go_wp2;refine bB ?_;intro W9 dK;have E9:Hid (ah W9 (w.heap.size+2) #[.slice x0 m0 y0,.slice x1 m1 y1,.slice x2 m2 y2] 28/\aa (· ≠w.heap.size+2) V2 W9):=by rw[dK];exact hid (DB BR3.out _ _ _)
 clear dK z0 z1 z2 z3 z4 z5 p0 p1 p2;obtain⟨z0,z1,z2⟩:=ay.dB E9.out.1;have l1:=L1.out;exact bodyPost_ret (v:=.agg #[.slice x0 m0 y0,.slice x1 m1 y1,.slice x2 m2 y2]) (by simp[results,Tryz.results15,go_sem,z0,z1,z2]) rfl ⟨_,_,_,rfl,(OD3.out.keeps E9.out.2 fun x hx _=>by show x≠w.heap.size+2;omega).base (Nat.zero_le _),X3.out.trans (E9.out.2.mono fun x (hx:x<w.heap.size)=>by show x≠w.heap.size+2;omega:aa (· <w.heap.size) V2 W9).below⟩
theorem eR (v:Value) (p:DF) (rp:Rt p) (ui:Nat) (w:World) (hB:ah w ui #[.bool true] 4) (h:aT w v p): Calls Tryz.prog 16 #[v,.pointer (some ⟨ui,0,none⟩)] w fun e w'=>∃ x0 x1 x2,e=.returned (.agg #[x0,x1,x2])/\ay 0 w' (.agg #[x0,x1,x2]) (aK p)/\Below w.heap.size w w':=by
 obtain⟨m0,oU⟩:∃ n,n=p.cl.length:=⟨_,rfl⟩;obtain⟨m1,oQ⟩:∃ n,n=p.nx.length:=⟨_,rfl⟩;obtain⟨m2,mz⟩:∃ n,n=p.mr.length:=⟨_,rfl⟩;have CO:Hid (∀ W,Below w.heap.size w W->Calls Tryz.prog 14 #[v] W (fW m0 m1 m2 0 (aK p) W)):=hid fun W hW=>by
  rw[oU,oQ,mz];exact sI rp rp.sm W v (h.below hW)
 obtain⟨v0,v1,v2,rfl,h0,h1,h2⟩:=h;obtain⟨a0,c0,rfl⟩:=h0.1.form;obtain⟨a1,c1,rfl⟩:=h1.form;obtain⟨a2,c2,rfl⟩:=h2.form;rw[<-oU, <-oQ, <-mz]at CO ⊢;have HB:=hid hB;clear h0 h1 h2 rp oU oQ mz hB;go_enter Tryz.func16,Tryz.ntmps16;go_upto_region 1 with fail
 refine aw ?_;intro V hV;have BA:Hid (ah V w.heap.size #[.slice a0 m0 c0,.slice a1 m1 c1,.slice a2 m2 c2] 28):=hid (by rw[hV];exact(ah.new w _ _).alloc _);have BR:Hid (ah V (w.heap.size+1) #[.slice none 0 0,.slice none 0 0,.slice none 0 0] 28):=hid (by rw[hV];exact(ah.new (w.alloc _) _ _).at (by simp));have XV:Hid (Below w.heap.size w V):=hid (by rw[hV];exact(((Ext.refl w).alloc _).alloc _).below);clear hV;obtain⟨p0,p1,p2⟩:=ay.dB BA.out;go_wp2_with fail
 refine(CO.out V XV.out).mono ?_;rintro e w1 ⟨x0,y0,x1,y1,x2,y2,rfl,ho,hx⟩;have OD:=hid ho;have X1:=hid (XV.out.trans (hx.mono XV.out.size));have BR1:=hid (BR.out.below hx BR.out.lt);have L1:Hid (w.heap.size+1<V.heap.size/\V.heap.size<=w1.heap.size):=hid ⟨BR.out.lt,hx.size⟩;clear ho hx p0 p1 p2 CO BA BR XV;go_upto_region 2 with fail
 refine aw ?_;intro V1 hV;have BN:Hid (ah V1 w1.heap.size #[.slice x0 m0 y0,.slice x1 m1 y1,.slice x2 m2 y2] 28):=hid (by rw[hV];exact ah.new w1 _ _);have XN:Hid (Below w1.heap.size w1 V1):=hid (by rw[hV];exact((Ext.refl w1).alloc _).below);clear hV;have X2:=hid (X1.out.trans (XN.out.mono X1.out.size));have OD2:=hid (OD.out.below XN.out);have BR2:=hid (BR1.out.below XN.out BR1.out.lt);have eT:=hid (HB.out.below X2.out HB.out.lt);clear XN OD BR1 X1;have k0:V1.cell? ⟨ui,0,none⟩=some (.bool true):=eT.out.cell 0;have z0:=eT.out.frozen 0;go_upto_region 3 with fail
 refine aw ?_;intro V2 hV;have XS:Hid (Below V1.heap.size V1 V2):=hid (by rw[hV];exact zV eT.out);clear hV k0 z0;have BN2:=hid (BN.out.below XS.out BN.out.lt);have BR3:=hid (BR2.out.below XS.out BR2.out.lt);have OD3:=hid (OD2.out.below XS.out);have X3:=hid (X2.out.trans (XS.out.mono X2.out.size));clear XS OD2 BR2 BN X2 eT;obtain⟨p0,p1,p2⟩:=ay.dB BN2.out;obtain⟨⟨z0,z1,z2⟩,z3,z4,z5⟩:=BR3.out.three;go_wp2;refine bB ?_;intro W9 dK;have E9:Hid (ah W9 (w.heap.size+1) #[.slice x0 m0 y0,.slice x1 m1 y1,.slice x2 m2 y2] 28/\aa (· ≠w.heap.size+1) V2 W9):=by rw[dK];exact hid (DB BR3.out _ _ _)
 clear dK z0 z1 z2 z3 z4 z5 p0 p1 p2;obtain⟨z0,z1,z2⟩:=ay.dB E9.out.1;have l1:=L1.out;exact bodyPost_ret (v:=.agg #[.slice x0 m0 y0,.slice x1 m1 y1,.slice x2 m2 y2]) (by simp[results,Tryz.results16,go_sem,z0,z1,z2]) rfl ⟨_,_,_,rfl,(OD3.out.keeps E9.out.2 fun x hx _=>by show x≠w.heap.size+1;omega).base (Nat.zero_le _),X3.out.trans (E9.out.2.mono fun x (hx:x<w.heap.size)=>by show x≠w.heap.size+1;omega:aa (· <w.heap.size) V2 W9).below⟩
theorem aT.parts {W:World} {x0 x1 x2:Value} {d:DF} (h:aT W (.agg #[x0,x1,x2]) d):∃ a0 n0 c0 a1 n1 c1 a2 n2 c2,x0=.slice a0 n0 c0/\x1=.slice a1 n1 c1/\x2=.slice a2 n2 c2:=by obtain⟨v0,v1,v2,e,h0,h1,h2⟩:=h;cases e;obtain⟨a0,c0,rfl⟩:=h0.1.form;obtain⟨a1,c1,rfl⟩:=h1.form;obtain⟨a2,c2,rfl⟩:=h2.form;exact⟨_,_,_,_,_,_,_,_,_,rfl,rfl,rfl⟩
def Bd (a b:DF):Prop:=Rt a/\Rt b/\((∃ s,aX a b 4 4000=(s,true,0))\/aX a b 4 4000=([],false,181))
theorem zW {a b:DF} (ha:Rt a) (hb:Rt b) (h:∀ w:List Nat,(∀ c∈w,c<256)->aG a w=aG b w):Bd a b:=by
 refine⟨ha,hb,?_⟩;rcases PY ha hb (op:=4) (f:=4000) (by decide) (by decide)with⟨s,is,h1,h2⟩ | h1
 ·obtain⟨rfl,_⟩:=h2.yes fun w hw=>by
   show cr 4 (aG a w) (aG b w)=false;rw[wK,h w hw];cases aG b w<;>rfl
  exact .inl ⟨s,h1⟩
 ·exact .inr h1
structure af7 (p q:DF) (da dn dr P2 dqp P3 P4 ls lp df lo:DF):Prop where
 ea:aP p q 1 1600=(da,0)
 eo:aP p q 2 1600=(dr,0)
 e1:aP (aK p) (aK q) 2 1600=(dn,0)
 e2:aP (aK p) (aK q) 1 1600=(P2,0)
 e3:aP q p 1 1600=(P3,0)
 e4:aP q p 2 1600=(P4,0)
 e5:aP p q 3 1600=(ls,0)
 e6:aP p (aK q) 1 1600=(lp,0)
 e7:aP p q 4 1600=(df,0)
 e8:aP dr da 3 1600=(lo,0)
 ra:Rt da
 ro:Rt dr
 k0:Bd (aK da) dn
 k1:Bd (aK dr) P2
 k2:Bd da P3
 k3:Bd dr P4
 k4:Bd ls lp
 k5:Bd df lo
 k6:Bd (aK (aK p)) p
theorem acj {p q:DF} (hp:Rt p) (hq:Rt q) (lp:p.nx.length<=40) (lq:q.nx.length<=40):∃ da dn dr P2 dqp P3 P4 ls lp df lo,af7 p q da dn dr P2 dqp P3 P4 ls lp df lo:=by
 have yC:=fh hp;have hnq:=fh hq;have n1:p.nx.length*q.nx.length<=1600:=Nat.mul_le_mul lp lq;have n2:q.nx.length*p.nx.length<=1600:=Nat.mul_le_mul lq lp;obtain⟨da,ea,ra,la⟩:=cC hp hq (op:=1) (f:=1600) (by decide) (n:=1600) rfl n1 (by decide);obtain⟨dr,eo,ro,lo⟩:=cC hp hq (op:=2) (f:=1600) (by decide) (n:=1600) rfl n1 (by decide);obtain⟨d1,e1,r1,l1⟩:=cC yC hnq (op:=2) (f:=1600) (by decide) (n:=1600) rfl n1 (by decide);obtain⟨d2,e2,r2,l2⟩:=cC yC hnq (op:=1) (f:=1600) (by decide) (n:=1600) rfl n1 (by decide);obtain⟨d3,e3,r3,l3⟩:=cC hq hp (op:=1) (f:=1600) (by decide) (n:=1600) rfl n2 (by decide);obtain⟨d4,e4,r4,l4⟩:=cC hq hp (op:=2) (f:=1600) (by decide) (n:=1600) rfl n2 (by decide);obtain⟨d5,e5,r5,l5⟩:=cC hp hq (op:=3) (f:=1600) (by decide) (n:=1600) rfl n1 (by decide);obtain⟨d6,e6,r6,l6⟩:=cC hp hnq (op:=1) (f:=1600) (by decide) (n:=1600) rfl n1 (by decide);obtain⟨d7,e7,r7,l7⟩:=cC hp hq (op:=4) (f:=1600) (by decide) (n:=1600) rfl n1 (by decide);obtain⟨d8,e8,r8,l8⟩:=LZ (op:=3) (n:=1600) rfl eo ea (by decide);refine⟨da,d1,dr,d2,d2,d3,d4,d5,d6,d7,d8,ea,eo,e1,e2,e3,e4,e5,e6,e7,e8,ra,ro,zW (fh ra) r1 ?_,zW (fh ro) r2 ?_,zW ra r3 ?_,zW ro r4 ?_,zW r5 r6 ?_,zW r7 r8 ?_,zW (fh yC) hp ?_⟩
 ·intro w hw
  rw[fp ra w hw,la w hw,l1 w hw,fp hp w hw,fp hq w hw];cases aG p w<;>cases aG q w<;>rfl
 ·intro w hw
  rw[fp ro w hw,lo w hw,l2 w hw,fp hp w hw,fp hq w hw];cases aG p w<;>cases aG q w<;>rfl
 ·intro w hw
  rw[la w hw,l3 w hw];cases aG p w<;>cases aG q w<;>rfl
 ·intro w hw
  rw[lo w hw,l4 w hw];cases aG p w<;>cases aG q w<;>rfl
 ·intro w hw
  rw[l5 w hw,l6 w hw,fp hq w hw];cases aG p w<;>cases aG q w<;>rfl
 ·intro w hw
  rw[l7 w hw,l8 w hw,lo w hw,la w hw];cases aG p w<;>cases aG q w<;>rfl
 ·intro w hw
  rw[fp yC w hw,fp hp w hw];cases aG p w<;>rfl
theorem ack (x0 x1 x2 x3 x4 x5 x6 x7 x8 x9 RI x11 Ze x13 x14 x15 x16 x17 x18 x19 x20 x21 x22 x23 x24 x25 x26 x27 x28 x29 x30 x31 x32 x33 x34 x35 x36 x37 x38 x39 x40 x41:Value):Instr.fill (fun i=>some (i*6,6)) ((Array.range (7*6)).map ((Value.agg #[.slice none 0 0,.slice none 0 0,.slice none 0 0,.slice none 0 0,.slice none 0 0,.slice none 0 0]).cells[· % (Value.agg #[.slice none 0 0,.slice none 0 0,.slice none 0 0,.slice none 0 0,.slice none 0 0,.slice none 0 0]).cells.size]!)) [(0,.agg #[x0,x1,x2,x3,x4,x5]),(1,.agg #[x6,x7,x8,x9,RI,x11]),(2,.agg #[Ze,x13,x14,x15,x16,x17]),(3,.agg #[x18,x19,x20,x21,x22,x23]),(4,.agg #[x24,x25,x26,x27,x28,x29]),(5,.agg #[x30,x31,x32,x33,x34,x35]),(6,.agg #[x36,x37,x38,x39,x40,x41])]=some #[x0,x1,x2,x3,x4,x5,x6,x7,x8,x9,RI,x11,Ze,x13,x14,x15,x16,x17,x18,x19,x20,x21,x22,x23,x24,x25,x26,x27,x28,x29,x30,x31,x32,x33,x34,x35,x36,x37,x38,x39,x40,x41]:=by
 kernel_rfl
def uj (W:World) (b:Nat) (L:List (DF×DF)):Prop:=∃ cs:List Value,ah W b cs.toArray 42/\∀ (j:Nat) (A B:DF),L[j]? =some (A,B)->∃ x0 x1 x2 x3 x4 x5,cs[j*6]? =some x0/\cs[j*6+1]? =some x1/\cs[j*6+2]? =some x2/\cs[j*6+3]? =some x3/\cs[j*6+4]? =some x4/\cs[j*6+5]? =some x5/\ay 0 W (.agg #[x0,x1,x2]) A/\ay 0 W (.agg #[x3,x4,x5]) B
theorem uj.below {W W':World} {b:Nat} {L:List (DF×DF)} (h:uj W b L) (hx:Below W.heap.size W W'):uj W' b L:=by obtain⟨cs,h1,h2⟩:=h;refine⟨cs,h1.below hx h1.lt,fun j A B hj=>?_⟩;obtain⟨x0,x1,x2,x3,x4,x5,e0,e1,e2,e3,e4,e5,o1,o2⟩:=h2 j A B hj;exact⟨x0,x1,x2,x3,x4,x5,e0,e1,e2,e3,e4,e5,o1.below hx,o2.below hx⟩
def aH.pairs (n:Nat) (L:List (DF×DF)):aH (Move false (fun _=>False)) where
 P:=fun v=>∃ b,v=.slice (some ⟨b,0,none⟩) n n
 H:=fun v W=>∀ b,v=.slice (some ⟨b,0,none⟩) n n->uj W b L
 oI:=.slice (some ⟨0,0,none⟩) n n
 pw:=⟨0,rfl⟩
 st:=fun _ _ _ hm _ h b hb=>(h b hb).below hm.below
theorem XK {A B:DF} (h:Bd A B):∃ (is:Bool) (code:Int),((is=true/\code=0)\/(is=false/\code=181))/\∀ W v v',aT W v A->aT W v' B->Calls Tryz.prog 17 #[v,v',.int .i64 4000] W fun e w'=>∃ r,e=.returned (.tuple #[r,.bool is,.int .i64 code])/\Below W.heap.size W w':=by
 obtain⟨ra,rb,h⟩:=h;rcases h with⟨s,h⟩ | h
 ·exact⟨true,0,.inl ⟨rfl,rfl⟩,fun W v v' h1 h2=>(nS v v' A B ra.sm rb.sm 4000 W h1 h2).mono fun e w' ⟨r,hr,_,hx⟩=>by
   rw[h]at hr
   exact⟨r,hr,hx⟩⟩
 ·exact⟨false,181,.inr ⟨rfl,rfl⟩,fun W v v' h1 h2=>(nS v v' A B ra.sm rb.sm 4000 W h1 h2).mono fun e w' ⟨r,hr,_,hx⟩=>by
   rw[h]at hr
   exact⟨r,hr,hx⟩⟩
theorem Tryz.acm:(Tryz.prog.info? 42).map (fun i=>(i.zero,i.size,i.bytes))=some (some (.agg #[.slice none 0 0,.slice none 0 0,.slice none 0 0,.slice none 0 0,.slice none 0 0,.slice none 0 0]),6,144):=by kernel_rfl
def aH.oH (d:DF):aH (Move false (fun _=>False)) where
 P:=fun v=>∃ x0 x1 x2,v=.agg #[x0,x1,x2]
 H:=fun v W=>ay 0 W v d
 oI:=.agg #[undef,undef,undef]
 pw:=⟨_,_,_,rfl⟩
 st:=fun _ _ _ hm _ h=>h.below hm.below
theorem zX (v v':Value) (p q:DF) (few:Bool) (Eu:few=true->Rt p/\Rt q/\p.nx.length<=40/\q.nx.length<=40) (cG:Bool) (w:World) (hv:∃ a n c,v=.slice a n c) (hv':∃ a n c,v'=.slice a n c) (hA:∀ W,Below w.heap.size w W->Calls Tryz.prog 9 #[] W fun e w'=>e=.returned (.bool true)/\Below W.heap.size W w') (hT:∀ W,Below w.heap.size w W->Calls Tryz.prog 10 #[v,v',.bool (cG)] W (lh p q few p.cl.length p.nx.length p.mr.length q.cl.length q.nx.length q.mr.length W)): Calls Tryz.prog 4 #[v,v',.bool cG] w fun e w'=>e=.returned (.bool true)/\Below w.heap.size w w':=by
 obtain⟨n0,dD⟩:∃ n,n=p.cl.length:=⟨_,rfl⟩;obtain⟨n1,gR⟩:∃ n,n=p.nx.length:=⟨_,rfl⟩;obtain⟨n2,jB⟩:∃ n,n=p.mr.length:=⟨_,rfl⟩;obtain⟨m0,oU⟩:∃ n,n=q.cl.length:=⟨_,rfl⟩;obtain⟨m1,oQ⟩:∃ n,n=q.nx.length:=⟨_,rfl⟩;obtain⟨m2,mz⟩:∃ n,n=q.mr.length:=⟨_,rfl⟩;rw[<-dD, <-gR, <-jB, <-oU, <-oQ, <-mz]at hT;obtain⟨va,vn,vc,rfl⟩:=hv;obtain⟨wa,wn,wc,rfl⟩:=hv';have HA:=hid hA;have HT:=hid hT;have Gp:=hid Eu;have lJ:=hid dD;have ku:=hid gR;have j9:=hid jB;have Zf:=hid oU;have HM1:=hid oQ;have HM2:=hid mz;clear hA hT Eu dD gR jB oU oQ mz;go_enter Tryz.func4,Tryz.ntmps4;go_wp2_with fail
 refine(HA.out w (Below.refl _ _)).mono ?_;rintro e w1 ⟨rfl,hx⟩;have X1:=hid hx;clear hx;go_wp2_with fail
 refine(HT.out w1 X1.out).mono ?_;rintro e w2 ⟨a0,c0,a1,c1,a2,c2,b0,d0,b1,d1,b2,d2,rfl,ho,uJ,hx⟩;have OP:=hid ho;have OQ:=hid uJ;have X2:=hid (X1.out.trans (hx.mono X1.out.size));clear ho uJ hx HA HT;go_upto_region 4 with fail
 refine aw ?_;intro V hV;have BP:Hid (ah V w2.heap.size #[.slice a0 n0 c0,.slice a1 n1 c1,.slice a2 n2 c2] 28):=hid (by rw[hV];exact((ah.new w2 _ _).alloc _).alloc _);have BQ:Hid (ah V (w2.heap.size+1) #[.slice b0 m0 d0,.slice b1 m1 d1,.slice b2 m2 d2] 28):=hid (by rw[hV];exact((ah.new (w2.alloc _) _ _).at (by simp)).alloc _);have BO:Hid (ah V (w2.heap.size+2) #[.bool true] 4):=hid (by rw[hV];exact(ah.new ((w2.alloc _).alloc _) _ _).at (by simp));have XV:Hid (Below w2.heap.size w2 V):=hid (by rw[hV];exact((((Ext.refl w2).alloc _).alloc _).alloc _).below);clear hV;have IP:=hid (OP.out.below XV.out);have IQ:=hid (OQ.out.below XV.out);have X3:=hid (X2.out.trans (XV.out.mono X2.out.size));clear OP OQ XV X2;have o0:V.cell? ⟨w2.heap.size+2,0,none⟩=some (.bool true):=BO.out.cell 0;cases few with
 | false=>
  go_wp2;go_ret;exact⟨rfl,X3.out⟩
 | true=>
 obtain⟨rp,rq,Hz,UC⟩:=Gp.out rfl;have RP:=hid rp;have RQ:=hid rq;have Ba:=hid Hz;have P6:=hid UC;clear rp rq Hz UC Gp;clear o0;obtain⟨ui,af9⟩:∃ b,b=w2.heap.size+2:=⟨_,rfl⟩;rw[<-af9]at BO ⊢;obtain⟨da,dn,dr,P2,dqp,P3,P4,ls,lp,df,lo,hAl⟩:=acj RP.out RQ.out Ba.out P6.out;have Be:=hid hAl;clear hAl af9;obtain⟨i42,alv,aga,UD,aoJ⟩:=info_parts Tryz.acm;obtain⟨p0,p1,p2⟩:=ay.dB BP.out;obtain⟨r0,r1,r2⟩:=ay.dB BQ.out;have o0:V.cell? ⟨ui,0,none⟩=some (.bool true):=BO.out.cell 0;go_upto_region 8 with fail
 refine RegF.xp (fun _=>False) (by kernel_rfl) 10 [0,0,0,7,0,0,0,127,0,0,1023,2047] (fun i=>i==3 || i==7 || i==8 || i==9 || i==10 || i==11) (by kernel_rfl) [8,9] (by kernel_rfl) (fun i=>if i=3 then aH.oH da else if i=7 then aH.oH dr else if i=8 then aH.EB V.heap.size #[.slice none 0 0,.slice none 0 0,.slice none 0 0] 28 else if i=9 then aH.EB V.heap.size #[.slice none 0 0,.slice none 0 0,.slice none 0 0] 28 else aH.any _) ?_;intro C hC hne;have HC:=hid hC;have wM:=ak hC (p:=⟨w2.heap.size,0,none⟩) BP.out.lt (fun h=>h) p0;have wN:=ak hC (p:=⟨w2.heap.size,1,none⟩) BP.out.lt (fun h=>h) p1;have wO:=ak hC (p:=⟨w2.heap.size,2,none⟩) BP.out.lt (fun h=>h) p2;have DC:=ak hC (p:=⟨w2.heap.size+1,0,none⟩) BQ.out.lt (fun h=>h) r0;have DD:=ak hC (p:=⟨w2.heap.size+1,1,none⟩) BQ.out.lt (fun h=>h) r1;have DG:=ak hC (p:=⟨w2.heap.size+1,2,none⟩) BQ.out.lt (fun h=>h) r2;clear hC p0 p1 p2 r0 r1 r2 o0
 repeat (refine RegF.ae (fun K hK=>?_);first | (refine RegF.aR rfl ?_;try go_simp;refine hK _ _ ?_;clear hK K) | (refine RegF.aO rfl rfl ?_;unfold ai;go_simp;refine hK _ _ ?_;clear hK K))
 refine RegF.ae (fun K hK=>?_);refine RegF.bg rfl rfl rfl (aH.oH da) rfl (fun W hW hN=>?_) (fun v hv=>?_)
 ·have hM:=(HC.out W).1 hW
  clear hW;go_simp;refine aB ((eX _ _ p q da RP.out.sm RQ.out.sm 1 Be.out.ea ui W (BO.out.below hM.below BO.out.lt) (IP.out.below hM.below).df (IQ.out.below hM.below).df).mono ?_);rintro e w2 ⟨x0,x1,x2,rfl,hd,hx⟩;exact⟨_,rfl,Move.ag hx,⟨_,_,_,rfl⟩,hd⟩
 obtain⟨xa0,xa1,xa2,rfl⟩:=hv;go_simp;refine hK _ _ ?_;clear hK K
 repeat (refine RegF.ae (fun K hK=>?_);first | (refine RegF.aR rfl ?_;try go_simp;refine hK _ _ ?_;clear hK K) | (refine RegF.aO rfl rfl ?_;unfold ai;go_simp;refine hK _ _ ?_;clear hK K))
 refine RegF.ae (fun K hK=>?_);refine RegF.bg rfl rfl rfl (aH.oH dr) rfl (fun W hW hN=>?_) (fun v hv=>?_)
 ·have hM:=(HC.out W).1 hW
  clear hW;go_simp;refine aB ((eX _ _ p q dr RP.out.sm RQ.out.sm 2 Be.out.eo ui W (BO.out.below hM.below BO.out.lt) (IP.out.below hM.below).df (IQ.out.below hM.below).df).mono ?_);rintro e w2 ⟨x0,x1,x2,rfl,hd,hx⟩;exact⟨_,rfl,Move.ag hx,⟨_,_,_,rfl⟩,hd⟩
 obtain⟨xo0,xo1,xo2,rfl⟩:=hv;go_simp;refine hK _ _ ?_;clear hK K
 repeat (refine RegF.ae (fun K hK=>?_);first | (refine RegF.aR rfl ?_;try go_simp;refine hK _ _ ?_;clear hK K) | (refine RegF.aO rfl rfl ?_;unfold ai;go_simp;refine hK _ _ ?_;clear hK K))
 refine RegF.ae (fun K hK=>?_);refine RegF.af4 rfl rfl rfl (aH.EB V.heap.size #[.slice none 0 0,.slice none 0 0,.slice none 0 0] 28) rfl (fun W hW hN=>?_) (fun v hv=>?_)
 ·have hM:=(HC.out W).1 hW
  clear hW hK K
  (have xI:=hM.size;go_simp;exact⟨⟨_,rfl,Nat.le_refl _,by simp⟩,Move.ag ((Ext.refl _).alloc _).below,⟨_,rfl⟩,fun b hb=>by cases hb;exact⟨ah.new _ _ _,xI⟩⟩)
 obtain⟨bx,rfl⟩:=hv;go_simp;refine hK _ _ ?_;clear hK K;refine RegF.ae (fun K hK=>?_);refine RegF.af4 rfl rfl rfl (aH.EB V.heap.size #[.slice none 0 0,.slice none 0 0,.slice none 0 0] 28) rfl (fun W hW hN=>?_) (fun v hv=>?_)
 ·have hM:=(HC.out W).1 hW
  clear hW hK K
  (have xI:=hM.size;go_simp;exact⟨⟨_,rfl,Nat.le_refl _,by simp⟩,Move.ag ((Ext.refl _).alloc _).below,⟨_,rfl⟩,fun b hb=>by cases hb;exact⟨ah.new _ _ _,xI⟩⟩)
 obtain⟨bz,rfl⟩:=hv;go_simp;refine hK _ _ ?_;clear hK K;refine RegF.bh (fun W hW hH hap=>?_);have hM:=(HC.out W).1 hW;have hne:gV.Ns (.pointer (some ⟨bx,0,none⟩))≠gV.Ns (.pointer (some ⟨bz,0,none⟩)):=hap.ne 8 9 13 14 rfl rfl (by decide) rfl rfl rfl rfl;have hxz:bx≠bz:=fun e=>hne (by rw[e])
 have hz9:(aH.EB V.heap.size #[.slice none 0 0,.slice none 0 0,.slice none 0 0] 28).H (.pointer (some ⟨bz,0,none⟩)) W:=hH _ (List.mem_of_getElem? (show _=some _ from rfl:_[0]? =some _));have hz8:(aH.EB V.heap.size #[.slice none 0 0,.slice none 0 0,.slice none 0 0] 28).H (.pointer (some ⟨bx,0,none⟩)) W:=hH _ (List.mem_of_getElem? (show _=some _ from rfl:_[1]? =some _));have hdr:ay 0 W (.agg #[xo0,xo1,xo2]) dr:=hH _ (List.mem_of_getElem? (show _=some _ from rfl:_[2]? =some _));have hda:ay 0 W (.agg #[xa0,xa1,xa2]) da:=hH _ (List.mem_of_getElem? (show _=some _ from rfl:_[3]? =some _));obtain⟨Zm,Zn,Zo,Zp,UE,Zq,Zr,Zs,Zt,rfl,rfl,rfl⟩:=hda.df.parts;obtain⟨ha0,Zu,hc0,ha1,Zv,hc1,ha2,Zw,hc2,rfl,rfl,rfl⟩:=hdr.df.parts;have BX:=hid (hz8 bx rfl);have BZ:=hid (hz9 bz rfl);have HDR:=hid hdr;have HDA:=hid hda;have XW:Hid (Below V.heap.size V W):=hid hM.below;clear hM hW hH HC hne wM wN wO DC DD DG hap hz9 hz8 hdr hda;obtain⟨⟨z0,z1,z2⟩,z3,z4,z5⟩:=BX.out.1.three;obtain⟨⟨y0,y1,y2⟩,y3,y4,y5⟩:=BZ.out.1.three;have hzx:bz≠bx:=fun e=>hxz e.symm
 go_upto_region 9 with fail
 refine aw ?_;intro V2 hV;have K1:=DB BX.out.1 (.slice Zm Zn Zo) (.slice Zp UE Zq) (.slice Zr Zs Zt);have XL:=BZ.out.1.keeps K1.2 hzx;have K2:=DB XL (.slice ha0 Zu hc0) (.slice ha1 Zv hc1) (.slice ha2 Zw hc2);rw[<-hV]at K2;have BA:Hid (ah V2 bx #[.slice Zm Zn Zo,.slice Zp UE Zq,.slice Zr Zs Zt] 28):=hid (K1.1.keeps K2.2 hxz);have BOR:Hid (ah V2 bz #[.slice ha0 Zu hc0,.slice ha1 Zv hc1,.slice ha2 Zw hc2] 28):=hid K2.1;have IA:Hid (ay 0 V2 (.agg #[.slice Zm Zn Zo,.slice Zp UE Zq,.slice Zr Zs Zt]) da):=hid (((HDA.out.past BX.out.1 (by decide) (by decide) (by decide) K1.2)).past XL (by decide) (by decide) (by decide) K2.2);have IO:Hid (ay 0 V2 (.agg #[.slice ha0 Zu hc0,.slice ha1 Zv hc1,.slice ha2 Zw hc2]) dr):=hid (((HDR.out.past BX.out.1 (by decide) (by decide) (by decide) K1.2)).past XL (by decide) (by decide) (by decide) K2.2);have XV2:Hid (Below V.heap.size V V2):=hid (XW.out.trans ((K1.2.mono fun x (hx:x<V.heap.size)=>by have:=BX.out.2;show x≠bx;omega:aa (· <V.heap.size) W _).tr (K2.2.mono fun x (hx:x<V.heap.size)=>by have:=BZ.out.2;show x≠bz;omega)).below);clear hV K1 K2 XL BX BZ HDA HDR XW z0 z1 z2 z3 z4 z5 y0 y1 y2 y3 y4 y5 hxz hzx;have Vm:=hid (IP.out.below XV2.out);have Zx:=hid (IQ.out.below XV2.out);have BP2:=hid (BP.out.below XV2.out BP.out.lt);have BQ2:=hid (BQ.out.below XV2.out BQ.out.lt)
 have oT:=hid (BO.out.below XV2.out BO.out.lt);have Z3:=hid (X3.out.trans (XV2.out.mono X3.out.size));clear IP IQ BP BQ BO X3 XV2;obtain⟨p0,p1,p2⟩:=ay.dB BP2.out;obtain⟨r0,r1,r2⟩:=ay.dB BQ2.out;obtain⟨s0,s1,s2⟩:=ay.dB BA.out;obtain⟨t0,t1,t2⟩:=ay.dB BOR.out;dsimp only[List.append];refine aD false (fun _=>False) (by kernel_rfl) 66 [0,0,3,0,0,0,55,0,0,503,1023,2047,0,0,14335,0,0,0,227327,0,0,2062335,4192255,8386559,0,0,0,0,243267583,528480255,0,0,0,0,15544088575,33797699583,0,0,0,513760294911,0,0,0,0,14257655642111,35148376569855,70332748658687,0,0,0,1055495167145983,0,0,0,17943993769785343,35958392279267327,0,0,0,468303956506834943,1116822302848186367,0,4575586816668727295,9223372036854775807,18446744073709551615,0] (fun i=>i==2 || i==6 || i==9 || i==10 || i==14 || i==18 || i==21 || i==22 || i==28 || i==34 || i==39 || i==44 || i==45 || i==50 || i==54 || i==59 || i==60 || i==63) (by kernel_rfl) (fun i=>if i=2 then aH.oH (aK da)else if i=6 then aH.oH (aK p)else if i=9 then aH.oH (aK q)else if i=10 then aH.oH dn else if i=14 then aH.oH (aK dr)else if i=18 then aH.oH (aK p)else if i=21 then aH.oH (aK q)else if i=22 then aH.oH P2 else if i=28 then aH.oH P3 else if i=34 then aH.oH P4 else if i=39 then aH.oH ls else if i=44 then aH.oH (aK q)else if i=45 then aH.oH lp else if i=50 then aH.oH df else if i=54 then aH.oH lo else if i=59 then aH.oH (aK p)else if i=60 then aH.oH (aK (aK p))else if i=63 then aH.pairs 7 [(aK da,dn),(aK dr,P2),(da,P3),(dr,P4),(ls,lp),(df,lo),(aK (aK p),p)]else aH.any _) ?_;intro C hC hne;have HC:=hid hC;have wM:=ak hC (p:=⟨w2.heap.size,0,none⟩) BP2.out.lt (fun h=>h) p0;have wN:=ak hC (p:=⟨w2.heap.size,1,none⟩) BP2.out.lt (fun h=>h) p1;have wO:=ak hC (p:=⟨w2.heap.size,2,none⟩) BP2.out.lt (fun h=>h) p2;have fr0:=ak hC (p:=⟨w2.heap.size+1,0,none⟩) BQ2.out.lt (fun h=>h) r0;have fr1:=ak hC (p:=⟨w2.heap.size+1,1,none⟩) BQ2.out.lt (fun h=>h) r1
 have fr2:=ak hC (p:=⟨w2.heap.size+1,2,none⟩) BQ2.out.lt (fun h=>h) r2;have fs0:=ak hC (p:=⟨bx,0,none⟩) BA.out.lt (fun h=>h) s0;have fs1:=ak hC (p:=⟨bx,1,none⟩) BA.out.lt (fun h=>h) s1;have fs2:=ak hC (p:=⟨bx,2,none⟩) BA.out.lt (fun h=>h) s2;have ft0:=ak hC (p:=⟨bz,0,none⟩) BOR.out.lt (fun h=>h) t0;have ft1:=ak hC (p:=⟨bz,1,none⟩) BOR.out.lt (fun h=>h) t1;have ft2:=ak hC (p:=⟨bz,2,none⟩) BOR.out.lt (fun h=>h) t2;clear hC p0 p1 p2 r0 r1 r2 s0 s1 s2 t0 t1 t2
 repeat (refine ae (fun K hK=>?_);first | (refine aR rfl ?_;try go_simp;refine hK _ _ ?_;clear hK K) | (refine aO rfl rfl ?_;unfold ai;go_simp;refine hK _ _ ?_;clear hK K))
 refine ae (fun K hK=>?_);refine bg rfl rfl (aH.oH (aK da)) rfl (fun W hW hN=>?_) (fun v hv=>?_)
 ·have hM:=(HC.out W).1 hW
  clear hW;go_simp;refine aB ((eR _ da Be.out.ra ui W (oT.out.below hM.below oT.out.lt) (IA.out.below hM.below).df).mono ?_);rintro e w2 ⟨x0,x1,x2,rfl,hd,hx⟩;exact⟨_,rfl,Move.ag hx,⟨_,_,_,rfl⟩,hd⟩
 obtain⟨ya0,ya1,ya2,rfl⟩:=hv;go_simp;refine hK _ _ ?_;clear hK K
 repeat (refine ae (fun K hK=>?_);first | (refine aR rfl ?_;try go_simp;refine hK _ _ ?_;clear hK K) | (refine aO rfl rfl ?_;unfold ai;go_simp;refine hK _ _ ?_;clear hK K))
 refine ae (fun K hK=>?_);refine bg rfl rfl (aH.oH (aK p)) rfl (fun W hW hN=>?_) (fun v hv=>?_)
 ·have hM:=(HC.out W).1 hW
  clear hW;go_simp;refine aB ((eR _ p RP.out ui W (oT.out.below hM.below oT.out.lt) (Vm.out.below hM.below).df).mono ?_);rintro e w2 ⟨x0,x1,x2,rfl,hd,hx⟩;exact⟨_,rfl,Move.ag hx,⟨_,_,_,rfl⟩,hd⟩
 obtain⟨yb0,yb1,yb2,rfl⟩:=hv;go_simp;refine hK _ _ ?_;clear hK K
 repeat (refine ae (fun K hK=>?_);first | (refine aR rfl ?_;try go_simp;refine hK _ _ ?_;clear hK K) | (refine aO rfl rfl ?_;unfold ai;go_simp;refine hK _ _ ?_;clear hK K))
 refine ae (fun K hK=>?_);refine bg rfl rfl (aH.oH (aK q)) rfl (fun W hW hN=>?_) (fun v hv=>?_)
 ·have hM:=(HC.out W).1 hW
  clear hW;go_simp;refine aB ((eR _ q RQ.out ui W (oT.out.below hM.below oT.out.lt) (Zx.out.below hM.below).df).mono ?_);rintro e w2 ⟨x0,x1,x2,rfl,hd,hx⟩;exact⟨_,rfl,Move.ag hx,⟨_,_,_,rfl⟩,hd⟩
 obtain⟨yc0,yc1,yc2,rfl⟩:=hv;go_simp;refine hK _ _ ?_;clear hK K
 repeat (refine ae (fun K hK=>?_);first | (refine aR rfl ?_;try go_simp;refine hK _ _ ?_;clear hK K) | (refine aO rfl rfl ?_;unfold ai;go_simp;refine hK _ _ ?_;clear hK K))
 refine ae (fun K hK=>?_);refine bg rfl rfl (aH.oH dn) rfl (fun W hW hN=>?_) (fun v hv=>?_)
 ·have hM:=(HC.out W).1 hW
  clear hW;go_simp;refine aB ((eX _ _ (aK p) (aK q) dn (fh RP.out).sm (fh RQ.out).sm 2 Be.out.e1 ui W (oT.out.below hM.below oT.out.lt) (ay.df (hN.at 1 rfl (by kernel_rfl))) (ay.df (hN.at 0 rfl (by kernel_rfl)))).mono ?_);rintro e w2 ⟨x0,x1,x2,rfl,hd,hx⟩;exact⟨_,rfl,Move.ag hx,⟨_,_,_,rfl⟩,hd⟩
 obtain⟨yd0,yd1,yd2,rfl⟩:=hv;go_simp;refine hK _ _ ?_;clear hK K
 repeat (refine ae (fun K hK=>?_);first | (refine aR rfl ?_;try go_simp;refine hK _ _ ?_;clear hK K) | (refine aO rfl rfl ?_;unfold ai;go_simp;refine hK _ _ ?_;clear hK K))
 refine ae (fun K hK=>?_);refine bg rfl rfl (aH.oH (aK dr)) rfl (fun W hW hN=>?_) (fun v hv=>?_)
 ·have hM:=(HC.out W).1 hW
  clear hW;go_simp;refine aB ((eR _ dr Be.out.ro ui W (oT.out.below hM.below oT.out.lt) (IO.out.below hM.below).df).mono ?_);rintro e w2 ⟨x0,x1,x2,rfl,hd,hx⟩;exact⟨_,rfl,Move.ag hx,⟨_,_,_,rfl⟩,hd⟩
 obtain⟨ye0,ye1,ye2,rfl⟩:=hv;go_simp;refine hK _ _ ?_;clear hK K
 repeat (refine ae (fun K hK=>?_);first | (refine aR rfl ?_;try go_simp;refine hK _ _ ?_;clear hK K) | (refine aO rfl rfl ?_;unfold ai;go_simp;refine hK _ _ ?_;clear hK K))
 refine ae (fun K hK=>?_);refine bg rfl rfl (aH.oH (aK p)) rfl (fun W hW hN=>?_) (fun v hv=>?_)
 ·have hM:=(HC.out W).1 hW
  clear hW;go_simp;refine aB ((eR _ p RP.out ui W (oT.out.below hM.below oT.out.lt) (Vm.out.below hM.below).df).mono ?_);rintro e w2 ⟨x0,x1,x2,rfl,hd,hx⟩;exact⟨_,rfl,Move.ag hx,⟨_,_,_,rfl⟩,hd⟩
 obtain⟨yf0,yf1,yf2,rfl⟩:=hv;go_simp;refine hK _ _ ?_;clear hK K
 repeat (refine ae (fun K hK=>?_);first | (refine aR rfl ?_;try go_simp;refine hK _ _ ?_;clear hK K) | (refine aO rfl rfl ?_;unfold ai;go_simp;refine hK _ _ ?_;clear hK K))
 refine ae (fun K hK=>?_);refine bg rfl rfl (aH.oH (aK q)) rfl (fun W hW hN=>?_) (fun v hv=>?_)
 ·have hM:=(HC.out W).1 hW
  clear hW;go_simp;refine aB ((eR _ q RQ.out ui W (oT.out.below hM.below oT.out.lt) (Zx.out.below hM.below).df).mono ?_);rintro e w2 ⟨x0,x1,x2,rfl,hd,hx⟩;exact⟨_,rfl,Move.ag hx,⟨_,_,_,rfl⟩,hd⟩
 obtain⟨yg0,yg1,yg2,rfl⟩:=hv;go_simp;refine hK _ _ ?_;clear hK K
 repeat (refine ae (fun K hK=>?_);first | (refine aR rfl ?_;try go_simp;refine hK _ _ ?_;clear hK K) | (refine aO rfl rfl ?_;unfold ai;go_simp;refine hK _ _ ?_;clear hK K))
 refine ae (fun K hK=>?_);refine bg rfl rfl (aH.oH P2) rfl (fun W hW hN=>?_) (fun v hv=>?_)
 ·have hM:=(HC.out W).1 hW
  clear hW;go_simp;refine aB ((eX _ _ (aK p) (aK q) P2 (fh RP.out).sm (fh RQ.out).sm 1 Be.out.e2 ui W (oT.out.below hM.below oT.out.lt) (ay.df (hN.at 1 rfl (by kernel_rfl))) (ay.df (hN.at 0 rfl (by kernel_rfl)))).mono ?_);rintro e w2 ⟨x0,x1,x2,rfl,hd,hx⟩;exact⟨_,rfl,Move.ag hx,⟨_,_,_,rfl⟩,hd⟩
 obtain⟨yh0,yh1,yh2,rfl⟩:=hv;go_simp;refine hK _ _ ?_;clear hK K
 repeat (refine ae (fun K hK=>?_);first | (refine aR rfl ?_;try go_simp;refine hK _ _ ?_;clear hK K) | (refine aO rfl rfl ?_;unfold ai;go_simp;refine hK _ _ ?_;clear hK K))
 refine ae (fun K hK=>?_);refine bg rfl rfl (aH.oH P3) rfl (fun W hW hN=>?_) (fun v hv=>?_)
 ·have hM:=(HC.out W).1 hW
  clear hW;go_simp;refine aB ((eX _ _ q p P3 RQ.out.sm RP.out.sm 1 Be.out.e3 ui W (oT.out.below hM.below oT.out.lt) (Zx.out.below hM.below).df (Vm.out.below hM.below).df).mono ?_);rintro e w2 ⟨x0,x1,x2,rfl,hd,hx⟩;exact⟨_,rfl,Move.ag hx,⟨_,_,_,rfl⟩,hd⟩
 obtain⟨yi0,yi1,yi2,rfl⟩:=hv;go_simp;refine hK _ _ ?_;clear hK K
 repeat (refine ae (fun K hK=>?_);first | (refine aR rfl ?_;try go_simp;refine hK _ _ ?_;clear hK K) | (refine aO rfl rfl ?_;unfold ai;go_simp;refine hK _ _ ?_;clear hK K))
 refine ae (fun K hK=>?_);refine bg rfl rfl (aH.oH P4) rfl (fun W hW hN=>?_) (fun v hv=>?_)
 ·have hM:=(HC.out W).1 hW
  clear hW;go_simp;refine aB ((eX _ _ q p P4 RQ.out.sm RP.out.sm 2 Be.out.e4 ui W (oT.out.below hM.below oT.out.lt) (Zx.out.below hM.below).df (Vm.out.below hM.below).df).mono ?_);rintro e w2 ⟨x0,x1,x2,rfl,hd,hx⟩;exact⟨_,rfl,Move.ag hx,⟨_,_,_,rfl⟩,hd⟩
 obtain⟨yj0,yj1,yj2,rfl⟩:=hv;go_simp;refine hK _ _ ?_;clear hK K
 repeat (refine ae (fun K hK=>?_);first | (refine aR rfl ?_;try go_simp;refine hK _ _ ?_;clear hK K) | (refine aO rfl rfl ?_;unfold ai;go_simp;refine hK _ _ ?_;clear hK K))
 refine ae (fun K hK=>?_);refine bg rfl rfl (aH.oH ls) rfl (fun W hW hN=>?_) (fun v hv=>?_)
 ·have hM:=(HC.out W).1 hW
  clear hW;go_simp;refine aB ((eX _ _ p q ls RP.out.sm RQ.out.sm 3 Be.out.e5 ui W (oT.out.below hM.below oT.out.lt) (Vm.out.below hM.below).df (Zx.out.below hM.below).df).mono ?_);rintro e w2 ⟨x0,x1,x2,rfl,hd,hx⟩;exact⟨_,rfl,Move.ag hx,⟨_,_,_,rfl⟩,hd⟩
 obtain⟨yk0,yk1,yk2,rfl⟩:=hv;go_simp;refine hK _ _ ?_;clear hK K
 repeat (refine ae (fun K hK=>?_);first | (refine aR rfl ?_;try go_simp;refine hK _ _ ?_;clear hK K) | (refine aO rfl rfl ?_;unfold ai;go_simp;refine hK _ _ ?_;clear hK K))
 refine ae (fun K hK=>?_);refine bg rfl rfl (aH.oH (aK q)) rfl (fun W hW hN=>?_) (fun v hv=>?_)
 ·have hM:=(HC.out W).1 hW
  clear hW;go_simp;refine aB ((eR _ q RQ.out ui W (oT.out.below hM.below oT.out.lt) (Zx.out.below hM.below).df).mono ?_);rintro e w2 ⟨x0,x1,x2,rfl,hd,hx⟩;exact⟨_,rfl,Move.ag hx,⟨_,_,_,rfl⟩,hd⟩
 obtain⟨yl0,yl1,yl2,rfl⟩:=hv;go_simp;refine hK _ _ ?_;clear hK K
 repeat (refine ae (fun K hK=>?_);first | (refine aR rfl ?_;try go_simp;refine hK _ _ ?_;clear hK K) | (refine aO rfl rfl ?_;unfold ai;go_simp;refine hK _ _ ?_;clear hK K))
 refine ae (fun K hK=>?_);refine bg rfl rfl (aH.oH lp) rfl (fun W hW hN=>?_) (fun v hv=>?_)
 ·have hM:=(HC.out W).1 hW
  clear hW;go_simp;refine aB ((eX _ _ p (aK q) lp RP.out.sm (fh RQ.out).sm 1 Be.out.e6 ui W (oT.out.below hM.below oT.out.lt) (Vm.out.below hM.below).df (ay.df (hN.at 0 rfl (by kernel_rfl)))).mono ?_);rintro e w2 ⟨x0,x1,x2,rfl,hd,hx⟩;exact⟨_,rfl,Move.ag hx,⟨_,_,_,rfl⟩,hd⟩
 obtain⟨ym0,ym1,ym2,rfl⟩:=hv;go_simp;refine hK _ _ ?_;clear hK K
 repeat (refine ae (fun K hK=>?_);first | (refine aR rfl ?_;try go_simp;refine hK _ _ ?_;clear hK K) | (refine aO rfl rfl ?_;unfold ai;go_simp;refine hK _ _ ?_;clear hK K))
 refine ae (fun K hK=>?_);refine bg rfl rfl (aH.oH df) rfl (fun W hW hN=>?_) (fun v hv=>?_)
 ·have hM:=(HC.out W).1 hW
  clear hW;go_simp;refine aB ((eX _ _ p q df RP.out.sm RQ.out.sm 4 Be.out.e7 ui W (oT.out.below hM.below oT.out.lt) (Vm.out.below hM.below).df (Zx.out.below hM.below).df).mono ?_);rintro e w2 ⟨x0,x1,x2,rfl,hd,hx⟩;exact⟨_,rfl,Move.ag hx,⟨_,_,_,rfl⟩,hd⟩
 obtain⟨yn0,yn1,yn2,rfl⟩:=hv;go_simp;refine hK _ _ ?_;clear hK K
 repeat (refine ae (fun K hK=>?_);first | (refine aR rfl ?_;try go_simp;refine hK _ _ ?_;clear hK K) | (refine aO rfl rfl ?_;unfold ai;go_simp;refine hK _ _ ?_;clear hK K))
 refine ae (fun K hK=>?_);refine bg rfl rfl (aH.oH lo) rfl (fun W hW hN=>?_) (fun v hv=>?_)
 ·have hM:=(HC.out W).1 hW
  clear hW;go_simp;refine aB ((eX _ _ dr da lo Be.out.ro.sm Be.out.ra.sm 3 Be.out.e8 ui W (oT.out.below hM.below oT.out.lt) (IO.out.below hM.below).df (IA.out.below hM.below).df).mono ?_);rintro e w2 ⟨x0,x1,x2,rfl,hd,hx⟩;exact⟨_,rfl,Move.ag hx,⟨_,_,_,rfl⟩,hd⟩
 obtain⟨yo0,yo1,yo2,rfl⟩:=hv;go_simp;refine hK _ _ ?_;clear hK K
 repeat (refine ae (fun K hK=>?_);first | (refine aR rfl ?_;try go_simp;refine hK _ _ ?_;clear hK K) | (refine aO rfl rfl ?_;unfold ai;go_simp;refine hK _ _ ?_;clear hK K))
 refine ae (fun K hK=>?_);refine bg rfl rfl (aH.oH (aK p)) rfl (fun W hW hN=>?_) (fun v hv=>?_)
 ·have hM:=(HC.out W).1 hW
  clear hW;go_simp;refine aB ((eR _ p RP.out ui W (oT.out.below hM.below oT.out.lt) (Vm.out.below hM.below).df).mono ?_);rintro e w2 ⟨x0,x1,x2,rfl,hd,hx⟩;exact⟨_,rfl,Move.ag hx,⟨_,_,_,rfl⟩,hd⟩
 obtain⟨yp0,yp1,yp2,rfl⟩:=hv;go_simp;refine hK _ _ ?_;clear hK K
 repeat (refine ae (fun K hK=>?_);first | (refine aR rfl ?_;try go_simp;refine hK _ _ ?_;clear hK K) | (refine aO rfl rfl ?_;unfold ai;go_simp;refine hK _ _ ?_;clear hK K))
 refine ae (fun K hK=>?_);refine bg rfl rfl (aH.oH (aK (aK p))) rfl (fun W hW hN=>?_) (fun v hv=>?_)
 ·have hM:=(HC.out W).1 hW
  clear hW;go_simp;refine aB ((eR _ (aK p) (fh RP.out) ui W (oT.out.below hM.below oT.out.lt) (ay.df (hN.at 0 rfl (by kernel_rfl)))).mono ?_);rintro e w2 ⟨x0,x1,x2,rfl,hd,hx⟩;exact⟨_,rfl,Move.ag hx,⟨_,_,_,rfl⟩,hd⟩
 obtain⟨yq0,yq1,yq2,rfl⟩:=hv;go_simp;refine hK _ _ ?_;clear hK K
 repeat (refine ae (fun K hK=>?_);first | (refine aR rfl ?_;try go_simp;refine hK _ _ ?_;clear hK K) | (refine aO rfl rfl ?_;unfold ai;go_simp;refine hK _ _ ?_;clear hK K))
 refine ae (fun K hK=>?_);refine bg rfl rfl (aH.pairs 7 [(aK da,dn),(aK dr,P2),(da,P3),(dr,P4),(ls,lp),(df,lo),(aK (aK p),p)]) rfl (fun W hW hN=>?_) (fun v hv=>?_)
 ·have hM:=(HC.out W).1 hW
  have oa0:ay 0 W (.agg #[ya0,ya1,ya2]) (aK da):=(hN.at 16 rfl (by kernel_rfl));have ob0:ay 0 W (.agg #[yd0,yd1,yd2]) (dn):=(hN.at 13 rfl (by kernel_rfl));have oa1:ay 0 W (.agg #[ye0,ye1,ye2]) (aK dr):=(hN.at 12 rfl (by kernel_rfl));have ob1:ay 0 W (.agg #[yh0,yh1,yh2]) (P2):=(hN.at 9 rfl (by kernel_rfl));have Qk:ay 0 W (.agg #[.slice Zm Zn Zo,.slice Zp UE Zq,.slice Zr Zs Zt]) (da):=(IA.out.below hM.below);have ob2:ay 0 W (.agg #[yi0,yi1,yi2]) (P3):=(hN.at 8 rfl (by kernel_rfl));have oa3:ay 0 W (.agg #[.slice ha0 Zu hc0,.slice ha1 Zv hc1,.slice ha2 Zw hc2]) (dr):=(IO.out.below hM.below);have ob3:ay 0 W (.agg #[yj0,yj1,yj2]) (P4):=(hN.at 7 rfl (by kernel_rfl))
  have oa4:ay 0 W (.agg #[yk0,yk1,yk2]) (ls):=(hN.at 6 rfl (by kernel_rfl));have ob4:ay 0 W (.agg #[ym0,ym1,ym2]) (lp):=(hN.at 4 rfl (by kernel_rfl));have oa5:ay 0 W (.agg #[yn0,yn1,yn2]) (df):=(hN.at 3 rfl (by kernel_rfl));have ob5:ay 0 W (.agg #[yo0,yo1,yo2]) (lo):=(hN.at 2 rfl (by kernel_rfl));have oa6:ay 0 W (.agg #[yq0,yq1,yq2]) (aK (aK p)):=(hN.at 0 rfl (by kernel_rfl));have ob6:ay 0 W (.agg #[.slice a0 n0 c0,.slice a1 n1 c1,.slice a2 n2 c2]) (p):=((Vm.out.below hM.below).base (Nat.zero_le _));clear hW hK K hN;refine qG 43 42 7 #[(0,.tmp 59),(1,.tmp 71),(2,.tmp 77),(3,.tmp 83),(4,.tmp 94),(5,.tmp 103),(6,.tmp 110)] rfl [(0,.agg #[ya0,ya1,ya2,yd0,yd1,yd2]),(1,.agg #[ye0,ye1,ye2,yh0,yh1,yh2]),(2,.agg #[.slice Zm Zn Zo,.slice Zp UE Zq,.slice Zr Zs Zt,yi0,yi1,yi2]),(3,.agg #[.slice ha0 Zu hc0,.slice ha1 Zv hc1,.slice ha2 Zw hc2,yj0,yj1,yj2]),(4,.agg #[yk0,yk1,yk2,ym0,ym1,ym2]),(5,.agg #[yn0,yn1,yn2,yo0,yo1,yo2]),(6,.agg #[yq0,yq1,yq2,.slice a0 n0 c0,.slice a1 n1 c1,.slice a2 n2 c2])] rfl (#[ya0,ya1,ya2,yd0,yd1,yd2,ye0,ye1,ye2,yh0,yh1,yh2,.slice Zm Zn Zo,.slice Zp UE Zq,.slice Zr Zs Zt,yi0,yi1,yi2,.slice ha0 Zu hc0,.slice ha1 Zv hc1,.slice ha2 Zw hc2,yj0,yj1,yj2,yk0,yk1,yk2,ym0,ym1,ym2,yn0,yn1,yn2,yo0,yo1,yo2,yq0,yq1,yq2,.slice a0 n0 c0,.slice a1 n1 c1,.slice a2 n2 c2]) i42 (.agg #[.slice none 0 0,.slice none 0 0,.slice none 0 0,.slice none 0 0,.slice none 0 0,.slice none 0 0]) Tryz.underlying43 alv aga (by rw[UD];decide) (by rw[UD];decide) (by rw[UD];exact ack ..) ?_
  refine⟨Move.ag ((Ext.refl _).alloc _).below,⟨_,rfl⟩,fun b hb=>?_⟩;cases hb;refine⟨[ya0,ya1,ya2,yd0,yd1,yd2,ye0,ye1,ye2,yh0,yh1,yh2,.slice Zm Zn Zo,.slice Zp UE Zq,.slice Zr Zs Zt,yi0,yi1,yi2,.slice ha0 Zu hc0,.slice ha1 Zv hc1,.slice ha2 Zw hc2,yj0,yj1,yj2,yk0,yk1,yk2,ym0,ym1,ym2,yn0,yn1,yn2,yo0,yo1,yo2,yq0,yq1,yq2,.slice a0 n0 c0,.slice a1 n1 c1,.slice a2 n2 c2],ah.new _ _ _,fun j A B hj=>?_⟩;have hx:=((Ext.refl W).alloc (.cells (#[ya0,ya1,ya2,yd0,yd1,yd2,ye0,ye1,ye2,yh0,yh1,yh2,.slice Zm Zn Zo,.slice Zp UE Zq,.slice Zr Zs Zt,yi0,yi1,yi2,.slice ha0 Zu hc0,.slice ha1 Zv hc1,.slice ha2 Zw hc2,yj0,yj1,yj2,yk0,yk1,yk2,ym0,ym1,ym2,yn0,yn1,yn2,yo0,yo1,yo2,yq0,yq1,yq2,.slice a0 n0 c0,.slice a1 n1 c1,.slice a2 n2 c2]) 42 (0,0))).below;rcases(show j=0\/j=1\/j=2\/j=3\/j=4\/j=5\/j=6 by have:=(List.getElem?_eq_some_iff.1 hj).1;simp at this;omega)with rfl | rfl | rfl | rfl | rfl | rfl | rfl
  ·cases hj
   exact⟨_,_,_,_,_,_,rfl,rfl,rfl,rfl,rfl,rfl,oa0.below hx,ob0.below hx⟩
  ·cases hj
   exact⟨_,_,_,_,_,_,rfl,rfl,rfl,rfl,rfl,rfl,oa1.below hx,ob1.below hx⟩
  ·cases hj
   exact⟨_,_,_,_,_,_,rfl,rfl,rfl,rfl,rfl,rfl,Qk.below hx,ob2.below hx⟩
  ·cases hj
   exact⟨_,_,_,_,_,_,rfl,rfl,rfl,rfl,rfl,rfl,oa3.below hx,ob3.below hx⟩
  ·cases hj
   exact⟨_,_,_,_,_,_,rfl,rfl,rfl,rfl,rfl,rfl,oa4.below hx,ob4.below hx⟩
  ·cases hj
   exact⟨_,_,_,_,_,_,rfl,rfl,rfl,rfl,rfl,rfl,oa5.below hx,ob5.below hx⟩
  ·cases hj
   exact⟨_,_,_,_,_,_,rfl,rfl,rfl,rfl,rfl,rfl,oa6.below hx,ob6.below hx⟩
 obtain⟨bl,rfl⟩:=hv;go_simp;refine hK _ _ ?_;clear hK K
 repeat (refine ae (fun K hK=>?_);first | (refine aR rfl ?_;try go_simp;refine hK _ _ ?_;clear hK K) | (refine aO rfl rfl ?_;unfold ai;go_simp;refine hK _ _ ?_;clear hK K))
 refine bh (fun W9 hW hH=>?_);have hM:=(HC.out W9).1 hW;obtain⟨cs,hcb,yh⟩:uj W9 bl ([(aK da,dn),(aK dr,P2),(da,P3),(dr,P4),(ls,lp),(df,lo),(aK (aK p),p)]:List (DF×DF)):=hH _ (List.mem_of_getElem? (show _=some _ from rfl:_[0]? =some _)) bl rfl;have PB:=hid hcb;have PC:=hid yh;have Z9:=hid (Z3.out.trans (hM.below.mono Z3.out.size));have BO9:=hid (oT.out.below hM.below oT.out.lt);have EQS:Hid (∀ k,k<7->∃ A B,([(aK da,dn),(aK dr,P2),(da,P3),(dr,P4),(ls,lp),(df,lo),(aK (aK p),p)]:List (DF×DF))[k]? =some (A,B)/\Bd A B):=hid fun k hk=>by
  rcases(show k=0\/k=1\/k=2\/k=3\/k=4\/k=5\/k=6 by omega)with rfl | rfl | rfl | rfl | rfl | rfl | rfl
  ·exact⟨_,_,rfl,Be.out.k0⟩
  ·exact⟨_,_,rfl,Be.out.k1⟩
  ·exact⟨_,_,rfl,Be.out.k2⟩
  ·exact⟨_,_,rfl,Be.out.k3⟩
  ·exact⟨_,_,rfl,Be.out.k4⟩
  ·exact⟨_,_,rfl,Be.out.k5⟩
  ·exact⟨_,_,rfl,Be.out.k6⟩
 clear hM hW hH HC hne wM wN wO fr0 fr1 fr2 fs0 fs1 fs2 ft0 ft1 ft2 hcb yh Z3 oT Vm Zx BP2 BQ2 BA BOR IA IO;go_wp2_with fail
 go_loopw [113] (fun iv wr=>∃ k:Nat,k<=7/\iv=.int .i64 k/\Below W9.heap.size W9 wr) (fun iv _=>7-(intOf iv).toNat)
 case atStart=>exact⟨0,by omega,rfl,Below.refl _ _⟩
 case round=>
  obtain⟨k,hk,rfl,hx⟩:=hrel;obtain⟨wo,rfl⟩:∃ wo:World,wo=wr:=⟨_,rfl⟩;have XO:=hid hx;clear hx;by_cases hlt:k<7
  ·have gz:(k:Int)<7:=by omega
   obtain⟨A,B,hAB,hEq⟩:=EQS.out k hlt;obtain⟨x0,x1,x2,x3,x4,x5,e0,e1,e2,e3,e4,e5,o1,o2⟩:=PC.out k A B hAB;obtain⟨is,code,VC,Zy⟩:=XK hEq;obtain⟨a0',l0',c0',a1',l1',c1',a2',l2',c2',rfl,rfl,rfl⟩:=o1.df.parts;obtain⟨b0',i0',d0',b1',i1',d1',b2',i2',d2',rfl,rfl,rfl⟩:=o2.df.parts;have kc:∀ {o:Nat} {u:Value},cs[o]? =some u->wo.cell? ⟨bl,o,none⟩=some u:=fun {o u} h=>by
    rw[(PB.out.below XO.out PB.out.lt).cell];simpa using h
   replace e0:=kc e0;replace e1:=kc e1;replace e2:=kc e2;replace e3:=kc e3;replace e4:=kc e4;replace e5:=kc e5;have O1:=hid (o1.below XO.out);have O2:=hid (o2.below XO.out);have CE:=hid Zy;clear kc o1 o2 Zy hEq hAB;go_upto_region 12 with fail
   refine aw ?_;intro V5 hV;have B5:Hid (ah V5 wo.heap.size #[.slice a0' l0' c0',.slice a1' l1' c1',.slice a2' l2' c2',.slice b0' i0' d0',.slice b1' i1' d1',.slice b2' i2' d2'] 42):=hid (by rw[hV];exact ah.new _ _ _);have X5:Hid (Below wo.heap.size wo V5):=hid (by rw[hV];exact((Ext.refl _).alloc _).below);clear hV e0 e1 e2 e3 e4 e5;have k0:V5.cell? ⟨wo.heap.size,0,none⟩=some (.slice a0' l0' c0'):=B5.out.cell 0;have k1:V5.cell? ⟨wo.heap.size,1,none⟩=some (.slice a1' l1' c1'):=B5.out.cell 1;have k2:V5.cell? ⟨wo.heap.size,2,none⟩=some (.slice a2' l2' c2'):=B5.out.cell 2;have k3:V5.cell? ⟨wo.heap.size,3,none⟩=some (.slice b0' i0' d0'):=B5.out.cell 3;have k4:V5.cell? ⟨wo.heap.size,4,none⟩=some (.slice b1' i1' d1'):=B5.out.cell 4;have k5:V5.cell? ⟨wo.heap.size,5,none⟩=some (.slice b2' i2' d2'):=B5.out.cell 5;go_wp2_with fail
   refine(CE.out V5 _ _ (O1.out.below X5.out).df (O2.out.below X5.out).df).mono ?_;rintro e w6 ⟨r,rfl,hx⟩;have X6:=hid (XO.out.trans ((X5.out.trans (hx.mono X5.out.size)).mono XO.out.size));clear hx k0 k1 k2 k3 k4 k5 CE O1 O2 B5 X5;rcases VC with⟨rfl,rfl⟩ | ⟨rfl,rfl⟩
   all_goals go_wp2
   all_goals go_roundw
   all_goals (first | exact⟨k+1,by omega,by go_num,X6.out⟩ | (simp[intOf];omega))
  ·obtain rfl:k=7:=by omega
   have ko:wo.cell? ⟨ui,0,none⟩=some (.bool true):=(BO9.out.below XO.out BO9.out.lt).cell 0;go_wp2;go_ret;exact⟨rfl,Z9.out.trans (XO.out.mono Z9.out.size)⟩
theorem sJ (v v':Value) (x y:List (Nat×Nat×Nat)) (xL:x.length<=1000000000000000) (LY:y.length<=1000000000000000) (cG:Bool) (w:World) (h:cJ w v x) (h':cJ w v' y) (hT:∀ W,Below w.heap.size w W->gL W): Calls Tryz.prog 4 #[v,v',.bool cG] w fun e w'=>e=.returned (.bool true)/\Below w.heap.size w w':=by obtain⟨p,q,cp,cq,h1,h2,h3,h4,h5⟩:=lj x y (cG);obtain⟨a,c,e⟩:=h.form;obtain⟨a',c',e'⟩:=h'.form;exact zX v v' p q _ h5 cG w ⟨_,_,_,e⟩ ⟨_,_,_,e'⟩ (fun W _=>kX W) fun W hW=>nV v v' x y xL LY (cG) h1 h2 h3 h4 rfl rfl rfl rfl rfl rfl W (h.below hW) (h'.below hW) fun V hV=>hT V (hW.trans (hV.mono hW.size))
end
section
open Go Go.ChangeShapes Go.WideShapes Go.ChangeAt Go.RowKit
theorem Bf:Tryz.prog.globalNamed "internal/strconv.uint64pow10" =some 1:=by kernel_rfl
theorem uk:(Tryz.prog.globals[1]?).map (·.type)=some 258:=by kernel_rfl
theorem xq:Tryz.prog.cellsOf 258=20:=by kernel_rfl
theorem xr:Tryz.prog.cellsOf 57=1:=by kernel_rfl
theorem zY {W:World} (h:laidMetH Tryz.prog Rows.productAlgebraRow.laid W):gL W:=by have h1:laidMet Tryz.prog [("math/bits.deBruijn32tab",Rows.laid_math_bits_deBruijn32tab),("math/bits.deBruijn64tab",Rows.laid_math_bits_deBruijn64tab),("internal/strconv.uint64pow10",Lib.tabData .u64 Lib.pow10Tab)] W:=h;exact Lib.tabIs_of_head (rest:=[]) Bf uk Tryz.underlying258 Tryz.underlying57 xr xq h1.tail.tail
noncomputable def mj (cs:Array Value):Obj->Obj
 | .cells _ t frozen=>.cells cs t frozen
 | o=>o
noncomputable def lx (os:Os):World:=
 {World.holding Tryz.prog os ⟨#[], #[],[]⟩with heap:=(((World.holding Tryz.prog os ⟨#[], #[],[]⟩).heap.modify 1 (mj #[.int .u64 1,.int .u64 10,.int .u64 100,.int .u64 1000,.int .u64 10000,.int .u64 100000,.int .u64 1000000,.int .u64 10000000,.int .u64 100000000,.int .u64 1000000000,.int .u64 10000000000,.int .u64 100000000000,.int .u64 1000000000000,.int .u64 10000000000000,.int .u64 100000000000000,.int .u64 1000000000000000,.int .u64 10000000000000000,.int .u64 100000000000000000,.int .u64 1000000000000000000,.int .u64 10000000000000000000])).modify 2 (mj #[.int .u8 0,.int .u8 1,.int .u8 28,.int .u8 2,.int .u8 29,.int .u8 14,.int .u8 24,.int .u8 3,.int .u8 30,.int .u8 22,.int .u8 20,.int .u8 15,.int .u8 25,.int .u8 17,.int .u8 4,.int .u8 8,.int .u8 31,.int .u8 27,.int .u8 13,.int .u8 23,.int .u8 21,.int .u8 19,.int .u8 16,.int .u8 7,.int .u8 26,.int .u8 12,.int .u8 18,.int .u8 6,.int .u8 11,.int .u8 5,.int .u8 10,.int .u8 9])).modify 3 (mj #[.int .u8 0,.int .u8 1,.int .u8 56,.int .u8 2,.int .u8 57,.int .u8 49,.int .u8 28,.int .u8 3,.int .u8 61,.int .u8 58,.int .u8 42,.int .u8 50,.int .u8 38,.int .u8 29,.int .u8 17,.int .u8 4,.int .u8 62,.int .u8 47,.int .u8 59,.int .u8 36,.int .u8 45,.int .u8 43,.int .u8 51,.int .u8 22,.int .u8 53,.int .u8 39,.int .u8 33,.int .u8 30,.int .u8 24,.int .u8 18,.int .u8 12,.int .u8 5,.int .u8 63,.int .u8 55,.int .u8 48,.int .u8 27,.int .u8 60,.int .u8 41,.int .u8 37,.int .u8 16,.int .u8 46,.int .u8 35,.int .u8 44,.int .u8 21,.int .u8 52,.int .u8 32,.int .u8 23,.int .u8 11,.int .u8 54,.int .u8 26,.int .u8 40,.int .u8 15,.int .u8 34,.int .u8 20,.int .u8 31,.int .u8 10,.int .u8 25,.int .u8 14,.int .u8 19,.int .u8 9,.int .u8 13,.int .u8 8,.int .u8 7,.int .u8 6])}
theorem Fz (os:Os):laidMet Tryz.prog Rows.productAlgebraRow.laid ((lx os).forCall (fun _ _=>0) ⟨#[], #[.slice none 0 0,.slice none 0 0,.bool false],[]⟩).memory:=
 laidMet_of_run' 8 (by kernel_rfl) (by kernel_rfl)
theorem zZ (os:Os) {H:Type} (enc:TypeId×Value->H):∃ places,DataW.whole enc Tryz.prog ((lx os).forCall (fun _ _=>0) ⟨#[], #[.slice none 0 0,.slice none 0 0,.bool false],[]⟩).memory Tryz.f4.params.toList Rows.productAlgebraSpec.vars false (#[.slice none 0 0,.slice none 0 0,.bool false]:Array Value).toList 8=some ([.nil,.nil,.lit (.bool false)],[],places):=
 ⟨[],by kernel_rfl⟩
theorem xu (os:Os) (started:os.Started) (H:Type) (enc:TypeId×Value->H) (F:Stop.Interp): ReturnsInHanded {} Tryz.checked os 4 .any ((OpenSpec.ofChange Rows.productAlgebraSpec).preRow enc Tryz.prog Tryz.f4 Rows.productAlgebraRow.domain false Rows.productAlgebraRow.laid) (((OpenSpec.ofChange Rows.productAlgebraSpec).at F).post enc Tryz.prog Tryz.f4 false true false false):=by
 obtain⟨places,hx⟩:=zZ os enc;refine returnsInHanded_of_row (C:=Tryz.checked) (s:=OpenSpec.ofChange Rows.productAlgebraSpec) Tryz.own started (by kernel_rfl) Tryz.func4
  (witness_row_at (enc:=enc) (C:=Tryz.checked) false (lx os) #[.slice none 0 0,.slice none 0 0,.bool false] rfl (by kernel_rfl) (by kernel_rfl) (by kernel_rfl)
   (OpenSpec.preRow_of_cond 8 hx (by kernel_rfl) (fun k hk=>by cases hk) (by kernel_rfl) (Fz os))) ?_
 intro W base args ds gs before uq hW _ _ FD hL _ _;have hval:∀ (j:Nat) t v,Tryz.f4.params[j]? =some t->args[j]? =some v->Value.okWide Tryz.prog W .any base t v:=uq;have hT:∀ V,Below W.heap.size W V->gL V:=fun V hV=>(zY hL).below hV
 have hW1:DataW.Whole enc Tryz.prog Tryz.f4.params.toList Rows.productAlgebraSpec.vars false W args.toList ds gs before:=hW;have Et:=hW1;obtain⟨p,q,Nh,hV,rfl,hfz,Vy⟩:=hW1;have hA:DataW.TrodAll enc Tryz.prog W 0 (fun _=>true) true Tryz.f4.params.toList args.toList ds p:=Nh;have hsz:(DataW.weightsEach Tryz.prog (Tryz.f4.params.toList++Rows.productAlgebraSpec.plain.varTypes Tryz.prog) (ds++gs)).all (· <=reachBytes)=true:=FD;rw[Tryz.params4]at hA hval hsz;obtain⟨v0,v1,v2,d0,d1,d2,p0,p1,p2,rfl,rfl,rfl,h0,h1,h2⟩:=trodAll_three hA;obtain⟨l0,s0,g0⟩:=eP (hval 0 _ v0 rfl rfl) h0 (fV hsz (j:=0) rfl rfl);obtain⟨l1,s1,g1⟩:=eP (hval 1 _ v1 rfl rfl) h1 (fV hsz (j:=1) rfl rfl);obtain⟨b2,rfl,rfl,rfl⟩:=open_bool Tryz.underlying4 (hval 2 _ v2 rfl rfl) h2;refine(sJ v0 v1 l0 l1 g0 g1 b2 W s0 s1 hT).mono fun e W' ⟨he,hw⟩=>⟨_,he,?_⟩
 exact pE (s:=Rows.productAlgebraSpec) Tryz.laidOut rfl (by rw[Tryz.params4];exact of_decide_eq_true (by kernel_rfl)) rfl Tryz.underlying4 rfl Et hw
theorem Bg:Rows.ProductAlgebraSaid:=
 OpenClaim.holds_of_cond 4 Tryz.f4 rfl rfl rfl rfl rfl rfl rfl ⟨rfl,rfl,rfl,rfl,rfl⟩ rfl rfl rfl rfl rfl (by kernel_rfl) Tryz.func4 (by kernel_rfl)
  (of_decide_eq_true (by kernel_rfl)) (by unfold Func.isWrapper;first | (rw[if_pos (by decide+kernel)];kernel_rfl) | (rw[if_neg (by decide+kernel)];exact⟨rfl,rfl⟩))
  (fun os started H enc _ F=>by rw[OpenClaim.pre_eq_preRow];exact xu os started H enc F)
theorem Aa (f:FuncId) (fn:Func) (hf:Tryz.pinned.checked.prog.funcNamed "repartee/reparteelaw19.ProductAlgebra" =some f) (hfn:Tryz.pinned.checked.prog.funcs[f]? =some fn): true=Tryz.pinned.checked.prog.looks []/\∀ (j:Nat) t,fn.params[j]? =some t->Tryz.pinned.checked.prog.wantsStandIn t=false:=by
 obtain rfl:f=4:=Option.some.inj ((show Tryz.prog.funcNamed "repartee/reparteelaw19.ProductAlgebra" =some 4 by kernel_rfl).symm.trans hf) |>.symm;obtain rfl:fn=Tryz.f4:=(Option.some.inj (Tryz.func4.symm.trans hfn)).symm;refine⟨by kernel_rfl,fun j t ht=>?_⟩;rw[Tryz.params4]at ht;have h2:t=22\/t=4:=by have:=Array.mem_of_getElem? ht;simpa using this
 rcases h2 with rfl | rfl
 ·exact(show Tryz.prog.wantsStandIn 22=false by kernel_rfl)
 ·exact(show Tryz.prog.wantsStandIn 4=false by kernel_rfl)
theorem palgebra_card:Rows.ProductAlgebraCardSaid:=
 Claim7.holds_tied_plain_at .later [] _ _ _ _ Bg (fun _ h=>by cases h) (by kernel_rfl) (fun _ h=>by cases h) productAlgebra_row_tie rfl ⟨rfl,rfl⟩ (by kernel_rfl) rfl Aa (by kernel_rfl)
end
end Go.Proofs.YtalombmiochpmaaGreatDoor
