/- ProductSays returns true for any small steps, any small steps, any bool, any bytes; the arguments read behind the call as they did. No condition. A tied card: the three listed tables hold at the call what the program's text lays. Printed by wip/gen/drow.py. -/
import Derived.Test.YtalombmiochpmaaGreatDoorCards
import Derived.Test.YtalombmiochpmaaGreatDoorTie
import Derived.Deep.DeepHandedRow
import Derived.Stop.LaidErr
import Derived.Test.YtalombmiochpmaaGreatDoorOR36
set_option maxRecDepth 100000
set_option maxHeartbeats 16000000
open Go.Lib (hid)
namespace Go.Proofs.YtalombmiochpmaaGreatDoor
section
open Go Go.RowKit Go.WideShapes Go.ChangeShapes Go.ChangeAt Go.Deep
section
variable {H:Type} {enc:TypeId×Value→H} {P:Program}
end
section
variable {H:Type} {enc:TypeId×Value→H} {W:World} {base:Nat} {sp:Nat→Bool}
theorem lz {P:Program} {r:Go.Reach} {t e:TypeId} {a:Addr} {len cap:Nat} (ht:P.underlying t=some (.slice e)) (h:Value.okWide P W r base t (.slice (some a) len cap)):a.spot=none/\a.block<W.heap.size:=by
 simp only[Value.okWide,ht,Cell.okWide,Cell.ok]at h;obtain⟨_,_,_,hs,row,cells,Zz,_⟩:=h;refine⟨hs,?_⟩;unfold World.shape? at Zz;cases hh:W.heap[a.block]? with
 | none=>simp[hh]at Zz
 | some o=>exact(Array.getElem?_eq_some_iff.1 hh).1
theorem nt {k:IntKind} {t e:TypeId} {r:Go.Reach} {v:Value} {d:DataW H} {p:List MemPlace} {b0:Nat} (ht:Tryz.prog.underlying t=some (.slice e)) (he:Tryz.prog.underlying e=some (.int k)) (hc:Tryz.prog.cellsOf e=1) (ou:Value.okWide Tryz.prog W r b0 t v) (h:DataW.Trod enc Tryz.prog W 0 (fun _=>true) true t v d p): ∃ (l:List Int),l.length<=maxLen/\(∀ n∈l,(Lit.int k n).wf=true)/\((v=.slice none 0 0/\l=[])\/∃ b off cap,v=.slice (some ⟨b,off,none⟩) l.length cap/\l.length<=cap/\b<W.heap.size/\∀ i x,l[i]? =some x->W.cell? ⟨b,off+i,none⟩=some (.int k x)):=by
 obtain⟨a,len,cap,rfl⟩:=okWide_slice ht ou;obtain⟨fuel,hf⟩:=h;rcases open_ints ht he hc hf with⟨hcs,_⟩ | ⟨a',len',cap',zs,hcs,_,hl,hm,hzs,_,hi,Gh⟩
 ·have:Value.slice a len cap=.slice none 0 0:=by simpa[Value.cells]using hcs
  cases this
  exact⟨[],by simp,by simp,.inl ⟨rfl,rfl⟩⟩
 ·have:Value.slice a len cap=.slice (some a') len' cap':=by simpa[Value.cells]using hcs
  cases this
  obtain⟨hs,hb⟩:=lz ht ou;obtain⟨b,off,spot⟩:=a';have hs':spot=none:=hs;subst hs';rw[if_pos rfl]at hzs;have D7:∀ (o i:Nat),(⟨b,o,none⟩:Addr).add i=⟨b,o+i,none⟩:=fun o i=>by
   unfold Addr.add;split
   ·rename_i h;subst h;rfl
   ·rfl
  have hlen:(zs.take len).length=len:=by rw[List.length_take];omega
  refine⟨zs.take len,by rw[hlen];omega,fun n hn=>Gh n (List.mem_of_mem_take hn),.inr ⟨b,off,cap,by rw[hlen],by rw[hlen];exact hl,hb,fun i x hx=>?_⟩⟩;rw[List.getElem?_take]at hx;split at hx
  ·have hiz:i<zs.length:=(List.getElem?_eq_some_iff.1 hx).1
   have:=hi i hiz;rw[D7,List.getD_eq_getElem?_getD,hx]at this;exact this
  ·cases hx
end
end
section
open Go Go.ChangeShapes Go.WideShapes Go.ChangeAt Go.RowKit
section
variable {H:Type} {enc:TypeId×Value→H} {W:World}
theorem jE {r:Go.Reach} {v:Value} {d:DataW H} {p:List MemPlace} {b0:Nat} (ou:Value.okWide Tryz.prog W r b0 23 v) (h:DataW.Trod enc Tryz.prog W 0 (fun _=>true) true 23 v d p): ∃ l:List Nat,l.length<=maxLen/\(∀ c∈l,c<256)/\aZ bu W v l:=by
 obtain⟨l,hlen,Gh,hl⟩:=nt (e:=5) Tryz.underlying23 Tryz.underlying5 (by kernel_rfl) ou h;refine⟨l.map Int.toNat,by simpa using hlen,fun c hc=>?_,?_⟩
 ·obtain⟨n,hn,rfl⟩:=List.mem_map.1 hc
  have:=jx (Gh n hn);omega
 ·rcases hl with⟨rfl,rfl⟩ | ⟨b,off,cap,rfl,hc,hb,hcell⟩
  ·exact .inl ⟨rfl,rfl⟩
  ·refine .inr ⟨b,off,cap,by rw[List.length_map],hb,by rw[List.length_map];exact hc,fun i x hi=>?_⟩
   rw[List.getElem?_map]at hi;obtain⟨n,hn,rfl⟩:=Option.map_eq_some_iff.1 hi;rw[hcell i n hn];have:=jx (Gh n (List.mem_of_getElem? hn));show some (Value.int .u8 n)=some (Value.int .u8 ((n.toNat:Nat):Int));rw[Int.toNat_of_nonneg this.1]
end
end
section
open Go Go.RowKit Go.Shelf Go.Maps
attribute [local go_sem] encS
theorem aZ.take {α:Type} {enc:α->Value} {w:World} {a:Option Addr} {n cap:Nat} {l:List α} (h:aZ enc w (.slice a n cap) l) (k:Nat) (hk:k<=n):aZ enc w (.slice a k cap) (l.take k):=by
 rcases h with⟨h,rfl⟩ | ⟨b,off,cap',hv,hb,hc,h⟩
 ·cases h
  obtain rfl:k=0:=by omega
  exact .inl ⟨rfl,rfl⟩
 ·cases hv
  have hl:(l.take k).length=k:=by rw[List.length_take];omega
  refine .inr ⟨b,off,cap,by rw[hl],hb,by omega,fun i x hi=>h i x ?_⟩;rw[List.getElem?_take]at hi;split at hi
  ·exact hi
  ·cases hi
theorem aZ.cap {α:Type} {enc:α->Value} {w:World} {a:Option Addr} {n cap:Nat} {l:List α} (h:aZ enc w (.slice a n cap) l):n<=cap:=by
 rcases h with⟨h,rfl⟩ | ⟨b,off,cap',hv,hb,hc,h⟩
 ·cases h;exact Nat.le_refl _
 ·cases hv;omega
end
section
open Go Go.RowKit
section
variable {α:Type}
def eA (g:Nat->α) (st:List α×List Nat):Prop:=∀ (k t:Nat),st.2[k]? =some t->st.1[t]? =some (g k)
def LX (f:α->Nat->α) (st:List α×List (List Nat)):Prop:=∀ (s:Nat) (r:List Nat),st.2[s]? =some r->∃ p,st.1[s]? =some p/\eA (f p) (st.1,r)
theorem eA.more {g:Nat->α} {t:List α} {r:List Nat} (h:eA g (t,r)) (ys:List α):eA g (t++ys,r):=fun k u hk=>by
 have h1:=h k u hk;show(t++ys)[u]? =_;rw[List.getElem?_append_left (List.getElem?_eq_some_iff.1 h1).1];exact h1
end
section
variable {α β:Type} [DecidableEq α] [DecidableEq β]
theorem k7 {f:Nat} {st fT:List α×List Nat} {q:α} (h:dI f st q=some fT):∃ t ys,fT=(st.1++ys,st.2++ [t])/\(st.1++ys)[t]? =some q:=by
 unfold dI at h;split at h
 ·split at h
  ·cases h
  ·cases h
   exact⟨_,[q],rfl,by simp⟩
 ·rename_i he
  cases h
  have hlt:st.1.idxOf q<st.1.length:=by have:=List.idxOf_le_length (a:=q) (l:=st.1);omega
  refine⟨_,[],by rw[List.append_nil],?_⟩;rw[List.append_nil,List.getElem?_eq_getElem hlt,List.getElem_idxOf hlt]
theorem fI {f:Nat} {g:Nat->α} {todo:List α} :∀ {k:Nat} {st:List α×List Nat},bO f g todo k=some st->(∃ ys,st.1=todo++ys)/\st.2.length=k/\eA g st
 | 0,st,h=>by cases h;exact⟨⟨[],by simp⟩,rfl,fun k t e=>by simp at e⟩
 | k+1,st,h=>by
  rw[bO]at h;obtain⟨s1,h1,h2⟩:=Option.bind_eq_some_iff.1 h;obtain⟨⟨ys,e1⟩,e2,e3⟩:=fI h1;obtain⟨t,zs,e4,e5⟩:=k7 h2;subst e4;refine⟨⟨ys++zs,by simp[e1]⟩,by simp[e2],fun j u hj=>?_⟩;rcases Nat.lt_or_ge j k with hjk | hjk
  ·have eE:s1.2[j]? =some u:=by
    have:(s1.2++ [t])[j]? =some u:=hj;rwa[List.getElem?_append_left (by omega)]at this
   have h3:=e3 j u eE;show(s1.1++zs)[u]? =_;rw[List.getElem?_append_left (List.getElem?_eq_some_iff.1 h3).1];exact h3
  ·have eE:(s1.2++ [t])[j]? =some u:=hj
   have hl:=(List.getElem?_eq_some_iff.1 eE).1;simp[e2]at hl;obtain rfl:j=k:=by omega
   rw[List.getElem?_append_right (by omega),e2,Nat.sub_self]at eE;cases eE;exact e5
theorem ja {fuel K:Nat} {f:α->Nat->α} {p0:α} :∀ (n:Nat) {st:List α×List (List Nat)},cS fuel f K p0 n=some st->st.2.length=min n st.1.length/\LX f st
 | 0,st,h=>by cases h;exact⟨by simp,fun s r e=>by simp at e⟩
 | n+1,st,h=>by
  rw[cS]at h;obtain⟨s1,h1,h2⟩:=Option.bind_eq_some_iff.1 h;obtain⟨i1,i2⟩:=ja n h1;unfold cB at h2;split at h2
  ·rename_i he
   have e:=Option.some.inj h2;subst e;have hl:s1.1.length<=n:=by simpa using he
   exact⟨by omega,i2⟩
  ·rename_i p he
   obtain⟨r,h3,rfl⟩:=Option.map_eq_some_iff.1 h2;have hlt:n<s1.1.length:=(List.getElem?_eq_some_iff.1 he).1;obtain⟨⟨ys,e1⟩,e2,e3⟩:=fI h3;have Qg:s1.1.length<=r.1.length:=by rw[e1];simp
   refine⟨by simp;omega,fun s x hx=>?_⟩;have hx:(s1.2++ [r.2])[s]? =some x:=hx;rcases Nat.lt_or_ge s n with hs | hs
   ·rw[List.getElem?_append_left (by omega)]at hx
    obtain⟨q,g1,g2⟩:=i2 s x hx;refine⟨q,?_,?_⟩
    ·show r.1[s]? =_
     rw[e1,List.getElem?_append_left (by omega)];exact g1
    ·show eA (f q) (r.1,x)
     rw[e1];exact g2.more ys
   ·have hl:=(List.getElem?_eq_some_iff.1 hx).1
    simp at hl;obtain rfl:s=n:=by omega
    rw[List.getElem?_append_right (by omega)]at hx;have:s-s1.2.length=0:=by omega
    rw[this]at hx;cases hx;refine⟨p,?_,e3⟩;show r.1[s]? =_;rw[e1,List.getElem?_append_left (by omega)];exact he
end
theorem nT {α:Type} {P:List α->Prop} (h0:P []) (h1:∀ l x,P l->P (l++ [x])) (l:List α):P l:=by
 have key:∀ r:List α,P r.reverse:=fun r=>by
  induction r with
  | nil=>exact h0
  | cons x r ih=>rw[List.reverse_cons];exact h1 _ _ ih
 have:=key l.reverse;rwa[List.reverse_reverse]at this
theorem sH {d:DF} (rt:Rt d) {c:Nat} (hc:c<256):lb d.cl (cls d.cl c)<256/\cls d.cl (lb d.cl (cls d.cl c))=cls d.cl c:=by have h:=jX rt (rt.part.cU hc);exact⟨h.1,h.2.1⟩
theorem fJ {a:DF} (ha:Rt a) {L:List BS} (hL:∀ s∈a.cl,s∈L) {c e:Nat} (hc:c<256) (he:e<256) (h:cls (partsOf L) c=cls (partsOf L) e):cls a.cl c=cls a.cl e:=by have h1:Alike L c e:=((cw.jy L).gJ hc he).1 h;exact(ha.part.gJ hc he).2 fun s hs=>h1 s (hL s hs)
theorem dy {a b:DF} {op:Int} {fuel:Nat} {d:DF} (h:bK a b op fuel=some d):∃ st,cS fuel (eI a b) (partsOf (a.cl++b.cl)).length (0,0) fuel=some st/\d=⟨partsOf (a.cl++b.cl),st.2.map fun r=>r.map Int.ofNat,st.1.map (bX a b op)⟩:=by unfold bK at h;obtain⟨st,h1,h2⟩:=Option.map_eq_some_iff.1 h;exact⟨st,h1,h2.symm⟩
theorem k8 {a b d:DF} (ha:Rt a) (hb:Rt b) {op:Int} {fuel:Nat} (hf:1<=fuel) (hf2:fuel<=4000) (h:bK a b op fuel=some d) (w:List Nat) (hw:∀ c∈w,c<256): d.mr.getD (aU d 0 w) []=bX a b op (aU a 0 w,aU b 0 w):=by
 have rt:=cL ha hb hf hf2 h;obtain⟨st,h1,hd⟩:=dy h;have I:=lQ ha hb hf h1;have hl:=(ja fuel h1).2;have hn:st.2.length=st.1.length:=by have:=I.len;have:=I.le;omega
 have key:st.1[aU d 0 w]? =some (aU a 0 w,aU b 0 w):=by
  revert hw;refine nT (P:=fun w=>(∀ c∈w,c<256)->st.1[aU d 0 w]? =some (aU a 0 w,aU b 0 w)) (fun _=>I.head) (fun w c ih hw=>?_) w;have ih:=ih fun x hx=>hw x (List.mem_append_left _ hx)
  have hc:c<256:=hw c (by simp);obtain⟨s,hs⟩:∃ s,s=aU d 0 w:=⟨_,rfl⟩;rw[dw,dw,dw, <-hs];rw[<-hs]at ih;have fy:=(List.getElem?_eq_some_iff.1 ih).1;obtain⟨r,hr⟩:∃ r,st.2[s]? =some r:=⟨_,List.getElem?_eq_getElem (by omega)⟩;obtain⟨p,q1,q2⟩:=hl s r hr;rw[ih]at q1;cases q1;have jV:d.cl=partsOf (a.cl++b.cl):=by rw[hd]
  have e1:d.nx.getD s []=r.map Int.ofNat:=by rw[hd];show(st.2.map fun (r:List Nat)=>r.map Int.ofNat).getD s []=_;rw[List.getD_eq_getElem?_getD,List.getElem?_map,hr];rfl
  have hk:cls d.cl c<r.length:=by rw[(I.rows r (List.mem_of_getElem? hr)).1, <-jV];exact rt.part.cU hc
  have e2:eJ d s (cls d.cl c)=r.getD (cls d.cl c) 0:=by unfold eJ;rw[e1,List.getD_eq_getElem?_getD,List.getElem?_map,aI (l:=r) 0 hk];rfl
  have h3:=q2 (cls d.cl c) (r.getD (cls d.cl c) 0) (aI 0 hk);rw[e2];refine(show st.1[r.getD (cls d.cl c) 0]? =some (eI a b (aU a 0 w,aU b 0 w) (cls d.cl c)) from h3).trans ?_;have hq:=sH rt hc;rw[jV]at hq;unfold eI;rw[jV,fJ ha (L:=a.cl++b.cl) (fun s hs=>List.mem_append_left _ hs) hq.1 hc hq.2,fJ hb (L:=a.cl++b.cl) (fun s hs=>List.mem_append_right _ hs) hq.1 hc hq.2]
 rw[List.getD_eq_getElem?_getD,hd];show((st.1.map (bX a b op))[aU ⟨partsOf (a.cl++b.cl),st.2.map fun r=>r.map Int.ofNat,st.1.map (bX a b op)⟩ 0 w]?).getD []=_;rw[<-hd,List.getElem?_map,key];rfl
theorem jb {a b d:DF} (ha:Rt a) (hb:Rt b) {op:Int} {fuel:Nat} (hf:1<=fuel) (hf2:fuel<=4000) (h:bK a b op fuel=some d) (w:List Nat) (hw:∀ c∈w,c<256):aG d w=cr op (aG a w) (aG b w):=by unfold aG acc;rw[k8 ha hb hf hf2 h w hw];unfold bX;show(!(if cr op (acc a (aU a 0 w)) (acc b (aU b 0 w))then [0]else []).isEmpty)=cr op (acc a (aU a 0 w)) (acc b (aU b 0 w));cases cr op (acc a (aU a 0 w)) (acc b (aU b 0 w))<;>rfl
theorem lg {n m:Nat} :∀ (l:List (Nat×Nat)),l.Nodup->(∀ p∈l,p.1<n/\p.2<m)->l.length<=n*m:=fun l hn hl=>by
 have h1:(l.map fun p=>p.1*m+p.2).Nodup:=by
  rw[List.nodup_iff_pairwise_ne,List.pairwise_map];refine(List.nodup_iff_pairwise_ne.1 hn).imp_of_mem fun {p q} hp hq hne e=>hne ?_
  have h2:=hl p hp;have h3:=hl q hq;have hm:0<m:=by omega
  have e1:(p.1*m+p.2)/m=(q.1*m+q.2)/m:=by rw[e]
  have e2:(p.1*m+p.2)%m=(q.1*m+q.2)%m:=by rw[e]
  rw[Nat.mul_comm,Nat.mul_add_div hm,Nat.div_eq_of_lt h2.2,Nat.mul_comm q.1,Nat.mul_add_div hm,Nat.div_eq_of_lt h3.2]at e1;rw[Nat.mul_comm,Nat.mul_add_mod,Nat.mod_eq_of_lt h2.2,Nat.mul_comm q.1,Nat.mul_add_mod,Nat.mod_eq_of_lt h3.2]at e2;exact Prod.ext (by omega) e2
 have h2:=gK (n*m) _ h1 fun t ht=>by
  obtain⟨p,hp,rfl⟩:=List.mem_map.1 ht;have h3:=hl p hp;have:(p.1+1)*m<=n*m:=Nat.mul_le_mul_right _ (by omega);rw[Nat.add_mul,Nat.one_mul]at this;omega
 rwa[List.length_map]at h2
theorem js {α:Type} [DecidableEq α] {f:Nat} {st:List α×List Nat} {q:α} (h:dI f st q=none):q∉st.1/\st.1.length=f:=by
 unfold dI at h;split at h
 ·rename_i he
  split at h
  ·rename_i hf
   exact⟨fun hm=>by have:=List.idxOf_lt_length_of_mem hm;omega,hf⟩
  ·cases h
 ·cases h
theorem dO {α:Type} [DecidableEq α] {fuel:Nat} {P:α->Prop} {g:Nat->α} {todo:List α} (hB:∀ l:List α,l.Nodup->(∀ p∈l,P p)->l.length<=fuel) (hn:todo.Nodup) (hp:∀ p∈todo,P p):∀ k,(∀ j,j<k->P (g j))->∃ st,bO fuel g todo k=some st
 | 0,_=>⟨_,rfl⟩
 | k+1,hg=>by
  obtain⟨st,h⟩:=dO hB hn hp k fun j hj=>hg j (by omega)
  have R:=iO hn (hB _ hn hp) hp k (fun j hj=>hg j (by omega)) h;rw[bO,h];show ∃ s,dI fuel st (g k)=some s;cases e:dI fuel st (g k)with
  | some s=>exact⟨s,rfl⟩
  | none=>
   obtain⟨h1,h2⟩:=js e;have:=hB (g k::st.1) (List.nodup_cons.2 ⟨h1,R.nodup⟩) fun p hp=>by
    rcases List.mem_cons.1 hp with rfl | hp
    ·exact hg k (by omega)
    ·exact R.all p hp
   rw[List.length_cons]at this;omega
theorem dT {α:Type} [DecidableEq α] {fuel K:Nat} {P:α->Prop} {f:α->Nat->α} {p0:α} (hB:∀ l:List α,l.Nodup->(∀ p∈l,P p)->l.length<=fuel) (h0:P p0) (hP:∀ p k,P p->k<K->P (f p k)):∀ n,∃ st,cS fuel f K p0 n=some st
 | 0=>⟨_,rfl⟩
 | n+1=>by
  obtain⟨st,h⟩:=dT hB h0 hP n;have hf:1<=fuel:=hB [p0] (by simp) (by simpa using h0);have I:=lO hf h0 hP n h;rw[cS,h];show ∃ s,cB fuel f K n st=some s;unfold cB;cases e:st.1[n]? with
  | none=>exact⟨_,rfl⟩
  | some p=>
   obtain⟨r,hr⟩:=dO hB I.nodup I.all K fun j hj=>hP p j (I.all p (List.mem_of_getElem? e)) hj
   show ∃ s,(bO fuel (f p) st.1 K).map (fun r=>(r.1,st.2++ [r.2]))=some s;rw[hr];exact⟨_,rfl⟩
theorem jt {a b:DF} (ha:Rt a) (hb:Rt b) (op:Int) {fuel:Nat} (hf:a.nx.length*b.nx.length<=fuel):∃ d,bK a b op fuel=some d:=by obtain⟨st,h⟩:=dT (α:=Nat×Nat) (fuel:=fuel) (K:=(partsOf (a.cl++b.cl)).length) (P:=gu a b) (f:=eI a b) (p0:=(0,0)) (fun l hn hl=>Nat.le_trans (lg l hn hl) hf) ⟨ha.pos,hb.pos⟩ (fun p k hp hk=>mI ha hb p k hp hk) fuel;unfold bK;rw[h];exact⟨_,rfl⟩
theorem cC {a b:DF} (ha:Rt a) (hb:Rt b) {op f:Int} (ho:1<=op/\op<=4) {n:Nat} (hfn:f=n) (hf:a.nx.length*b.nx.length<=n) (hf2:n<=4000):∃ d,aP a b op f=(d,0)/\Rt d/\∀ w:List Nat,(∀ c∈w,c<256)->aG d w=cr op (aG a w) (aG b w):=by
 obtain⟨d,hd⟩:=jt ha hb op hf;have h1:1<=n:=by have:=Nat.mul_le_mul ha.pos hb.pos;omega
 refine⟨d,?_,cL ha hb h1 hf2 hd,fun w hw=>jb ha hb h1 hf2 hd w hw⟩;unfold aP;rw[if_neg (by rw[(aC a).2 ha,(aC b).2 hb];simp),if_neg (by omega),if_neg (by omega),if_neg (by omega)];subst hfn;rw[Int.toNat_natCast,hd]
theorem fh {d:DF} (h:Rt d):Rt (aK d) where
 pos:=h.pos
 le:=h.le
 mr:=by show(d.mr.map _).length=_;rw[List.length_map];exact h.mr
 cl:=h.cl
 len:=h.len
 jM:=h.jM
 ris:=fun s hs=>by
  show jl ((d.mr.map fun m=>if m.isEmpty then [0]else []).getD s [])=true;rw[List.getD_eq_getElem?_getD,List.getElem?_map,aI (l:=d.mr) [] (by rw[h.mr];exact hs)];show jl (if(d.mr.getD s []).isEmpty then [0]else [])=true;split
  ·exact kf
  ·exact pO
theorem ud (d:DF) (s:Nat) (w:List Nat):aU (aK d) s w=aU d s w:=rfl
theorem fp {d:DF} (h:Rt d) (w:List Nat) (hw:∀ c∈w,c<256):aG (aK d) w= !aG d w:=by have hs:=tX h h.pos w hw;unfold aG acc;rw[ud];show(!((d.mr.map fun (m:List Int)=>if m.isEmpty then([0]:List Int)else []).getD (aU d 0 w) []).isEmpty)=_;rw[List.getD_eq_getElem?_getD,List.getElem?_map,aI (l:=d.mr) [] (by rw[h.mr];exact hs)];show(!(if(d.mr.getD (aU d 0 w) []).isEmpty then [0]else []:List Int).isEmpty)=_;cases (d.mr.getD (aU d 0 w) []).isEmpty<;>rfl
end
section
open Go Go.RowKit Go.Shelf Go.Maps
theorem jF (v bv:Value) (d:DF) (rt:Rt d) (sm:Sm d) (b:List Nat) (hb:∀ c∈b,c<256) (Dw:b.length<=1000000) (w:World) (h:aT w v d) (lV:aZ bu w bv b): Calls Tryz.prog 11 #[v,bv] w fun e w'=>e=.returned (.bool (aG d b))/\Below w.heap.size w w':=by
 obtain⟨l,hl⟩:∃ l,l=d.mr.getD (aU d 0 b) []:=⟨_,rfl⟩;have CM:Hid (∀ W,Below w.heap.size w W->Calls Tryz.prog 28 #[v,bv] W fun e w'=>∃ u,e=.returned (.tuple #[u,.int .i64 0])/\w'.ownsRow W.heap.size 3 1 u l.length (l.map aS)/\Below W.heap.size W w'):=hid fun W hW=>by
  rw[hl];exact iY v bv d rt sm b hb Dw W (h.below hW) (lV.below hW)
 have ha:aG d b=decide (0<(l.length:Int)):=by unfold aG acc;rw[<-hl];cases l<;>simp
 rw[ha];obtain⟨n,hn⟩:∃ n,n=l.length:=⟨_,rfl⟩;rw[<-hn];have HN:=hid hn;obtain⟨v0,v1,v2,rfl,h0,h1,h2⟩:=h;obtain⟨a0,c0,rfl⟩:=h0.1.form;obtain⟨a1,c1,rfl⟩:=h1.form;obtain⟨a2,c2,rfl⟩:=h2.form;generalize d.cl.length=n0 at*;generalize d.nx.length=n1 at*;generalize d.mr.length=n2 at*;obtain⟨ba,bc,rfl⟩:=lV.form;generalize b.length=bn at*;clear h0 h1 h2 lV hb ha hl hn rt sm;go_enter Tryz.func11,Tryz.ntmps11;go_upto_region 1 with fail
 refine aw ?_;intro V hV;have BD:Hid (ah V w.heap.size #[.slice a0 n0 c0,.slice a1 n1 c1,.slice a2 n2 c2] 28):=hid (by rw[hV];exact ah.new w _ _);have XV:Hid (Below w.heap.size w V):=hid (by rw[hV];exact((Ext.refl w).alloc _).below);clear hV;obtain⟨k0,k1,k2⟩:=ay.dB BD.out;go_wp2_with fail
 refine(CM.out V XV.out).mono ?_;rintro e w1 ⟨u,rfl,ho,hx⟩;obtain⟨ua,uc,rfl⟩:=ownsRow_form ho;rw[<-HN.out];have X1:=hid (XV.out.trans (hx.mono XV.out.size));clear ho hx k0 k1 k2;by_cases h0:0<n
 ·have h1:(0:Int)<n:=by omega
  go_wp2;go_ret;exact⟨by simp;omega,X1.out⟩
 ·have h1:¬ (0:Int)<n:=by omega
  go_wp2;go_ret;exact⟨by simp;omega,X1.out⟩
def lh (p q:DF) (few:Bool) (n0 n1 n2 m0 m1 m2:Nat) (W:World) (e:Ending) (w':World):Prop:=
 ∃ a0 c0 a1 c1 a2 c2 b0 d0 b1 d1 b2 d2,e=.returned (.tuple #[.agg #[.slice a0 n0 c0,.slice a1 n1 c1,.slice a2 n2 c2],.agg #[.slice b0 m0 d0,.slice b1 m1 d1,.slice b2 m2 d2],.bool few,.bool true])/\
  ay W.heap.size w' (.agg #[.slice a0 n0 c0,.slice a1 n1 c1,.slice a2 n2 c2]) p/\ay W.heap.size w' (.agg #[.slice b0 m0 d0,.slice b1 m1 d1,.slice b2 m2 d2]) q/\Below W.heap.size W w'
theorem fY {p q d:DF} {op:Nat} {f code:Int} (sp:Sm p) (sq:Sm q) (he:aP p q op f=(d,code)) (W:World) (v v':Value) (h:aT W v p) (h':aT W v' q): Calls Tryz.prog 12 #[v,v',.int .u8 op,.int .i64 f] W (fW d.cl.length d.nx.length d.mr.length code d W):=(kE v v' p q sp sq op f W h h').mono fun e w' ⟨r,hr,hd,hx⟩=>by
 rw[he]at hr hd;obtain⟨a0,c0,a1,c1,a2,c2,rfl⟩:=hd.form;exact⟨a0,c0,a1,c1,a2,c2,hr,hd,hx⟩
theorem sI {p:DF} (rt:Rt p) (sp:Sm p) (W:World) (v:Value) (h:aT W v p): Calls Tryz.prog 14 #[v] W (fW p.cl.length p.nx.length p.mr.length 0 (aK p) W):=(mN v p sp W h).mono fun e w' ⟨r,hr,hd,hx⟩=>by
 rw[if_pos ((aC p).2 rt)]at hr hd;obtain⟨a0,c0,a1,c1,a2,c2,e2⟩:=hd.form;have hl:(aK p).mr.length=p.mr.length:=List.length_map ..;rw[hl]at e2;exact⟨a0,c0,a1,c1,a2,c2,by rw[hr,e2];rfl,by rw[e2]at hd;exact hd,hx⟩
def mi (b0 b1:Nat) (c0 c1:Array Value) (A B:World):Prop:=aa (fun x=>x≠b0/\x≠b1) A B/\(ah A b0 c0 28->ah B b0 c0 28)/\(ah A b1 c1 28->ah B b1 c1 28)/\(ZB A b0->ZB B b0)/\(ZB A b1->ZB B b1)
theorem mi.trans {b0 b1:Nat} {c0 c1:Array Value} {A B C:World} (h:mi b0 b1 c0 c1 A B) (k:mi b0 b1 c0 c1 B C):mi b0 b1 c0 c1 A C:=⟨h.1.tr k.1,fun x=>k.2.1 (h.2.1 x),fun x=>k.2.2.1 (h.2.2.1 x),fun x=>k.2.2.2.1 (h.2.2.2.1 x),fun x=>k.2.2.2.2 (h.2.2.2.2 x)⟩
theorem mi.drew {b0 b1:Nat} {c0 c1:Array Value} {A:World} :mi b0 b1 c0 c1 A A.drew:=⟨(aa.refl _ _).drew,fun a=>a,fun a=>a,fun a=>a,fun a=>a⟩
def qE (b0 b1:Nat) (c0 c1:Array Value):aH (mi b0 b1 c0 c1):=⟨fun u=>u=undef,fun _ W=>ah W b0 c0 28,undef,rfl,fun _ _ _ hm _ h=>hm.2.1 h⟩
def qF (b0 b1:Nat) (c0 c1:Array Value):aH (mi b0 b1 c0 c1):=⟨fun u=>u=undef,fun _ W=>ah W b1 c1 28,undef,rfl,fun _ _ _ hm _ h=>hm.2.2.1 h⟩
theorem fM {W:World} {b:Nat} {u0 u1 u2:Value} (h:ah W b #[u0,u1,u2] 28) (x0 x1 x2:Value):ah (((W.setCell ⟨b,0,none⟩ x0).setCell ⟨b,1,none⟩ x1).setCell ⟨b,2,none⟩ x2) b #[x0,x1,x2] 28/\aa (· ≠b) W (((W.setCell ⟨b,0,none⟩ x0).setCell ⟨b,1,none⟩ x1).setCell ⟨b,2,none⟩ x2):=
 ⟨((h.set 0 _).set 1 _).set 2 _,(((aa.refl _ _).setCell (p:=⟨b,0,none⟩) (fun h=>h rfl) _).setCell (p:=⟨b,1,none⟩) (fun h=>h rfl) _).setCell (p:=⟨b,2,none⟩) (fun h=>h rfl) _⟩
theorem nV (v v':Value) (x y:List (Nat×Nat×Nat)) (xL:x.length<=1000000000000000) (LY:y.length<=1000000000000000) (cG:Bool) {p q:DF} {cp cq:Int} (hp:jO (T1 x cG) 40=(p,cp)) (hq:jO (T1 y cG) 40=(q,cq)) (yh:cp=0\/cp=181) (hcq:cq=0\/cq=181) {n0 n1 n2 m0 m1 m2:Nat} (h0:n0=p.cl.length) (h1:n1=p.nx.length) (h2:n2=p.mr.length) (h3:m0=q.cl.length) (h4:m1=q.nx.length) (h5:m2=q.mr.length) (w:World) (h:cJ w v x) (h':cJ w v' y) (hT:∀ W,Below w.heap.size w W->gL W): Calls Tryz.prog 10 #[v,v',.bool cG] w (lh p q (cp != 181&&cq != 181) n0 n1 n2 m0 m1 m2 w):=by
 have CM:Hid (∀ W,Below w.heap.size w W->Calls Tryz.prog 24 #[v] W fun e w'=>∃ u,e=.returned u/\aL (· <w'.heap.size) w' u (dc x)/\Below W.heap.size W w'):=hid fun W hW=>eO v x xL W (h.below hW)
 have CN:Hid (∀ W,Below w.heap.size w W->Calls Tryz.prog 24 #[v'] W fun e w'=>∃ u,e=.returned u/\aL (· <w'.heap.size) w' u (dc y)/\Below W.heap.size W w'):=hid fun W hW=>eO v' y LY W (h'.below hW)
 have TT:Hid (∀ A,Below w.heap.size w A->∀ V,Below A.heap.size A V->gL V):=hid fun A hA V hV=>hT V (hA.trans (hV.mono hA.size))
 have CA:Hid (∀ W u,Below w.heap.size w W->aL (· <W.heap.size) W u (dc x)->Calls Tryz.prog 23 #[u,.bool cG,.int .i64 40] W (fW n0 n1 n2 cp p W)):=hid fun W u hW hu=>eQ u x cG hp h0 h1 h2 W hu (TT.out W hW)
 have CB:Hid (∀ W u,Below w.heap.size w W->aL (· <W.heap.size) W u (dc y)->Calls Tryz.prog 23 #[u,.bool cG,.int .i64 40] W (fW m0 m1 m2 cq q W)):=hid fun W u hW hu=>eQ u y cG hq h3 h4 h5 W hu (TT.out W hW)
 obtain⟨va,vc,rfl⟩:=h.form;obtain⟨wa,wc,rfl⟩:=h'.form;generalize x.length=xn at*;generalize y.length=yn at*;clear h h' hT hp hq h0 h1 h2 h3 h4 h5 TT;go_enter Tryz.func10,Tryz.ntmps10;go_upto_region 1 with fail
 refine aw ?_;intro V0 hV;have BZ:Hid (ah V0 w.heap.size #[.slice none 0 0,.slice none 0 0,.slice none 0 0] 28):=hid (by rw[hV];exact(ah.new w _ _).alloc _);have BY:Hid (ah V0 (w.heap.size+1) #[.slice none 0 0,.slice none 0 0,.slice none 0 0] 28):=hid (by rw[hV];exact(ah.new (w.alloc _) _ _).at (by simp));have X0:Hid (Below w.heap.size w V0):=hid (by rw[hV];exact(((Ext.refl w).alloc _).alloc _).below);clear hV;go_wp2_with fail
 refine(CM.out V0 X0.out).mono ?_;rintro e w1 ⟨u,rfl,ht,hx⟩;have X1:=hid (X0.out.trans (hx.mono X0.out.size));have Y1:Hid (Below V0.heap.size V0 w1):=hid hx;have HT:=hid ht;obtain⟨tp,tc,rfl⟩:=ht.form;clear ht hx CM X0;go_wp2_with fail
 refine(CA.out w1 _ X1.out HT.out).mono ?_;rintro e w2 ⟨a0,c0,a1,c1,a2,c2,rfl,ho,hx⟩;have OP:=hid ho;have X2:=hid (X1.out.trans (hx.mono X1.out.size));have Y2:=hid (Y1.out.trans (hx.mono Y1.out.size));have LW:Hid (w1.heap.size<=w2.heap.size):=hid hx.size;have L1:Hid (w.heap.size+1<w1.heap.size):=hid (Nat.lt_of_lt_of_le BY.out.lt Y1.out.size);clear ho hx CA HT Y1 X1;go_upto_region 2 with fail
 refine aw ?_;intro V1 hV;have BA:Hid (ah V1 w2.heap.size #[.slice a0 n0 c0,.slice a1 n1 c1,.slice a2 n2 c2] 28):=hid (by rw[hV];exact ah.new w2 _ _);have XV:Hid (Below w2.heap.size w2 V1):=hid (by rw[hV];exact((Ext.refl w2).alloc _).below);clear hV;have UB:=hid (OP.out.below XV.out);have X3:=hid (X2.out.trans (XV.out.mono X2.out.size));have Y3:=hid (Y2.out.trans (XV.out.mono Y2.out.size));clear OP X2 Y2 XV;go_wp2_with fail
 refine(CN.out V1 X3.out).mono ?_;rintro e w3 ⟨u,rfl,ht,hx⟩;have X4:=hid (X3.out.trans (hx.mono X3.out.size));have Z1:Hid (Below V1.heap.size V1 w3):=hid hx;have HT:=hid ht;obtain⟨tq,td,rfl⟩:=ht.form;clear ht hx CN X3;go_wp2_with fail
 refine(CB.out w3 _ X4.out HT.out).mono ?_;rintro e w4 ⟨b0,d0,b1,d1,b2,d2,rfl,ho,hx⟩;have OQ:=hid ho;have X5:=hid (X4.out.trans (hx.mono X4.out.size));have Z2:=hid (Z1.out.trans (hx.mono Z1.out.size));have L2:Hid (w.heap.size+1<w3.heap.size):=hid (Nat.lt_of_lt_of_le (Nat.lt_of_lt_of_le BY.out.lt Y3.out.size) Z1.out.size);clear ho hx CB HT Z1 X4;go_upto_region 3 with fail
 refine aw ?_;intro V2 hV;have BB:Hid (ah V2 w4.heap.size #[.slice b0 m0 d0,.slice b1 m1 d1,.slice b2 m2 d2] 28):=hid (by rw[hV];exact ah.new w4 _ _);have XV:Hid (Below w4.heap.size w4 V2):=hid (by rw[hV];exact((Ext.refl w4).alloc _).below);clear hV;have Z3:=hid (Z2.out.trans (XV.out.mono Z2.out.size));have OQ2:=hid (OQ.out.below XV.out);have OP3:=hid (UB.out.below Z3.out);have BA2:=hid (BA.out.below Z3.out BA.out.lt);have X6:=hid (X5.out.trans (XV.out.mono X5.out.size));have Y4:=hid (Y3.out.trans (Z3.out.mono Y3.out.size));have PH:=hid (BZ.out.below Y4.out BZ.out.lt);have BY2:=hid (BY.out.below Y4.out BY.out.lt);have L3:Hid (w2.heap.size<w4.heap.size):=hid (Nat.lt_of_lt_of_le BA.out.lt Z2.out.size);have L4:Hid (w1.heap.size<=w2.heap.size):=hid LW.out;clear UB OQ BA Z2 Z3 X5 Y3 Y4 XV BZ BY;have qK:=L1.out;have hl2:=L2.out;have Fg:=L3.out;have hl4:=L4.out;have hl5:=BB.out.lt;obtain⟨k0,k1,k2⟩:=ay.dB BA2.out;obtain⟨k3,k4,k5⟩:=ay.dB BB.out;rcases yh with rfl | rfl<;>rcases hcq with rfl | rfl
 all_goals (
  go_upto_region 4 with fail
  refine aY (mi w.heap.size (w.heap.size+1) #[.slice a0 n0 c0,.slice a1 n1 c1,.slice a2 n2 c2] #[.slice b0 m0 d0,.slice b1 m1 d1,.slice b2 m2 d2]) mi.drew (fun _ _ _ h k=>h.trans k) (by kernel_rfl) 14 [0,0,0,0,8,24,56,56,248,504,1016,57,2107,6207,16383] (fun i=>i==11 || i==12) (by kernel_rfl) (fun i=>if i=11 then qE _ _ _ _ else if i=12 then qF _ _ _ _ else aH.any _) ?_;intro C hC hne;have HC:=hid hC;have kc:∀ {b o:Nat} {u:Value},b≠w.heap.size->b≠w.heap.size+1->b<V2.heap.size->V2.cell? ⟨b,o,none⟩=some u->∀ W: {W//C W},W.1.cell? ⟨b,o,none⟩=some u:=fun {b o u} h1 h2 h3 h W=>(((hC W.1).1 W.2).1.cell (p:=⟨b,o,none⟩) ⟨h1,h2⟩).trans h
  replace k0:=kc (by omega) (by omega) (by omega) k0;replace k1:=kc (by omega) (by omega) (by omega) k1;replace k2:=kc (by omega) (by omega) (by omega) k2;replace k3:=kc (by omega) (by omega) (by omega) k3;replace k4:=kc (by omega) (by omega) (by omega) k4;replace k5:=kc (by omega) (by omega) (by omega) k5;clear hC kc
  repeat (refine ae (fun K hK=>?_);first | (refine aR rfl ?_;try go_simp;refine hK _ _ ?_;clear hK K) | (refine aO rfl rfl ?_;unfold ai;go_simp;refine hK _ _ ?_;clear hK K))
  refine ae (fun K hK=>?_);refine bg rfl rfl (qE _ _ _ _) rfl (fun W hW hN=>?_) (fun v hv=>?_)
  ·have hM:=(HC.out W).1 hW
   obtain⟨u0,u1,u2,hb⟩:ZB W (w.heap.size):=hM.2.2.2.1 ⟨_,_,_,PH.out⟩;obtain⟨r1,r2⟩:=fM hb (.slice a0 n0 c0) (.slice a1 n1 c1) (.slice a2 n2 c2);obtain⟨z0,z1,z2⟩:=ay.dB hb;have z3:=hb.frozen 0;have z4:=hb.frozen 1;have z5:=hb.frozen 2;clear hW hN hK K hM hb k0 k1 k2 k3 k4 k5;go_simp;exact⟨⟨r2.mono fun x hx=>hx.1,fun _=>r1,fun h=>h.keeps r2 (by omega),fun _=>⟨_,_,_,r1⟩,fun ⟨v0,v1,v2,h⟩=>⟨v0,v1,v2,h.keeps r2 (by omega)⟩⟩,rfl,r1⟩
  replace hv:v=_:=hv;subst hv;go_simp;refine hK _ _ ?_;clear hK K;refine ae (fun K hK=>?_);refine bg rfl rfl (qF _ _ _ _) rfl (fun W hW hN=>?_) (fun v hv=>?_)
  ·have hM:=(HC.out W).1 hW
   obtain⟨u0,u1,u2,hb⟩:ZB W (w.heap.size+1):=hM.2.2.2.2 ⟨_,_,_,BY2.out⟩;obtain⟨r1,r2⟩:=fM hb (.slice b0 m0 d0) (.slice b1 m1 d1) (.slice b2 m2 d2);obtain⟨z0,z1,z2⟩:=ay.dB hb;have z3:=hb.frozen 0;have z4:=hb.frozen 1;have z5:=hb.frozen 2;clear hW hN hK K hM hb k0 k1 k2 k3 k4 k5;go_simp;exact⟨⟨r2.mono fun x hx=>hx.2,fun h=>h.keeps r2 (by omega),fun _=>r1,fun ⟨v0,v1,v2,h⟩=>⟨v0,v1,v2,h.keeps r2 (by omega)⟩,fun _=>⟨_,_,_,r1⟩⟩,rfl,r1⟩
  replace hv:v=_:=hv;subst hv;go_simp;refine hK _ _ ?_;clear hK K
  repeat (refine ae (fun K hK=>?_);first | (refine aR rfl ?_;try go_simp;refine hK _ _ ?_;clear hK K) | (refine aO rfl rfl ?_;unfold ai;go_simp;refine hK _ _ ?_;clear hK K))
  refine bh (fun W hW hH=>?_);have hM:=(HC.out W).1 hW;have hb1:ah W (w.heap.size+1) #[.slice b0 m0 d0,.slice b1 m1 d1,.slice b2 m2 d2] 28:=hH _ (List.mem_of_getElem? (show _=some _ from rfl:_[0]? =some _));have hb0:ah W w.heap.size #[.slice a0 n0 c0,.slice a1 n1 c1,.slice a2 n2 c2] 28:=hH _ (List.mem_of_getElem? (show _=some _ from rfl:_[1]? =some _));have pW:=hid hM.1;clear hM hW hH HC hne k0 k1 k2 k3 k4 k5;obtain⟨z0,z1,z2⟩:=ay.dB hb0;obtain⟨y0,y1,y2⟩:=ay.dB hb1;go_wp2;refine bodyPost_ret (v:=.tuple #[.agg #[.slice a0 n0 c0,.slice a1 n1 c1,.slice a2 n2 c2],.agg #[.slice b0 m0 d0,.slice b1 m1 d1,.slice b2 m2 d2],.bool _,.bool true]) (by simp[results,Tryz.results10,go_sem,z0,z1,z2,y0,y1,y2,show IntKind.i64.wrap 0=0 from rfl]) rfl ⟨a0,c0,a1,c1,a2,c2,b0,d0,b1,d1,b2,d2,rfl,(OP3.out.keeps pW.out fun b hb _=>⟨by omega,by omega⟩).base (by omega),(OQ2.out.keeps pW.out fun b hb _=>⟨by omega,by omega⟩).base (by omega),?_⟩
  exact X6.out.trans (pW.out.mono fun x (hx:x<w.heap.size)=>⟨by omega,by omega⟩:aa (· <w.heap.size) V2 W).below)
theorem lj (x y:List (Nat×Nat×Nat)) (cG:Bool):∃ (p q:DF) (cp cq:Int),jO (T1 x cG) 40=(p,cp)/\jO (T1 y cG) 40=(q,cq)/\(cp=0\/cp=181)/\(cq=0\/cq=181)/\((cp != 181&&cq != 181)=true->Rt p/\Rt q/\p.nx.length<=40/\q.nx.length<=40):=by
 rcases ez x cG with⟨p,h1,h2,h3⟩ | h
 ·rcases ez y cG with⟨q,h4,h5,h6⟩ | h'
  ·exact⟨p,q,0,0,h1,h4,.inl rfl,.inl rfl,fun _=>⟨h2,h5,h3,h6⟩⟩
  ·exact⟨p,_,0,181,h1,h',.inl rfl,.inr rfl,fun e=>by cases e⟩
 ·rcases ez y cG with⟨q,h4,h5,h6⟩ | h'
  ·exact⟨_,q,181,0,h,h4,.inr rfl,.inl rfl,fun e=>by cases e⟩
  ·exact⟨_,_,181,181,h,h',.inr rfl,.inr rfl,fun e=>by cases e⟩
def fq (d:DF) (v:Value) (l:List Nat) (x:Bool):Prop:=∀ (W:World) (u:Value),aT W u d->aZ bu W v l->Calls Tryz.prog 11 #[u,v] W fun e w'=>e=.returned (.bool x)/\Below W.heap.size W w'
theorem eD {d:DF} (rt:Rt d) (v:Value) {l:List Nat} (hl:l.length<=4000/\∀ c∈l,c<256) {x:Bool} (hx:x=aG d l):fq d v l x:=fun W u h h'=>by
 rw[hx];exact jF u v d rt rt.sm l hl.2 (by have:=hl.1;omega) W h h'
theorem ft {H:Type} {P:Program} (w:World) {ops:Array Oper} {rest:List Oper} {o:Oper} {a:Act} {Q:Exit->Act->World->Prop} (hg:o.guard=none) (m x v:Operand) (t:TypeId) (hop:o.op=Op.insert t m x v) (k e:TypeId) (K:Keyed P k) (ht:P.underlying t=some (.map k e)) (R:Value->Option (DataW H×List MemPlace)) (b n:Nat) (D:DataW H) (hm:a.eval m=.map (some b)) (hown:w.ownsMap P k R b n D) (hn:n<maxLen) (key val:Value) (kl:Lit) (hx:a.eval x=key) (hv:a.eval v=val) (hkey:keyOf P k key=some kl) (d:DataW H) (ps:List MemPlace) (hval:R val=some (d,ps)) (hK:∀ w',w'.ownsMap P k R b (n+1) (D.put kl d)->w.grownBy w' (some b)->wpList P ops Q rest (a.put o.dst undef) w'): wpList P ops Q (o::rest) a w:=by
 refine wpList_plain hg fun K' hK'=>?_
 obtain⟨w',hrun,r1,r2⟩:=hown.update K ht hn hkey hval;unfold Oper.wp;simp[execOp,hop,hm,hx,hv,hrun,Result.andThen];exact hK' _ _ (hK w' r1 r2)
def nY (q:Int):Lit:=.int .u8 q
def Jl (x y:Bool):DataW Unit:=((((DataW.map []).put (nY 1) (.lit (.bool (x&&y)))).put (nY 2) (.lit (.bool (x || y)))).put (nY 3) (.lit (.bool (x&& !y)))).put (nY 4) (.lit (.bool (x != y)))
theorem XU (x y:Bool):Jl x y=.map [(nY 1,.lit (.bool (x&&y))),(nY 2,.lit (.bool (x || y))),(nY 3,.lit (.bool (x&& !y))),(nY 4,.lit (.bool (x != y)))]:=rfl
theorem acu {x y c:Bool} {q:Int} (h:Maps.has (Jl x y) (nY q)=true) (hat:∀ zd,(Jl x y).atKey (nY q) zd=.lit (.bool c)):∃ op:Nat,q=op/\1<=op/\op<=4/\c=cr op x y:=by
 rw[XU]at h hat;have h4:q=1\/q=2\/q=3\/q=4:=by
  simp[Maps.has,Lit.sameKey,nY]at h;omega
 rcases h4 with rfl | rfl | rfl | rfl
 ·have e:=hat (.lit (.bool false))
  exact⟨1,rfl,by decide,by decide,by simpa[DataW.atKey,Lit.sameKey,nY,cr]using e.symm⟩
 ·have e:=hat (.lit (.bool false))
  exact⟨2,rfl,by decide,by decide,by simpa[DataW.atKey,Lit.sameKey,nY,cr]using e.symm⟩
 ·have e:=hat (.lit (.bool false))
  exact⟨3,rfl,by decide,by decide,by simpa[DataW.atKey,Lit.sameKey,nY,cr]using e.symm⟩
 ·have e:=hat (.lit (.bool false))
  exact⟨4,rfl,by decide,by decide,by simpa[DataW.atKey,Lit.sameKey,nY,cr]using e.symm⟩
theorem lA {P:Program} {H:Type} {e:TypeId} (he:P.underlying e=some .bool) {v:Value} {z:DataW H×List MemPlace} (h:plainElem P e v=some z):∃ c:Bool,v=.bool c/\z=(.lit (.bool c),[]):=by unfold plainElem at h;rw[he]at h;cases v<;>simp at h;exact⟨_,rfl,h.symm⟩
theorem FY {H:Type} {P:Program} {k:TypeId} {R:Value->Option (DataW H×List MemPlace)} {w w':World} {b r n:Nat} {D:DataW H} {left:Lit->Bool} {cnt:Nat} (h:w.ranges P k R b r n D left cnt) (hx:Below w.heap.size w w'):w'.ranges P k R b r n D left cnt:=by have h1:=h.owns.lt;have h2:=h.lt;have hk:=(aa.ag hx fun _ h=>h:aa (· <w.heap.size) w w').keep;obtain⟨es,clock,since,seen,c0,hb,F,hs,hD,hr,rest⟩:=h;exact⟨es,clock,since,seen,c0,(hk b h1).trans hb,F,hs,hD,(hk r h2).trans hr,rest⟩
theorem Jm (v v':Value) (p q:DF) (few:Bool) (Eu:few=true->Rt p/\Rt q/\p.nx.length<=40/\q.nx.length<=40) (cG:Bool) (bv:Value) (b:List Nat) (w:World) (hv:∃ a n c,v=.slice a n c) (hv':∃ a n c,v'=.slice a n c) (hb:∀ c∈b,c<256) (lV:aZ bu w bv b) (hA:∀ W,Below w.heap.size w W->Calls Tryz.prog 9 #[] W fun e w'=>e=.returned (.bool true)/\Below W.heap.size W w') (hT:∀ W,Below w.heap.size w W->Calls Tryz.prog 10 #[v,v',.bool (cG)] W (lh p q few p.cl.length p.nx.length p.mr.length q.cl.length q.nx.length q.mr.length W)): Calls Tryz.prog 3 #[v,v',.bool cG,bv] w fun e w'=>e=.returned (.bool true)/\Below w.heap.size w w':=by
 obtain⟨n0,dD⟩:∃ n,n=p.cl.length:=⟨_,rfl⟩;obtain⟨n1,gR⟩:∃ n,n=p.nx.length:=⟨_,rfl⟩;obtain⟨n2,jB⟩:∃ n,n=p.mr.length:=⟨_,rfl⟩;obtain⟨m0,oU⟩:∃ n,n=q.cl.length:=⟨_,rfl⟩;obtain⟨m1,oQ⟩:∃ n,n=q.nx.length:=⟨_,rfl⟩;obtain⟨m2,mz⟩:∃ n,n=q.mr.length:=⟨_,rfl⟩;rw[<-dD, <-gR, <-jB, <-oU, <-oQ, <-mz]at hT;obtain⟨va,vn,vc,rfl⟩:=hv;obtain⟨wa,wn,wc,rfl⟩:=hv';have HA:=hid hA;have HT:=hid hT;have Gp:=hid Eu;have lJ:=hid dD;have ku:=hid gR;have j9:=hid jB;have Zf:=hid oU;have HM1:=hid oQ;have HM2:=hid mz;clear hA hT Eu dD gR jB oU oQ mz;obtain⟨ba,bc,rfl⟩:=lV.form;have Ug:=hid hb;have PG:=hid lV;obtain⟨bn,Dw⟩:∃ n,n=b.length:=⟨_,rfl⟩;obtain⟨bm,Yt⟩:∃ m,m=min bn 40:=⟨_,rfl⟩;have il:min (bn:Int) 40=(bm:Int):=by omega
 have Ji:bm<=bn:=by omega
 have nu:bm<=40:=by omega
 rw[<-Dw]at PG lV ⊢;have vD:bm<=bc:=Nat.le_trans Ji lV.cap;obtain⟨bb,Ni⟩:∃ x,x=b.take bm:=⟨_,rfl⟩;have kq:Hid (∀ W,Below w.heap.size w W->aZ bu W (.slice ba bm bc) bb):=hid fun W hW=>by rw[Ni];exact((PG.out.below hW).take bm Ji)
 have Ag:Hid (∀ c∈bb,c<256):=hid fun c hc=>by rw[Ni]at hc;exact Ug.out c (List.mem_of_mem_take hc)
 have FP:Hid (bm=bb.length):=hid (by rw[Ni,List.length_take];omega);clear hb lV Dw Yt Ni Ug PG;have Rq:= @run_makeMap Tryz.prog;go_enter Tryz.func3,Tryz.ntmps3;go_wp2_with fail
 refine(HA.out w (Below.refl _ _)).mono ?_;rintro e w1 ⟨rfl,hx⟩;have X1:=hid hx;clear hx;go_wp2_with fail
 refine(HT.out w1 X1.out).mono ?_;rintro e w2 ⟨a0,c0,a1,c1,a2,c2,b0,d0,b1,d1,b2,d2,rfl,ho,uJ,hx⟩;have OP:=hid ho;have OQ:=hid uJ;have X2:=hid (X1.out.trans (hx.mono X1.out.size));clear ho uJ hx HA HT;go_upto_region 4 with fail
 refine aw ?_;intro V hV;have BP:Hid (ah V w2.heap.size #[.slice a0 n0 c0,.slice a1 n1 c1,.slice a2 n2 c2] 28):=hid (by rw[hV];exact(ah.new w2 _ _).alloc _);have BQ:Hid (ah V (w2.heap.size+1) #[.slice b0 m0 d0,.slice b1 m1 d1,.slice b2 m2 d2] 28):=hid (by rw[hV];exact(ah.new (w2.alloc _) _ _).at (by simp));have XV:Hid (Below w2.heap.size w2 V):=hid (by rw[hV];exact(((Ext.refl w2).alloc _).alloc _).below);clear hV;have IP:=hid (OP.out.below XV.out);have IQ:=hid (OQ.out.below XV.out);have X3:=hid (X2.out.trans (XV.out.mono X2.out.size));clear OP OQ XV X2;cases few with
 | false=>
  go_wp2;go_ret;exact⟨rfl,X3.out⟩
 | true=>
 obtain⟨rp,rq,Hz,UC⟩:=Gp.out rfl;have RP:=hid rp;have RQ:=hid rq;have Ba:=hid Hz;have P6:=hid UC;clear rp rq Hz UC Gp;have hb4:bb.length<=4000/\∀ c∈bb,c<256:=⟨by rw[<-FP.out];omega,Ag.out⟩;obtain⟨x,hx⟩:∃ x,x=aG p bb:=⟨_,rfl⟩;obtain⟨y,hy⟩:∃ x,x=aG q bb:=⟨_,rfl⟩;have Mc:Hid (∀ v,fq p v bb x):=hid fun v=>eD RP.out v hb4 hx
 have Md:Hid (∀ v,fq q v bb y):=hid fun v=>eD RQ.out v hb4 hy
 have RN:=hid (fh RP.out);have CNB:Hid (∀ v,fq (aK p) v bb (!x)):=hid fun v=>eD RN.out v hb4 (by rw[hx];exact(fp RP.out bb Ag.out).symm)
 have C4:Hid (∀ W v,aT W v p->Calls Tryz.prog 14 #[v] W (fW n0 n1 n2 0 (aK p) W)):=hid fun W v h=>by
  rw[lJ.out,ku.out,j9.out];exact sI RP.out RP.out.sm W v h
 have CD:Hid (∀ op:Nat,1<=op->op<=4->∃ (d:DF) (k0 k1 k2:Nat),Rt d/\(∀ v,fq d v bb (cr op x y))/\∀ W v v',aT W v p->aT W v' q->Calls Tryz.prog 12 #[v,v',.int .u8 op,.int .i64 1600] W (fW k0 k1 k2 0 d W)):=hid fun op h1 h4=>by
  obtain⟨d,e,rd,l⟩:=cC RP.out RQ.out (op:=op) (f:=1600) ⟨by omega,by omega⟩ (n:=1600) rfl (Nat.mul_le_mul Ba.out P6.out) (by decide);exact⟨d,_,_,_,rd,fun v=>eD rd v hb4 (by rw[hx,hy];exact(l bb Ag.out).symm),fun W v v' h h'=>fY RP.out.sm RQ.out.sm e W v v' h h'⟩
 have CR:Hid (∀ (d:DF) W v,Rt d->aT W v d->Calls Tryz.prog 13 #[v] W fun e w'=>e=.returned (.bool true)/\Below W.heap.size W w'):=hid fun d W v rt h=>by
  have h5:=dJ v d W h rt.sm;rwa[(aC d).2 rt]at h5
 have HB:=hid (kq.out V X3.out);clear hx hy hb4 kq;go_upto_region 7 with fail
 obtain⟨p0,p1,p2⟩:=ay.dB BP.out;obtain⟨r0,r1,r2⟩:=ay.dB BQ.out;refine aD false (fun _=>False) (by kernel_rfl) 8 [0,0,3,0,0,31,63,127] (fun i=>i==2 || i==5) (by kernel_rfl) (fun i=>if i=2 then aH.gU _ (.bool x)else if i=5 then aH.gU _ (.bool y)else aH.any _) ?_;intro C hC hne;have HC:=hid hC;have wM:=ak hC (p:=⟨w2.heap.size,0,none⟩) BP.out.lt (fun h=>h) p0;have wN:=ak hC (p:=⟨w2.heap.size,1,none⟩) BP.out.lt (fun h=>h) p1;have wO:=ak hC (p:=⟨w2.heap.size,2,none⟩) BP.out.lt (fun h=>h) p2;have DC:=ak hC (p:=⟨w2.heap.size+1,0,none⟩) BQ.out.lt (fun h=>h) r0;have DD:=ak hC (p:=⟨w2.heap.size+1,1,none⟩) BQ.out.lt (fun h=>h) r1;have DG:=ak hC (p:=⟨w2.heap.size+1,2,none⟩) BQ.out.lt (fun h=>h) r2;clear hC p0 p1 p2 r0 r1 r2
 repeat (refine ae (fun K hK=>?_);first | (refine aR rfl ?_;try go_simp;refine hK _ _ ?_;clear hK K) | (refine aO rfl rfl ?_;unfold ai;go_simp;refine hK _ _ ?_;clear hK K))
 refine ae (fun K hK=>?_);refine bg rfl rfl (aH.gU _ (.bool x)) rfl (fun W hW hN=>?_) (fun v hv=>?_)
 ·have hM:=(HC.out W).1 hW
  clear hW;go_simp;refine aB ((Mc.out _ W _ (IP.out.below hM.below).df (HB.out.below hM.below)).mono ?_);rintro e w2 ⟨rfl,hx⟩;exact⟨_,rfl,Move.ag hx,rfl,trivial⟩
 replace hv:v=_:=hv;subst hv;go_simp;refine hK _ _ ?_;clear hK K
 repeat (refine ae (fun K hK=>?_);first | (refine aR rfl ?_;try go_simp;refine hK _ _ ?_;clear hK K) | (refine aO rfl rfl ?_;unfold ai;go_simp;refine hK _ _ ?_;clear hK K))
 refine ae (fun K hK=>?_);refine bg rfl rfl (aH.gU _ (.bool y)) rfl (fun W hW hN=>?_) (fun v hv=>?_)
 ·have hM:=(HC.out W).1 hW
  clear hW;go_simp;refine aB ((Md.out _ W _ (IQ.out.below hM.below).df (HB.out.below hM.below)).mono ?_);rintro e w2 ⟨rfl,hx⟩;exact⟨_,rfl,Move.ag hx,rfl,trivial⟩
 replace hv:v=_:=hv;subst hv;go_simp;refine hK _ _ ?_;clear hK K
 repeat (refine ae (fun K hK=>?_);first | (refine aR rfl ?_;try go_simp;refine hK _ _ ?_;clear hK K) | (refine aO rfl rfl ?_;unfold ai;go_simp;refine hK _ _ ?_;clear hK K))
 refine bh (fun V3 hW hH=>?_);have hM:=(HC.out V3).1 hW;have Y3:Hid (Below V.heap.size V V3):=hid hM.below;clear hM hW hH HC hne wM wN wO DC DD DG;go_upto_region 8 with fail
 have law:= @int_keyed Tryz.prog 32 .u8 Tryz.underlying32;have Dw:(0:Nat)<=maxLen:=Nat.zero_le _;go_cut [68] from 50 to 68 (fun v wx=>∃ r,v=.pointer (some ⟨r,0,none⟩)/\V3.heap.size<=r/\wx.ranges Tryz.prog 32 (plainElem Tryz.prog 4) V3.heap.size r 4 (Jl x y) (Maps.has (Jl x y)) (Maps.size (Jl x y))/\Below V3.heap.size V3 wx);case first=>
  cases x<;>cases y
  all_goals skip --B0
  all_goals (go_wp2_with (first
   | (refine ft (H:=Unit) _ rfl (.tmp 50) (.const (.int .u8 1)) (.tmp 54) 33 rfl 32 4 law Tryz.underlying33 (plainElem Tryz.prog 4) V3.heap.size 0 (.map []) rfl (World.ownsMap_made _ _ _ _) (by unfold maxLen;omega) _ _ (nY 1) rfl rfl (keyOf_int_mk Tryz.underlying32 rfl) _ [] (plainElem_bool Tryz.underlying4 _) ?_;intro v1 ho1 hg1)
   | (refine ft (H:=Unit) _ rfl (.tmp 50) (.const (.int .u8 2)) (.tmp 58) 33 rfl 32 4 law Tryz.underlying33 (plainElem Tryz.prog 4) V3.heap.size 1 _ rfl ho1 (by unfold maxLen;omega) _ _ (nY 2) rfl rfl (keyOf_int_mk Tryz.underlying32 rfl) _ [] (plainElem_bool Tryz.underlying4 _) ?_;intro v2 Re hg2)
   | (refine ft (H:=Unit) _ rfl (.tmp 50) (.const (.int .u8 3)) (.tmp 63) 33 rfl 32 4 law Tryz.underlying33 (plainElem Tryz.prog 4) V3.heap.size 2 _ rfl Re (by unfold maxLen;omega) _ _ (nY 3) rfl rfl (keyOf_int_mk Tryz.underlying32 rfl) _ [] (plainElem_bool Tryz.underlying4 _) ?_;intro v3 ho3 hg3)
   | (refine ft (H:=Unit) _ rfl (.tmp 50) (.const (.int .u8 4)) (.tmp 66) 33 rfl 32 4 law Tryz.underlying33 (plainElem Tryz.prog 4) V3.heap.size 3 _ rfl ho3 (by unfold maxLen;omega) _ _ (nY 4) rfl rfl (keyOf_int_mk Tryz.underlying32 rfl) _ [] (plainElem_bool Tryz.underlying4 _) ?_;intro v4 ho4 hg4)
   | (at_range;refine wpList_range_own (H:=Unit) _ rfl _ 33 rfl 32 4 law Tryz.underlying33 (plainElem Tryz.prog 4) V3.heap.size 4 _ rfl ho4 ?_;intro v5 alM hg5 hs5)
   | fail))
  all_goals skip --B1
  all_goals go_meet
  all_goals (have z0:V3.heap.size<=(V3.alloc (.map #[] 0)).heap.size:=by simp)
  all_goals (have z1:=Nat.le_trans z0 hg1.size)
  all_goals (have z2:=Nat.le_trans z1 hg2.size)
  all_goals (have z3:=Nat.le_trans z2 hg3.size)
  all_goals (have z4:=Nat.le_trans z3 hg4.size)
  all_goals exact⟨_,rfl,z4,alM,((((((Ext.refl V3).alloc _).below.grown hg1 z0 (fun c e=>by cases e;exact Nat.le_refl _)).grown hg2 z1 (fun c e=>by cases e;exact Nat.le_refl _)).grown hg3 z2 (fun c e=>by cases e;exact Nat.le_refl _)).grown hg4 z3 (fun c e=>by cases e;exact Nat.le_refl _)).grown hg5 z4 (fun c e=>by cases e)⟩
 case rest=>
 obtain⟨r,rfl,hr3,hrg,hX⟩:=hcut;obtain⟨W4,rfl⟩:∃ W:World,W=wc:=⟨_,rfl⟩;have HRG:=hid hrg;have Eg:=hid hX;have HR3:=hid hr3;clear hrg hX hr3;go_wp2_with fail
 go_loopw [15] (fun _ wr=>∃ (left:Lit->Bool) (cnt:Nat),wr.ranges Tryz.prog 32 (plainElem Tryz.prog 4) V3.heap.size r 4 (Jl x y) left cnt/\(∀ kl,left kl=true->Maps.has (Jl x y) kl=true)/\Below V3.heap.size V3 wr) (fun _ wr=>wr.rangeLeft V3.heap.size r)
 case atStart=>exact⟨_,_,HRG.out,fun _ h=>h,Eg.out⟩
 case round=>
  obtain⟨left,cnt,hrg,hlf,hx⟩:=hrel;obtain⟨wo,rfl⟩:∃ wo:World,wo=wr:=⟨_,rfl⟩;have RG:=hid hrg;have LF:=hid hlf;have XO:=hid hx;clear hrg hlf hx
  go_wp2_with (first
   | (at_next;refine wpList_next_ranges (H:=Unit) _ rfl _ rfl 32 law (plainElem Tryz.prog 4) (Value.int .u8) Value.bool (fun key kl hkey=>by obtain⟨x,rfl,_⟩:=Maps.keyOf_int_inv Tryz.underlying32 hkey;exact⟨x,rfl⟩) (fun v y hv=>by obtain⟨c,rfl,_⟩:=lA Tryz.underlying4 hv;exact⟨c,rfl⟩) V3.heap.size r 4 _ _ _ rfl RG.out (fun _ _=>Hid.out ?_) (fun q9 c kl y9 w1 cnt1 hkey hlk hval hat hrg1 hlt hg1 hs1 hen=>Hid.out ?_))
   | fail)
  ·refine hid ?_
   have XV:=hid (Y3.out.trans (XO.out.mono Y3.out.size));obtain⟨p0,p1,p2⟩:=ay.dB (BP.out.below XV.out BP.out.lt);go_wp2_with fail
   refine(C4.out wo _ (IP.out.below XV.out).df).mono ?_;rintro e w3 ⟨f0,g0,f1,g1,f2,g2,rfl,ho,hx⟩;have ON:=hid ho;have X5:=hid (XV.out.trans (hx.mono XV.out.size));clear ho hx p0 p1 p2;go_upto_region 15 with fail
   refine aw ?_;intro V5 hV;have BN:Hid (ah V5 w3.heap.size #[.slice f0 n0 g0,.slice f1 n1 g1,.slice f2 n2 g2] 28):=hid (by rw[hV];exact ah.new w3 _ _);have XN:Hid (Below w3.heap.size w3 V5):=hid (by rw[hV];exact((Ext.refl w3).alloc _).below);clear hV;have ON5:=hid (ON.out.below XN.out);have X6:=hid (X5.out.trans (XN.out.mono X5.out.size));clear ON XN X5;obtain⟨p0,p1,p2⟩:=ay.dB BN.out;go_wp2_with fail
   refine(CR.out (aK p) V5 _ RN.out ON5.out.df).mono ?_;rintro e w6 ⟨rfl,hx⟩;have BN6:=hid (BN.out.below hx BN.out.lt);have ON6:=hid (ON5.out.below hx);have X7:=hid (X6.out.trans (hx.mono X6.out.size));clear hx p0 p1 p2 X6;obtain⟨p0,p1,p2⟩:=ay.dB BN6.out;go_wp2_with fail
   refine(CNB.out _ w6 _ ON6.out.df (HB.out.below X7.out)).mono ?_;rintro e w7 ⟨rfl,hx⟩;have X8:=hid (X7.out.trans (hx.mono X7.out.size));clear hx p0 p1 p2 X7;go_wp2;go_ret;exact⟨by simp,X3.out.trans (X8.out.mono X3.out.size)⟩
  ·refine hid ?_
   obtain⟨q,e9,rfl,Gh⟩:=Maps.keyOf_int_inv Tryz.underlying32 hkey;cases e9;obtain⟨c9,e9,rfl⟩:=lA Tryz.underlying4 hval;cases e9;obtain⟨op,rfl,hop1,hop4,rfl⟩:=acu (q:=q9) (LF.out _ hlk) hat;obtain⟨d,k0,k1,k2,hrd,mL,hof⟩:=CD.out op hop1 hop4;obtain⟨sv,hsv⟩:∃ s,s=cr op x y:=⟨_,rfl⟩;rw[<-hsv]at mL hen ⊢;have RD:=hid hrd;have CA:=hid mL;have CO:=hid hof;have Pr:=hid hrg1;have HLT:=hid hlt;have hV1:Below V3.heap.size V3 w1:=XO.out.grown hg1 XO.out.size (fun c e=>by cases e;exact HR3.out);have XV:=hid (Y3.out.trans (hV1.mono Y3.out.size));have XV1:=hid hV1;obtain⟨p0,p1,p2⟩:=ay.dB (BP.out.below XV.out BP.out.lt);obtain⟨r0,r1,r2⟩:=ay.dB (BQ.out.below XV.out BQ.out.lt);clear hkey hlk hval hat hrg1 hlt hg1 hs1 Gh hrd mL hof hV1 hsv;go_wp2_with fail
   refine(CO.out w1 _ _ (IP.out.below XV.out).df (IQ.out.below XV.out).df).mono ?_;rintro e w3 ⟨f0,g0,f1,g1,f2,g2,rfl,ho,hx⟩;have OD:=hid ho;have X5:Hid (Below w1.heap.size w1 w3):=hid hx;clear ho hx p0 p1 p2 r0 r1 r2 hen;go_upto_region 12 with fail
   refine aw ?_;intro V5 hV;have BN:Hid (ah V5 w3.heap.size #[.slice f0 k0 g0,.slice f1 k1 g1,.slice f2 k2 g2] 28):=hid (by rw[hV];exact ah.new w3 _ _);have XN:Hid (Below w3.heap.size w3 V5):=hid (by rw[hV];exact((Ext.refl w3).alloc _).below);clear hV;have OD5:=hid (OD.out.below XN.out);have X6:=hid (X5.out.trans (XN.out.mono X5.out.size));clear OD XN X5;obtain⟨p0,p1,p2⟩:=ay.dB BN.out;go_wp2_with fail
   refine(CR.out d V5 _ RD.out OD5.out.df).mono ?_;rintro e w6 ⟨rfl,hx⟩;have BN6:=hid (BN.out.below hx BN.out.lt);have OD6:=hid (OD5.out.below hx);have X7:=hid (X6.out.trans (hx.mono X6.out.size));clear hx p0 p1 p2 X6;obtain⟨p0,p1,p2⟩:=ay.dB BN6.out;go_wp2_with fail
   refine(CA.out _ w6 _ OD6.out.df (HB.out.below (XV.out.trans (X7.out.mono XV.out.size)))).mono ?_;rintro e w7 ⟨rfl,hx⟩;have X8:=hid (X7.out.trans (hx.mono X7.out.size));clear hx p0 p1 p2 X7;have RG8:=FY Pr.out X8.out;go_wp2;go_roundw;case rel=>exact⟨_,cnt1,RG8,fun kl h=>LF.out kl (by simp at h;exact h.1),XV1.out.trans (X8.out.mono XV1.out.size)⟩
   case measure=>rw[RG8.left_eq,RG.out.left_eq];exact HLT.out
theorem xy (v v' bv:Value) (x y:List (Nat×Nat×Nat)) (xL:x.length<=1000000000000000) (LY:y.length<=1000000000000000) (cG:Bool) (b:List Nat) (hb:∀ c∈b,c<256) (w:World) (h:cJ w v x) (h':cJ w v' y) (lV:aZ bu w bv b) (hT:∀ W,Below w.heap.size w W->gL W): Calls Tryz.prog 3 #[v,v',.bool cG,bv] w fun e w'=>e=.returned (.bool true)/\Below w.heap.size w w':=by obtain⟨p,q,cp,cq,h1,h2,h3,h4,h5⟩:=lj x y (cG);obtain⟨a,c,e⟩:=h.form;obtain⟨a',c',e'⟩:=h'.form;exact Jm v v' p q _ h5 cG bv b w ⟨_,_,_,e⟩ ⟨_,_,_,e'⟩ hb lV (fun W _=>kX W) fun W hW=>nV v v' x y xL LY (cG) h1 h2 h3 h4 rfl rfl rfl rfl rfl rfl W (h.below hW) (h'.below hW) fun V hV=>hT V (hW.trans (hV.mono hW.size))
end
section
open Go Go.ChangeShapes Go.WideShapes Go.ChangeAt Go.RowKit
theorem Me:Tryz.prog.globalNamed "internal/strconv.uint64pow10" =some 1:=by kernel_rfl
theorem Ah:(Tryz.prog.globals[1]?).map (·.type)=some 258:=by kernel_rfl
theorem FZ:Tryz.prog.cellsOf 258=20:=by kernel_rfl
theorem F5:Tryz.prog.cellsOf 57=1:=by kernel_rfl
theorem Jn {W:World} (h:laidMetH Tryz.prog Rows.productSaysRow.laid W):gL W:=by have h1:laidMet Tryz.prog [("math/bits.deBruijn32tab",Rows.laid_math_bits_deBruijn32tab),("math/bits.deBruijn64tab",Rows.laid_math_bits_deBruijn64tab),("internal/strconv.uint64pow10",Lib.tabData .u64 Lib.pow10Tab)] W:=h;exact Lib.tabIs_of_head (rest:=[]) Me Ah Tryz.underlying258 Tryz.underlying57 F5 FZ h1.tail.tail
noncomputable def sL (cs:Array Value):Obj->Obj
 | .cells _ t frozen=>.cells cs t frozen
 | o=>o
noncomputable def qI (os:Os):World:=
 {World.holding Tryz.prog os ⟨#[], #[],[]⟩with heap:=(((World.holding Tryz.prog os ⟨#[], #[],[]⟩).heap.modify 1 (sL #[.int .u64 1,.int .u64 10,.int .u64 100,.int .u64 1000,.int .u64 10000,.int .u64 100000,.int .u64 1000000,.int .u64 10000000,.int .u64 100000000,.int .u64 1000000000,.int .u64 10000000000,.int .u64 100000000000,.int .u64 1000000000000,.int .u64 10000000000000,.int .u64 100000000000000,.int .u64 1000000000000000,.int .u64 10000000000000000,.int .u64 100000000000000000,.int .u64 1000000000000000000,.int .u64 10000000000000000000])).modify 2 (sL #[.int .u8 0,.int .u8 1,.int .u8 28,.int .u8 2,.int .u8 29,.int .u8 14,.int .u8 24,.int .u8 3,.int .u8 30,.int .u8 22,.int .u8 20,.int .u8 15,.int .u8 25,.int .u8 17,.int .u8 4,.int .u8 8,.int .u8 31,.int .u8 27,.int .u8 13,.int .u8 23,.int .u8 21,.int .u8 19,.int .u8 16,.int .u8 7,.int .u8 26,.int .u8 12,.int .u8 18,.int .u8 6,.int .u8 11,.int .u8 5,.int .u8 10,.int .u8 9])).modify 3 (sL #[.int .u8 0,.int .u8 1,.int .u8 56,.int .u8 2,.int .u8 57,.int .u8 49,.int .u8 28,.int .u8 3,.int .u8 61,.int .u8 58,.int .u8 42,.int .u8 50,.int .u8 38,.int .u8 29,.int .u8 17,.int .u8 4,.int .u8 62,.int .u8 47,.int .u8 59,.int .u8 36,.int .u8 45,.int .u8 43,.int .u8 51,.int .u8 22,.int .u8 53,.int .u8 39,.int .u8 33,.int .u8 30,.int .u8 24,.int .u8 18,.int .u8 12,.int .u8 5,.int .u8 63,.int .u8 55,.int .u8 48,.int .u8 27,.int .u8 60,.int .u8 41,.int .u8 37,.int .u8 16,.int .u8 46,.int .u8 35,.int .u8 44,.int .u8 21,.int .u8 52,.int .u8 32,.int .u8 23,.int .u8 11,.int .u8 54,.int .u8 26,.int .u8 40,.int .u8 15,.int .u8 34,.int .u8 20,.int .u8 31,.int .u8 10,.int .u8 25,.int .u8 14,.int .u8 19,.int .u8 9,.int .u8 13,.int .u8 8,.int .u8 7,.int .u8 6])}
theorem Qa (os:Os):laidMet Tryz.prog Rows.productSaysRow.laid ((qI os).forCall (fun _ _=>0) ⟨#[], #[.slice none 0 0,.slice none 0 0,.bool false,.slice none 0 0],[]⟩).memory:=
 laidMet_of_run' 8 (by kernel_rfl) (by kernel_rfl)
theorem Jo (os:Os) {H:Type} (enc:TypeId×Value->H):∃ places,DataW.whole enc Tryz.prog ((qI os).forCall (fun _ _=>0) ⟨#[], #[.slice none 0 0,.slice none 0 0,.bool false,.slice none 0 0],[]⟩).memory Tryz.f3.params.toList Rows.productSaysSpec.vars false (#[.slice none 0 0,.slice none 0 0,.bool false,.slice none 0 0]:Array Value).toList 8=some ([.nil,.nil,.lit (.bool false),.nil],[],places):=
 ⟨[],by kernel_rfl⟩
theorem F7 (os:Os) (started:os.Started) (H:Type) (enc:TypeId×Value->H) (F:Stop.Interp): ReturnsInHanded {} Tryz.checked os 3 .any ((OpenSpec.ofChange Rows.productSaysSpec).preRow enc Tryz.prog Tryz.f3 Rows.productSaysRow.domain false Rows.productSaysRow.laid) (((OpenSpec.ofChange Rows.productSaysSpec).at F).post enc Tryz.prog Tryz.f3 false true false false):=by
 obtain⟨places,hx⟩:=Jo os enc;refine returnsInHanded_of_row (C:=Tryz.checked) (s:=OpenSpec.ofChange Rows.productSaysSpec) Tryz.own started (by kernel_rfl) Tryz.func3
  (witness_row_at (enc:=enc) (C:=Tryz.checked) false (qI os) #[.slice none 0 0,.slice none 0 0,.bool false,.slice none 0 0] rfl (by kernel_rfl) (by kernel_rfl) (by kernel_rfl)
   (OpenSpec.preRow_of_cond 8 hx (by kernel_rfl) (fun k hk=>by cases hk) (by kernel_rfl) (Qa os))) ?_
 intro W base args ds gs before uq hW _ _ FD hL _ _;have hval:∀ (j:Nat) t v,Tryz.f3.params[j]? =some t->args[j]? =some v->Value.okWide Tryz.prog W .any base t v:=uq;have hT:∀ V,Below W.heap.size W V->gL V:=fun V hV=>(Jn hL).below hV
 have hW1:DataW.Whole enc Tryz.prog Tryz.f3.params.toList Rows.productSaysSpec.vars false W args.toList ds gs before:=hW;have Et:=hW1;obtain⟨p,q,Nh,hV,rfl,hfz,Vy⟩:=hW1;have hA:DataW.TrodAll enc Tryz.prog W 0 (fun _=>true) true Tryz.f3.params.toList args.toList ds p:=Nh;have hsz:(DataW.weightsEach Tryz.prog (Tryz.f3.params.toList++Rows.productSaysSpec.plain.varTypes Tryz.prog) (ds++gs)).all (· <=reachBytes)=true:=FD;rw[Tryz.params3]at hA hval hsz;obtain⟨v0,v1,v2,v3,d0,d1,d2,d3,p0,p1,p2,p3,rfl,rfl,rfl,h0,h1,h2,h3⟩:=trodAll_four hA;obtain⟨l0,s0,g0⟩:=eP (hval 0 _ v0 rfl rfl) h0 (fV hsz (j:=0) rfl rfl);obtain⟨l1,s1,g1⟩:=eP (hval 1 _ v1 rfl rfl) h1 (fV hsz (j:=1) rfl rfl);obtain⟨b2,rfl,rfl,rfl⟩:=open_bool Tryz.underlying4 (hval 2 _ v2 rfl rfl) h2;obtain⟨l3,_,r3,s3⟩:=jE (hval 3 _ v3 rfl rfl) h3;refine(xy v0 v1 v3 l0 l1 g0 g1 b2 l3 r3 W s0 s1 s3 hT).mono fun e W' ⟨he,hw⟩=>⟨_,he,?_⟩
 exact pE (s:=Rows.productSaysSpec) Tryz.laidOut rfl (by rw[Tryz.params3];exact of_decide_eq_true (by kernel_rfl)) rfl Tryz.underlying4 rfl Et hw
theorem Mf:Rows.ProductSaysSaid:=
 OpenClaim.holds_of_cond 3 Tryz.f3 rfl rfl rfl rfl rfl rfl rfl ⟨rfl,rfl,rfl,rfl,rfl⟩ rfl rfl rfl rfl rfl (by kernel_rfl) Tryz.func3 (by kernel_rfl)
  (of_decide_eq_true (by kernel_rfl)) (by unfold Func.isWrapper;first | (rw[if_pos (by decide+kernel)];kernel_rfl) | (rw[if_neg (by decide+kernel)];exact⟨rfl,rfl⟩))
  (fun os started H enc _ F=>by rw[OpenClaim.pre_eq_preRow];exact F7 os started H enc F)
theorem Jp (f:FuncId) (fn:Func) (hf:Tryz.pinned.checked.prog.funcNamed "repartee/reparteelaw19.ProductSays" =some f) (hfn:Tryz.pinned.checked.prog.funcs[f]? =some fn): true=Tryz.pinned.checked.prog.looks []/\∀ (j:Nat) t,fn.params[j]? =some t->Tryz.pinned.checked.prog.wantsStandIn t=false:=by
 obtain rfl:f=3:=Option.some.inj ((show Tryz.prog.funcNamed "repartee/reparteelaw19.ProductSays" =some 3 by kernel_rfl).symm.trans hf) |>.symm;obtain rfl:fn=Tryz.f3:=(Option.some.inj (Tryz.func3.symm.trans hfn)).symm;refine⟨by kernel_rfl,fun j t ht=>?_⟩;rw[Tryz.params3]at ht;have h2:t=22\/t=4\/t=23:=by have:=Array.mem_of_getElem? ht;simpa using this
 rcases h2 with rfl | rfl | rfl
 ·exact(show Tryz.prog.wantsStandIn 22=false by kernel_rfl)
 ·exact(show Tryz.prog.wantsStandIn 4=false by kernel_rfl)
 ·exact(show Tryz.prog.wantsStandIn 23=false by kernel_rfl)
theorem psays_card:Rows.ProductSaysCardSaid:=
 Claim7.holds_tied_plain_at .later [] _ _ _ _ Mf (fun _ h=>by cases h) (by kernel_rfl) (fun _ h=>by cases h) productSays_row_tie rfl ⟨rfl,rfl⟩ (by kernel_rfl) rfl Jp (by kernel_rfl)
end
end Go.Proofs.YtalombmiochpmaaGreatDoor
