/- ProductWithin returns true for any small steps, any small steps, any bool, any bytes; the arguments read behind the call as they did. No condition. A tied card: the three listed tables hold at the call what the program's text lays. Printed by wip/gen/drow.py. -/
import Derived.Test.YtalombmiochpmaaGreatDoorCards
import Derived.Test.YtalombmiochpmaaGreatDoorTie
import Derived.Deep.DeepHandedRow
import Derived.Stop.LaidErr
import Derived.Test.YtalombmiochpmaaGreatDoorOR36
set_option maxRecDepth 100000
set_option maxHeartbeats 16000000
open Go.Lib (hid)
namespace Go.Proofs.YtalombmiochpmaaGreatDoor
section
open Go Go.RowKit Go.WideShapes Go.ChangeShapes Go.ChangeAt Go.Deep
section
variable {H:Type} {enc:TypeId×Value→H} {P:Program}
end
section
variable {H:Type} {enc:TypeId×Value→H} {W:World} {base:Nat} {sp:Nat→Bool}
theorem lz {P:Program} {r:Go.Reach} {t e:TypeId} {a:Addr} {len cap:Nat} (ht:P.underlying t=some (.slice e)) (h:Value.okWide P W r base t (.slice (some a) len cap)):a.spot=none/\a.block<W.heap.size:=by
 simp only[Value.okWide,ht,Cell.okWide,Cell.ok]at h;obtain⟨_,_,_,hs,row,cells,Zz,_⟩:=h;refine⟨hs,?_⟩;unfold World.shape? at Zz;cases hh:W.heap[a.block]? with
 | none=>simp[hh]at Zz
 | some o=>exact(Array.getElem?_eq_some_iff.1 hh).1
theorem nt {k:IntKind} {t e:TypeId} {r:Go.Reach} {v:Value} {d:DataW H} {p:List MemPlace} {b0:Nat} (ht:Tryz.prog.underlying t=some (.slice e)) (he:Tryz.prog.underlying e=some (.int k)) (hc:Tryz.prog.cellsOf e=1) (ou:Value.okWide Tryz.prog W r b0 t v) (h:DataW.Trod enc Tryz.prog W 0 (fun _=>true) true t v d p): ∃ (l:List Int),l.length<=maxLen/\(∀ n∈l,(Lit.int k n).wf=true)/\((v=.slice none 0 0/\l=[])\/∃ b off cap,v=.slice (some ⟨b,off,none⟩) l.length cap/\l.length<=cap/\b<W.heap.size/\∀ i x,l[i]? =some x->W.cell? ⟨b,off+i,none⟩=some (.int k x)):=by
 obtain⟨a,len,cap,rfl⟩:=okWide_slice ht ou;obtain⟨fuel,hf⟩:=h;rcases open_ints ht he hc hf with⟨hcs,_⟩ | ⟨a',len',cap',zs,hcs,_,hl,hm,hzs,_,hi,Gh⟩
 ·have:Value.slice a len cap=.slice none 0 0:=by simpa[Value.cells]using hcs
  cases this
  exact⟨[],by simp,by simp,.inl ⟨rfl,rfl⟩⟩
 ·have:Value.slice a len cap=.slice (some a') len' cap':=by simpa[Value.cells]using hcs
  cases this
  obtain⟨hs,hb⟩:=lz ht ou;obtain⟨b,off,spot⟩:=a';have hs':spot=none:=hs;subst hs';rw[if_pos rfl]at hzs;have D7:∀ (o i:Nat),(⟨b,o,none⟩:Addr).add i=⟨b,o+i,none⟩:=fun o i=>by
   unfold Addr.add;split
   ·rename_i h;subst h;rfl
   ·rfl
  have hlen:(zs.take len).length=len:=by rw[List.length_take];omega
  refine⟨zs.take len,by rw[hlen];omega,fun n hn=>Gh n (List.mem_of_mem_take hn),.inr ⟨b,off,cap,by rw[hlen],by rw[hlen];exact hl,hb,fun i x hx=>?_⟩⟩;rw[List.getElem?_take]at hx;split at hx
  ·have hiz:i<zs.length:=(List.getElem?_eq_some_iff.1 hx).1
   have:=hi i hiz;rw[D7,List.getD_eq_getElem?_getD,hx]at this;exact this
  ·cases hx
end
end
section
open Go Go.ChangeShapes Go.WideShapes Go.ChangeAt Go.RowKit
section
variable {H:Type} {enc:TypeId×Value→H} {W:World}
theorem jE {r:Go.Reach} {v:Value} {d:DataW H} {p:List MemPlace} {b0:Nat} (ou:Value.okWide Tryz.prog W r b0 23 v) (h:DataW.Trod enc Tryz.prog W 0 (fun _=>true) true 23 v d p): ∃ l:List Nat,l.length<=maxLen/\(∀ c∈l,c<256)/\aZ bu W v l:=by
 obtain⟨l,hlen,Gh,hl⟩:=nt (e:=5) Tryz.underlying23 Tryz.underlying5 (by kernel_rfl) ou h;refine⟨l.map Int.toNat,by simpa using hlen,fun c hc=>?_,?_⟩
 ·obtain⟨n,hn,rfl⟩:=List.mem_map.1 hc
  have:=jx (Gh n hn);omega
 ·rcases hl with⟨rfl,rfl⟩ | ⟨b,off,cap,rfl,hc,hb,hcell⟩
  ·exact .inl ⟨rfl,rfl⟩
  ·refine .inr ⟨b,off,cap,by rw[List.length_map],hb,by rw[List.length_map];exact hc,fun i x hi=>?_⟩
   rw[List.getElem?_map]at hi;obtain⟨n,hn,rfl⟩:=Option.map_eq_some_iff.1 hi;rw[hcell i n hn];have:=jx (Gh n (List.mem_of_getElem? hn));show some (Value.int .u8 n)=some (Value.int .u8 ((n.toNat:Nat):Int));rw[Int.toNat_of_nonneg this.1]
end
end
section
open Go Go.RowKit Go.Shelf Go.Maps
attribute [local go_sem] encS
theorem aZ.take {α:Type} {enc:α->Value} {w:World} {a:Option Addr} {n cap:Nat} {l:List α} (h:aZ enc w (.slice a n cap) l) (k:Nat) (hk:k<=n):aZ enc w (.slice a k cap) (l.take k):=by
 rcases h with⟨h,rfl⟩ | ⟨b,off,cap',hv,hb,hc,h⟩
 ·cases h
  obtain rfl:k=0:=by omega
  exact .inl ⟨rfl,rfl⟩
 ·cases hv
  have hl:(l.take k).length=k:=by rw[List.length_take];omega
  refine .inr ⟨b,off,cap,by rw[hl],hb,by omega,fun i x hi=>h i x ?_⟩;rw[List.getElem?_take]at hi;split at hi
  ·exact hi
  ·cases hi
theorem aZ.cap {α:Type} {enc:α->Value} {w:World} {a:Option Addr} {n cap:Nat} {l:List α} (h:aZ enc w (.slice a n cap) l):n<=cap:=by
 rcases h with⟨h,rfl⟩ | ⟨b,off,cap',hv,hb,hc,h⟩
 ·cases h;exact Nat.le_refl _
 ·cases hv;omega
end
section
open Go Go.RowKit
theorem kY {d:DF} {s c:Nat} (hc:c<256) (hp:bR d s c=true):cg d s<256/\bR d s (cg d s)=true/\∀ e,e<cg d s->bR d s e=false:=by
 have:∃ c,c<256/\bR d s c=true/\∀ e,e<c->bR d s e=false:=by
  induction c using Nat.strongRecOn with
  | ind c ih=>
   by_cases hx:∃ e,e<c/\bR d s e=true
   ·obtain⟨e,h1,h2⟩:=hx
    exact ih e h1 (by omega) h2
   ·exact⟨c,hc,hp,fun e he=>by
     cases hb:bR d s e with
     | false=>rfl
     | true=>exact absurd ⟨e,he,hb⟩ hx⟩
 obtain⟨c,h1,h2,h3⟩:=this;rw[tH h1 h2 h3];exact⟨h1,h2,h3⟩
theorem iy {d:DF} (h:Rt d) {s:Nat} (hs:s<d.nx.length) (h0:0<bE d s) (hl:bE d s<d.nx.length):cg d s<256/\bR d s (cg d s)=true/\(∀ e,e<cg d s->bR d s e=false):=by have hr:=eW h hs hl;obtain⟨m,hm⟩:∃ m,(bE d s).toNat=m+1:=⟨(bE d s).toNat-1,by omega⟩;rw[hm]at hr;obtain⟨k,hk,wR⟩:=hr;have h1:=hZ h (h.cK hs hk) wR;have h2:=kI h hs hk (by omega);obtain⟨b1,b2,_⟩:=jX h hk;refine kY b1 ?_;unfold bR;rw[b2,beq_iff_eq];omega
theorem iZ {d:DF} (h:Rt d) (hl:bE d 0<d.nx.length):∀ j:Nat,(j:Int)<=bE d 0->(aF d j).1<d.nx.length/\bE d (aF d j).1=bE d 0-j/\(aF d j).2.length=j/\∀ c∈(aF d j).2,c<256
 | 0,_=>⟨h.pos,by simp[aF],rfl,fun c hc=>by cases hc⟩
 | j+1,hj=>by
  obtain⟨a,b,c,e⟩:=iZ h hl j (by omega);obtain⟨x,y,_⟩:=iy h a (by omega) (by omega);refine⟨h.cK a (h.part.cU x),?_,by simp[aF,c],fun z hz=>?_⟩
  ·unfold bR at y
   rw[beq_iff_eq]at y;show bE d (eJ d (aF d j).1 (cls d.cl (cg d (aF d j).1)))=_;omega
  ·rcases List.mem_append.1 hz with hz | hz
   ·exact e z hz
   ·simp at hz;subst hz;exact x
section
variable {α:Type}
def eA (g:Nat->α) (st:List α×List Nat):Prop:=∀ (k t:Nat),st.2[k]? =some t->st.1[t]? =some (g k)
def LX (f:α->Nat->α) (st:List α×List (List Nat)):Prop:=∀ (s:Nat) (r:List Nat),st.2[s]? =some r->∃ p,st.1[s]? =some p/\eA (f p) (st.1,r)
theorem eA.more {g:Nat->α} {t:List α} {r:List Nat} (h:eA g (t,r)) (ys:List α):eA g (t++ys,r):=fun k u hk=>by
 have h1:=h k u hk;show(t++ys)[u]? =_;rw[List.getElem?_append_left (List.getElem?_eq_some_iff.1 h1).1];exact h1
end
section
variable {α β:Type} [DecidableEq α] [DecidableEq β]
theorem k7 {f:Nat} {st fT:List α×List Nat} {q:α} (h:dI f st q=some fT):∃ t ys,fT=(st.1++ys,st.2++ [t])/\(st.1++ys)[t]? =some q:=by
 unfold dI at h;split at h
 ·split at h
  ·cases h
  ·cases h
   exact⟨_,[q],rfl,by simp⟩
 ·rename_i he
  cases h
  have hlt:st.1.idxOf q<st.1.length:=by have:=List.idxOf_le_length (a:=q) (l:=st.1);omega
  refine⟨_,[],by rw[List.append_nil],?_⟩;rw[List.append_nil,List.getElem?_eq_getElem hlt,List.getElem_idxOf hlt]
theorem fI {f:Nat} {g:Nat->α} {todo:List α} :∀ {k:Nat} {st:List α×List Nat},bO f g todo k=some st->(∃ ys,st.1=todo++ys)/\st.2.length=k/\eA g st
 | 0,st,h=>by cases h;exact⟨⟨[],by simp⟩,rfl,fun k t e=>by simp at e⟩
 | k+1,st,h=>by
  rw[bO]at h;obtain⟨s1,h1,h2⟩:=Option.bind_eq_some_iff.1 h;obtain⟨⟨ys,e1⟩,e2,e3⟩:=fI h1;obtain⟨t,zs,e4,e5⟩:=k7 h2;subst e4;refine⟨⟨ys++zs,by simp[e1]⟩,by simp[e2],fun j u hj=>?_⟩;rcases Nat.lt_or_ge j k with hjk | hjk
  ·have eE:s1.2[j]? =some u:=by
    have:(s1.2++ [t])[j]? =some u:=hj;rwa[List.getElem?_append_left (by omega)]at this
   have h3:=e3 j u eE;show(s1.1++zs)[u]? =_;rw[List.getElem?_append_left (List.getElem?_eq_some_iff.1 h3).1];exact h3
  ·have eE:(s1.2++ [t])[j]? =some u:=hj
   have hl:=(List.getElem?_eq_some_iff.1 eE).1;simp[e2]at hl;obtain rfl:j=k:=by omega
   rw[List.getElem?_append_right (by omega),e2,Nat.sub_self]at eE;cases eE;exact e5
theorem ja {fuel K:Nat} {f:α->Nat->α} {p0:α} :∀ (n:Nat) {st:List α×List (List Nat)},cS fuel f K p0 n=some st->st.2.length=min n st.1.length/\LX f st
 | 0,st,h=>by cases h;exact⟨by simp,fun s r e=>by simp at e⟩
 | n+1,st,h=>by
  rw[cS]at h;obtain⟨s1,h1,h2⟩:=Option.bind_eq_some_iff.1 h;obtain⟨i1,i2⟩:=ja n h1;unfold cB at h2;split at h2
  ·rename_i he
   have e:=Option.some.inj h2;subst e;have hl:s1.1.length<=n:=by simpa using he
   exact⟨by omega,i2⟩
  ·rename_i p he
   obtain⟨r,h3,rfl⟩:=Option.map_eq_some_iff.1 h2;have hlt:n<s1.1.length:=(List.getElem?_eq_some_iff.1 he).1;obtain⟨⟨ys,e1⟩,e2,e3⟩:=fI h3;have Qg:s1.1.length<=r.1.length:=by rw[e1];simp
   refine⟨by simp;omega,fun s x hx=>?_⟩;have hx:(s1.2++ [r.2])[s]? =some x:=hx;rcases Nat.lt_or_ge s n with hs | hs
   ·rw[List.getElem?_append_left (by omega)]at hx
    obtain⟨q,g1,g2⟩:=i2 s x hx;refine⟨q,?_,?_⟩
    ·show r.1[s]? =_
     rw[e1,List.getElem?_append_left (by omega)];exact g1
    ·show eA (f q) (r.1,x)
     rw[e1];exact g2.more ys
   ·have hl:=(List.getElem?_eq_some_iff.1 hx).1
    simp at hl;obtain rfl:s=n:=by omega
    rw[List.getElem?_append_right (by omega)]at hx;have:s-s1.2.length=0:=by omega
    rw[this]at hx;cases hx;refine⟨p,?_,e3⟩;show r.1[s]? =_;rw[e1,List.getElem?_append_left (by omega)];exact he
end
theorem nT {α:Type} {P:List α->Prop} (h0:P []) (h1:∀ l x,P l->P (l++ [x])) (l:List α):P l:=by
 have key:∀ r:List α,P r.reverse:=fun r=>by
  induction r with
  | nil=>exact h0
  | cons x r ih=>rw[List.reverse_cons];exact h1 _ _ ih
 have:=key l.reverse;rwa[List.reverse_reverse]at this
theorem sH {d:DF} (rt:Rt d) {c:Nat} (hc:c<256):lb d.cl (cls d.cl c)<256/\cls d.cl (lb d.cl (cls d.cl c))=cls d.cl c:=by have h:=jX rt (rt.part.cU hc);exact⟨h.1,h.2.1⟩
theorem fJ {a:DF} (ha:Rt a) {L:List BS} (hL:∀ s∈a.cl,s∈L) {c e:Nat} (hc:c<256) (he:e<256) (h:cls (partsOf L) c=cls (partsOf L) e):cls a.cl c=cls a.cl e:=by have h1:Alike L c e:=((cw.jy L).gJ hc he).1 h;exact(ha.part.gJ hc he).2 fun s hs=>h1 s (hL s hs)
theorem dy {a b:DF} {op:Int} {fuel:Nat} {d:DF} (h:bK a b op fuel=some d):∃ st,cS fuel (eI a b) (partsOf (a.cl++b.cl)).length (0,0) fuel=some st/\d=⟨partsOf (a.cl++b.cl),st.2.map fun r=>r.map Int.ofNat,st.1.map (bX a b op)⟩:=by unfold bK at h;obtain⟨st,h1,h2⟩:=Option.map_eq_some_iff.1 h;exact⟨st,h1,h2.symm⟩
theorem k8 {a b d:DF} (ha:Rt a) (hb:Rt b) {op:Int} {fuel:Nat} (hf:1<=fuel) (hf2:fuel<=4000) (h:bK a b op fuel=some d) (w:List Nat) (hw:∀ c∈w,c<256): d.mr.getD (aU d 0 w) []=bX a b op (aU a 0 w,aU b 0 w):=by
 have rt:=cL ha hb hf hf2 h;obtain⟨st,h1,hd⟩:=dy h;have I:=lQ ha hb hf h1;have hl:=(ja fuel h1).2;have hn:st.2.length=st.1.length:=by have:=I.len;have:=I.le;omega
 have key:st.1[aU d 0 w]? =some (aU a 0 w,aU b 0 w):=by
  revert hw;refine nT (P:=fun w=>(∀ c∈w,c<256)->st.1[aU d 0 w]? =some (aU a 0 w,aU b 0 w)) (fun _=>I.head) (fun w c ih hw=>?_) w;have ih:=ih fun x hx=>hw x (List.mem_append_left _ hx)
  have hc:c<256:=hw c (by simp);obtain⟨s,hs⟩:∃ s,s=aU d 0 w:=⟨_,rfl⟩;rw[dw,dw,dw, <-hs];rw[<-hs]at ih;have fy:=(List.getElem?_eq_some_iff.1 ih).1;obtain⟨r,hr⟩:∃ r,st.2[s]? =some r:=⟨_,List.getElem?_eq_getElem (by omega)⟩;obtain⟨p,q1,q2⟩:=hl s r hr;rw[ih]at q1;cases q1;have jV:d.cl=partsOf (a.cl++b.cl):=by rw[hd]
  have e1:d.nx.getD s []=r.map Int.ofNat:=by rw[hd];show(st.2.map fun (r:List Nat)=>r.map Int.ofNat).getD s []=_;rw[List.getD_eq_getElem?_getD,List.getElem?_map,hr];rfl
  have hk:cls d.cl c<r.length:=by rw[(I.rows r (List.mem_of_getElem? hr)).1, <-jV];exact rt.part.cU hc
  have e2:eJ d s (cls d.cl c)=r.getD (cls d.cl c) 0:=by unfold eJ;rw[e1,List.getD_eq_getElem?_getD,List.getElem?_map,aI (l:=r) 0 hk];rfl
  have h3:=q2 (cls d.cl c) (r.getD (cls d.cl c) 0) (aI 0 hk);rw[e2];refine(show st.1[r.getD (cls d.cl c) 0]? =some (eI a b (aU a 0 w,aU b 0 w) (cls d.cl c)) from h3).trans ?_;have hq:=sH rt hc;rw[jV]at hq;unfold eI;rw[jV,fJ ha (L:=a.cl++b.cl) (fun s hs=>List.mem_append_left _ hs) hq.1 hc hq.2,fJ hb (L:=a.cl++b.cl) (fun s hs=>List.mem_append_right _ hs) hq.1 hc hq.2]
 rw[List.getD_eq_getElem?_getD,hd];show((st.1.map (bX a b op))[aU ⟨partsOf (a.cl++b.cl),st.2.map fun r=>r.map Int.ofNat,st.1.map (bX a b op)⟩ 0 w]?).getD []=_;rw[<-hd,List.getElem?_map,key];rfl
theorem jb {a b d:DF} (ha:Rt a) (hb:Rt b) {op:Int} {fuel:Nat} (hf:1<=fuel) (hf2:fuel<=4000) (h:bK a b op fuel=some d) (w:List Nat) (hw:∀ c∈w,c<256):aG d w=cr op (aG a w) (aG b w):=by unfold aG acc;rw[k8 ha hb hf hf2 h w hw];unfold bX;show(!(if cr op (acc a (aU a 0 w)) (acc b (aU b 0 w))then [0]else []).isEmpty)=cr op (acc a (aU a 0 w)) (acc b (aU b 0 w));cases cr op (acc a (aU a 0 w)) (acc b (aU b 0 w))<;>rfl
theorem lg {n m:Nat} :∀ (l:List (Nat×Nat)),l.Nodup->(∀ p∈l,p.1<n/\p.2<m)->l.length<=n*m:=fun l hn hl=>by
 have h1:(l.map fun p=>p.1*m+p.2).Nodup:=by
  rw[List.nodup_iff_pairwise_ne,List.pairwise_map];refine(List.nodup_iff_pairwise_ne.1 hn).imp_of_mem fun {p q} hp hq hne e=>hne ?_
  have h2:=hl p hp;have h3:=hl q hq;have hm:0<m:=by omega
  have e1:(p.1*m+p.2)/m=(q.1*m+q.2)/m:=by rw[e]
  have e2:(p.1*m+p.2)%m=(q.1*m+q.2)%m:=by rw[e]
  rw[Nat.mul_comm,Nat.mul_add_div hm,Nat.div_eq_of_lt h2.2,Nat.mul_comm q.1,Nat.mul_add_div hm,Nat.div_eq_of_lt h3.2]at e1;rw[Nat.mul_comm,Nat.mul_add_mod,Nat.mod_eq_of_lt h2.2,Nat.mul_comm q.1,Nat.mul_add_mod,Nat.mod_eq_of_lt h3.2]at e2;exact Prod.ext (by omega) e2
 have h2:=gK (n*m) _ h1 fun t ht=>by
  obtain⟨p,hp,rfl⟩:=List.mem_map.1 ht;have h3:=hl p hp;have:(p.1+1)*m<=n*m:=Nat.mul_le_mul_right _ (by omega);rw[Nat.add_mul,Nat.one_mul]at this;omega
 rwa[List.length_map]at h2
theorem js {α:Type} [DecidableEq α] {f:Nat} {st:List α×List Nat} {q:α} (h:dI f st q=none):q∉st.1/\st.1.length=f:=by
 unfold dI at h;split at h
 ·rename_i he
  split at h
  ·rename_i hf
   exact⟨fun hm=>by have:=List.idxOf_lt_length_of_mem hm;omega,hf⟩
  ·cases h
 ·cases h
theorem dO {α:Type} [DecidableEq α] {fuel:Nat} {P:α->Prop} {g:Nat->α} {todo:List α} (hB:∀ l:List α,l.Nodup->(∀ p∈l,P p)->l.length<=fuel) (hn:todo.Nodup) (hp:∀ p∈todo,P p):∀ k,(∀ j,j<k->P (g j))->∃ st,bO fuel g todo k=some st
 | 0,_=>⟨_,rfl⟩
 | k+1,hg=>by
  obtain⟨st,h⟩:=dO hB hn hp k fun j hj=>hg j (by omega)
  have R:=iO hn (hB _ hn hp) hp k (fun j hj=>hg j (by omega)) h;rw[bO,h];show ∃ s,dI fuel st (g k)=some s;cases e:dI fuel st (g k)with
  | some s=>exact⟨s,rfl⟩
  | none=>
   obtain⟨h1,h2⟩:=js e;have:=hB (g k::st.1) (List.nodup_cons.2 ⟨h1,R.nodup⟩) fun p hp=>by
    rcases List.mem_cons.1 hp with rfl | hp
    ·exact hg k (by omega)
    ·exact R.all p hp
   rw[List.length_cons]at this;omega
theorem dT {α:Type} [DecidableEq α] {fuel K:Nat} {P:α->Prop} {f:α->Nat->α} {p0:α} (hB:∀ l:List α,l.Nodup->(∀ p∈l,P p)->l.length<=fuel) (h0:P p0) (hP:∀ p k,P p->k<K->P (f p k)):∀ n,∃ st,cS fuel f K p0 n=some st
 | 0=>⟨_,rfl⟩
 | n+1=>by
  obtain⟨st,h⟩:=dT hB h0 hP n;have hf:1<=fuel:=hB [p0] (by simp) (by simpa using h0);have I:=lO hf h0 hP n h;rw[cS,h];show ∃ s,cB fuel f K n st=some s;unfold cB;cases e:st.1[n]? with
  | none=>exact⟨_,rfl⟩
  | some p=>
   obtain⟨r,hr⟩:=dO hB I.nodup I.all K fun j hj=>hP p j (I.all p (List.mem_of_getElem? e)) hj
   show ∃ s,(bO fuel (f p) st.1 K).map (fun r=>(r.1,st.2++ [r.2]))=some s;rw[hr];exact⟨_,rfl⟩
theorem jt {a b:DF} (ha:Rt a) (hb:Rt b) (op:Int) {fuel:Nat} (hf:a.nx.length*b.nx.length<=fuel):∃ d,bK a b op fuel=some d:=by obtain⟨st,h⟩:=dT (α:=Nat×Nat) (fuel:=fuel) (K:=(partsOf (a.cl++b.cl)).length) (P:=gu a b) (f:=eI a b) (p0:=(0,0)) (fun l hn hl=>Nat.le_trans (lg l hn hl) hf) ⟨ha.pos,hb.pos⟩ (fun p k hp hk=>mI ha hb p k hp hk) fuel;unfold bK;rw[h];exact⟨_,rfl⟩
theorem cC {a b:DF} (ha:Rt a) (hb:Rt b) {op f:Int} (ho:1<=op/\op<=4) {n:Nat} (hfn:f=n) (hf:a.nx.length*b.nx.length<=n) (hf2:n<=4000):∃ d,aP a b op f=(d,0)/\Rt d/\∀ w:List Nat,(∀ c∈w,c<256)->aG d w=cr op (aG a w) (aG b w):=by
 obtain⟨d,hd⟩:=jt ha hb op hf;have h1:1<=n:=by have:=Nat.mul_le_mul ha.pos hb.pos;omega
 refine⟨d,?_,cL ha hb h1 hf2 hd,fun w hw=>jb ha hb h1 hf2 hd w hw⟩;unfold aP;rw[if_neg (by rw[(aC a).2 ha,(aC b).2 hb];simp),if_neg (by omega),if_neg (by omega),if_neg (by omega)];subst hfn;rw[Int.toNat_natCast,hd]
theorem fh {d:DF} (h:Rt d):Rt (aK d) where
 pos:=h.pos
 le:=h.le
 mr:=by show(d.mr.map _).length=_;rw[List.length_map];exact h.mr
 cl:=h.cl
 len:=h.len
 jM:=h.jM
 ris:=fun s hs=>by
  show jl ((d.mr.map fun m=>if m.isEmpty then [0]else []).getD s [])=true;rw[List.getD_eq_getElem?_getD,List.getElem?_map,aI (l:=d.mr) [] (by rw[h.mr];exact hs)];show jl (if(d.mr.getD s []).isEmpty then [0]else [])=true;split
  ·exact kf
  ·exact pO
theorem ud (d:DF) (s:Nat) (w:List Nat):aU (aK d) s w=aU d s w:=rfl
theorem fp {d:DF} (h:Rt d) (w:List Nat) (hw:∀ c∈w,c<256):aG (aK d) w= !aG d w:=by have hs:=tX h h.pos w hw;unfold aG acc;rw[ud];show(!((d.mr.map fun (m:List Int)=>if m.isEmpty then([0]:List Int)else []).getD (aU d 0 w) []).isEmpty)=_;rw[List.getD_eq_getElem?_getD,List.getElem?_map,aI (l:=d.mr) [] (by rw[h.mr];exact hs)];show(!(if(d.mr.getD (aU d 0 w) []).isEmpty then [0]else []:List Int).isEmpty)=_;cases (d.mr.getD (aU d 0 w) []).isEmpty<;>rfl
end
section
open Go Go.RowKit Go.Shelf Go.Maps
theorem jF (v bv:Value) (d:DF) (rt:Rt d) (sm:Sm d) (b:List Nat) (hb:∀ c∈b,c<256) (Dw:b.length<=1000000) (w:World) (h:aT w v d) (lV:aZ bu w bv b): Calls Tryz.prog 11 #[v,bv] w fun e w'=>e=.returned (.bool (aG d b))/\Below w.heap.size w w':=by
 obtain⟨l,hl⟩:∃ l,l=d.mr.getD (aU d 0 b) []:=⟨_,rfl⟩;have CM:Hid (∀ W,Below w.heap.size w W->Calls Tryz.prog 28 #[v,bv] W fun e w'=>∃ u,e=.returned (.tuple #[u,.int .i64 0])/\w'.ownsRow W.heap.size 3 1 u l.length (l.map aS)/\Below W.heap.size W w'):=hid fun W hW=>by
  rw[hl];exact iY v bv d rt sm b hb Dw W (h.below hW) (lV.below hW)
 have ha:aG d b=decide (0<(l.length:Int)):=by unfold aG acc;rw[<-hl];cases l<;>simp
 rw[ha];obtain⟨n,hn⟩:∃ n,n=l.length:=⟨_,rfl⟩;rw[<-hn];have HN:=hid hn;obtain⟨v0,v1,v2,rfl,h0,h1,h2⟩:=h;obtain⟨a0,c0,rfl⟩:=h0.1.form;obtain⟨a1,c1,rfl⟩:=h1.form;obtain⟨a2,c2,rfl⟩:=h2.form;generalize d.cl.length=n0 at*;generalize d.nx.length=n1 at*;generalize d.mr.length=n2 at*;obtain⟨ba,bc,rfl⟩:=lV.form;generalize b.length=bn at*;clear h0 h1 h2 lV hb ha hl hn rt sm;go_enter Tryz.func11,Tryz.ntmps11;go_upto_region 1 with fail
 refine aw ?_;intro V hV;have BD:Hid (ah V w.heap.size #[.slice a0 n0 c0,.slice a1 n1 c1,.slice a2 n2 c2] 28):=hid (by rw[hV];exact ah.new w _ _);have XV:Hid (Below w.heap.size w V):=hid (by rw[hV];exact((Ext.refl w).alloc _).below);clear hV;obtain⟨k0,k1,k2⟩:=ay.dB BD.out;go_wp2_with fail
 refine(CM.out V XV.out).mono ?_;rintro e w1 ⟨u,rfl,ho,hx⟩;obtain⟨ua,uc,rfl⟩:=ownsRow_form ho;rw[<-HN.out];have X1:=hid (XV.out.trans (hx.mono XV.out.size));clear ho hx k0 k1 k2;by_cases h0:0<n
 ·have h1:(0:Int)<n:=by omega
  go_wp2;go_ret;exact⟨by simp;omega,X1.out⟩
 ·have h1:¬ (0:Int)<n:=by omega
  go_wp2;go_ret;exact⟨by simp;omega,X1.out⟩
end
section
open Go Go.RowKit
theorem ct {d:DF} (h:Rt d):∀ (w:List Nat) (s:Nat),s<d.nx.length->(∀ c∈w,c<256)->acc d (aU d s w)=true->Reach d w.length s
 | [],_,_,_,ha=>ha
 | c::w,s,hs,hw,ha=>by
  have hk:=h.part.cU (hw c (List.mem_cons_self ..));exact⟨_,hk,ct h w _ (h.cK hs hk) (fun x hx=>hw x (List.mem_cons_of_mem _ hx)) ha⟩
theorem fK (d:DF):∀ j,aU d 0 (aF d j).2=(aF d j).1
 | 0=>rfl
 | j+1=>by
  show aU d 0 ((aF d j).2++ [cg d (aF d j).1])=_;rw[dw,fK d j];rfl
theorem bV (d:DF):∀ j,(aF d j).2.length=j
 | 0=>rfl
 | j+1=>by
  show((aF d j).2++ [cg d (aF d j).1]).length=_;rw[List.length_append,bV d j];rfl
theorem eB (d:DF) (j:Nat):∀ m,j<=m->(aF d m).2.take j=(aF d j).2
 | 0,hj=>by
  obtain rfl:j=0:=by omega
  rfl
 | m+1,hj=>by
  show((aF d m).2++ [cg d (aF d m).1]).take j=_;by_cases e:j=m+1
  ·subst e
   rw[List.take_of_length_le (by rw[List.length_append,bV];exact Nat.le_refl _)];rfl
  ·rw[List.take_append_of_le_length (by rw[bV];omega)]
   exact eB d j m (by omega)
theorem qD (d:DF) {j m:Nat} (hj:j<m):(aF d m).2[j]? =some (cg d (aF d j).1):=by
 have h1:=eB d (j+1) m (by omega);have h2:((aF d m).2.take (j+1))[j]? =(aF d m).2[j]? :=by rw[List.getElem?_take,if_pos (by omega)]
 rw[<-h2,h1];show((aF d j).2++ [cg d (aF d j).1])[j]? =_;rw[List.getElem?_append_right (by rw[bV];exact Nat.le_refl _),bV,Nat.sub_self];rfl
def zS (d:DF) (m s:Nat):Prop:=Reach d m s/\∀ j,j<m->¬Reach d j s
theorem ue {d:DF} {s:Nat} :∀ m,Reach d m s->∃ m0,zS d m0 s:=fun m=>by
 induction m using Nat.strongRecOn with
 | ind m ih=>
  intro hr;by_cases e:∃ j,j<m/\Reach d j s
  ·obtain⟨j,h1,h2⟩:=e;exact ih j h1 h2
  ·exact⟨m,hr,fun j hj wR=>e ⟨j,hj,wR⟩⟩
theorem iz {d:DF} (h:Rt d):∀ (m s:Nat),s<d.nx.length->zS d m s->∃ l:List Nat,l.length=m+1/\l.Nodup/\∀ t∈l,t<d.nx.length/\∃ j,j<=m/\zS d j t
 | 0,s,hs,hm=>⟨[s],rfl,by simp,fun t ht=>by
  obtain rfl:=List.mem_singleton.1 ht
  exact⟨hs,0,Nat.le_refl _,hm⟩⟩
 | m+1,s,hs,hm=>by
  obtain⟨k,hk,hr⟩:=hm.1;obtain⟨l,h1,h2,h3⟩:=iz h m _ (h.cK hs hk) ⟨hr,fun j hj wR=>hm.2 (j+1) (by omega) ⟨k,hk,wR⟩⟩;refine⟨s::l,by rw[List.length_cons,h1],List.nodup_cons.2 ⟨fun pC=>?_,h2⟩,fun t ht=>?_⟩
  ·obtain⟨_,j,hj,eE⟩:=h3 s pC
   exact hm.2 j (by omega) eE.1
  ·rcases List.mem_cons.1 ht with rfl | ht
   ·exact⟨hs,m+1,Nat.le_refl _,hm⟩
   ·obtain⟨g1,j,g2,g3⟩:=h3 t ht
    exact⟨g1,j,by omega,g3⟩
theorem nh {d:DF} (h:Rt d) {s m:Nat} (hs:s<d.nx.length) (hr:Reach d m s):bE d s<d.nx.length:=by
 obtain⟨m0,hm⟩:=ue m hr;obtain⟨l,h1,h2,h3⟩:=iz h m0 s hs hm;have h4:=gK _ l h2 fun t ht=>(h3 t ht).1
 have h5:=hZ h hs hm.1;omega
theorem fL {d:DF} (h:Rt d) {s:List Nat} (hs:aJ d=some s):bE d 0<d.nx.length/\s=(aF d (bE d 0).toNat).2:=by
 unfold aJ at hs;split at hs
 ·cases hs
 ·have:=(jm h h.pos).2
  exact⟨by omega,(Option.some.inj hs).symm⟩
theorem eU {d:DF} (h:Rt d) {s:List Nat} (hs:aJ d=some s):aG d s=true/\(∀ c∈s,c<256)/\s.length<d.nx.length:=by obtain⟨h1,rfl⟩:=fL h hs;have h0:=(jm h h.pos).1;obtain⟨a1,a2,a3,a4⟩:=iZ h h1 (bE d 0).toNat (by omega);refine⟨?_,a4,by rw[a3];omega⟩;unfold aG;rw[fK];have h2:=eW h a1 (by omega);rw[show(bE d (aF d (bE d 0).toNat).1).toNat=0 by omega]at h2;exact h2
theorem jD {d:DF} (h:Rt d) {s w:List Nat} (hs:aJ d=some s) (hw:∀ c∈w,c<256) (ha:aG d w=true):s.length<=w.length:=by obtain⟨h1,rfl⟩:=fL h hs;have h2:=hZ h h.pos (ct h w 0 h.pos hw ha);rw[bV];omega
theorem eC {d:DF} (h:Rt d) (hs:aJ d=none) (w:List Nat) (hw:∀ c∈w,c<256):aG d w=false:=by
 cases e:aG d w with
 | false=>rfl
 | true=>
  exfalso;have h2:=ct h w 0 h.pos hw e;unfold aJ at hs;split at hs
  ·rename_i hf
   have:=nh h h.pos h2;omega
  ·cases hs
theorem nr {d:DF} (h:Rt d) {s w:List Nat} (hs:aJ d=some s) (hw:∀ c∈w,c<256) (ha:aG d w=true) (hl:w.length=s.length) {j x y:Nat} (ht:w.take j=s.take j) (hx:w[j]? =some x) (hy:s[j]? =some y):y<=x:=by
 obtain⟨h1,rfl⟩:=fL h hs;have h0:=(jm h h.pos).1;have hj:j<(bE d 0).toNat:=by have:=(List.getElem?_eq_some_iff.1 hy).1;rwa[bV]at this
 rw[qD d hj]at hy;cases hy;rw[eB d j _ (by omega)]at ht;obtain⟨a1,a2,a3,a4⟩:=iZ h h1 j (by omega);have xL:x<256:=hw x (List.mem_of_getElem? hx);obtain⟨b1,b2,b3⟩:=iy h a1 (by omega) (by omega);refine Nat.le_of_not_lt fun hlt=>?_
 have hn:=b3 x hlt
 -- but the word goes on to a state with marks
 have hk:=h.part.cU xL;have hwd:w=w.take j++x::w.drop (j+1):=by
  have eE:=(List.getElem?_eq_some_iff.1 hx);obtain⟨hj3,hj4⟩:=eE
  conv=>lhs;rw[<-List.take_append_drop j w,List.drop_eq_getElem_cons hj3,hj4]
 have hr:acc d (aU d (eJ d (aF d j).1 (cls d.cl x)) (w.drop (j+1)))=true:=by have h5:=ha;unfold aG at h5;rw[hwd,ht]at h5;unfold aU at h5;rw[List.foldl_append]at h5;have h6:=fK d j;unfold aU at h6;rw[h6]at h5;exact h5
 have h7:=hZ h (h.cK a1 hk) (ct h _ _ (h.cK a1 hk) (fun c hc=>hw c (List.mem_of_mem_drop hc)) hr);rw[List.length_drop,hl,bV]at h7;have h8:=kI h a1 hk (by omega);unfold bR at hn;rw[beq_eq_false_iff_ne]at hn;omega
structure cY (P:List Nat->Bool) (s:List Nat):Prop where
 ok:P s=true
 jN:∀ c∈s,c<256
 short:∀ w:List Nat,(∀ c∈w,c<256)->P w=true->s.length<=w.length
 lex:∀ w:List Nat,(∀ c∈w,c<256)->P w=true->w.length=s.length->∀ j x y,w.take j=s.take j->w[j]? =some x->s[j]? =some y->y<=x
theorem rA {d:DF} (h:Rt d) {s:List Nat} (hs:aJ d=some s):cY (aG d) s/\s.length<d.nx.length:=
 ⟨⟨(eU h hs).1,(eU h hs).2.1,fun _ hw ha=>jD h hs hw ha,fun _ hw ha hl _ _ _ ht hx hy=>nr h hs hw ha hl ht hx hy⟩,(eU h hs).2.2⟩
theorem cY.congr {P Q:List Nat->Bool} {s:List Nat} (h:cY P s) (e:∀ w:List Nat,(∀ c∈w,c<256)->P w=Q w):cY Q s:=
 ⟨by rw[<-e s h.jN];exact h.ok,h.jN,fun w hw ha=>h.short w hw (by rw[e w hw];exact ha),fun w hw ha=>h.lex w hw (by rw[e w hw];exact ha)⟩
theorem vB {d:DF} (h:Rt d):(bH d=([],false,0)/\(aJ d).isSome=false/\∀ w:List Nat,(∀ c∈w,c<256)->aG d w=false)\/(∃ s,bH d=(s,true,0)/\(aJ d).isSome=true/\cY (aG d) s/\s.length<d.nx.length):=by
 unfold bH;rw[if_pos ((aC d).2 h)];cases e:aJ d with
 | none=>exact .inl ⟨rfl,rfl,eC h e⟩
 | some s=>exact .inr ⟨s,rfl,rfl,rA h e⟩
def gy (P:List Nat->Bool) (s:List Nat) (is:Bool):Prop:=(is=true/\s=[]/\∀ w:List Nat,(∀ c∈w,c<256)->P w=false)\/(is=false/\cY P s)
theorem zT {a b d:DF} {op f:Int} (h:aP a b op f=(d,0)) (rt:Rt d) (hd:∀ w:List Nat,(∀ c∈w,c<256)->aG d w=cr op (aG a w) (aG b w)):∃ s is,aX a b op f=(s,is,0)/\gy (fun w=>cr op (aG a w) (aG b w)) s is:=by
 unfold aX;rw[h,if_pos rfl];show ∃ s is,((aJ d).getD [], !(aJ d).isSome,(0:Int))=(s,is,0)/\_;cases e:aJ d with
 | none=>exact⟨[],true,rfl,.inl ⟨rfl,rfl,fun w hw=>(hd w hw).symm.trans (eC rt e w hw)⟩⟩
 | some s=>exact⟨s,false,rfl,.inr ⟨rfl,(rA rt e).1.congr hd⟩⟩
theorem oh {a b:DF} (ha:Rt a) (hb:Rt b) {op f:Int} (ho:1<=op/\op<=4) {n:Nat} (hfn:f=n) (hf:a.nx.length*b.nx.length<=n) (hf2:n<=4000):∃ s is,aX a b op f=(s,is,0)/\gy (fun w=>cr op (aG a w) (aG b w)) s is:=by obtain⟨d,h1,h2,h3⟩:=cC ha hb ho hfn hf hf2;exact zT h1 h2 h3
theorem gy.yes {P:List Nat->Bool} {s:List Nat} {is:Bool} (h:gy P s is) (hP:∀ w:List Nat,(∀ c∈w,c<256)->P w=false):is=true/\s=[]:=by
 rcases h with⟨h1,h2,_⟩ | ⟨_,h2⟩
 ·exact⟨h1,h2⟩
 ·have:=h2.ok
  rw[hP s h2.jN]at this;cases this
theorem gy.no {P:List Nat->Bool} {s w:List Nat} {is:Bool} (h:gy P s is) (hw:∀ c∈w,c<256) (hP:P w=true):is=false/\cY P s:=by
 rcases h with⟨_,_,h3⟩ | h
 ·rw[h3 w hw]at hP;cases hP
 ·exact h
theorem cY.nil {P:List Nat->Bool} {s:List Nat} (h:cY P s) (hP:P []=true):s=[]:=by have:=h.short [] (fun _ hc=>by cases hc) hP;exact List.eq_nil_of_length_eq_zero (by simpa using this)
theorem DT (a b:Bool):cr 3 a b=(a&& !b):=rfl
theorem wK (a b:Bool):cr 4 a b=(a != b):=rfl
theorem Yc {P Q:List Nat->Bool} {s t u:List Nat} {i o m:Bool} (h1:gy (fun w=>cr 3 (P w) (Q w)) s i) (h2:gy (fun w=>cr 3 (Q w) (P w)) t o) (h3:gy (fun w=>cr 4 (P w) (Q w)) u m):m=(i&&o):=by
 cases i with
 | true=>
  cases o with
  | true=>
   rcases h1 with⟨_,_,a⟩ | ⟨e,_⟩
   ·rcases h2 with⟨_,_,b⟩ | ⟨e,_⟩
    ·refine(h3.yes fun w hw=>?_).1
     have x:=a w hw;have y:=b w hw;simp only[DT,wK]at x y ⊢;revert x y;cases P w<;>cases Q w<;>simp
    ·cases e
   ·cases e
  | false=>
   rcases h2 with⟨e,_⟩ | ⟨_,b⟩
   ·cases e
   ·refine(h3.no b.jN ?_).1
    have y:=b.ok;simp only[DT,wK]at y ⊢;revert y;cases P t<;>cases Q t<;>simp
 | false=>
  rcases h1 with⟨e,_⟩ | ⟨_,b⟩
  ·cases e
  ·refine(h3.no b.jN ?_).1
   have y:=b.ok;simp only[DT,wK]at y ⊢;revert y;cases P s<;>cases Q s<;>simp
end
section
open Go Go.RowKit Go.Shelf Go.Maps
attribute [local go_sem] encS
theorem nW (v:Value) (d:DF) (sm:Sm d) (w:World) (h:aT w v d): Calls Tryz.prog 25 #[v] w fun e w'=>e=.returned (.tuple #[.bool (d.right&& !(aJ d).isSome),.int .i64 (bH d).2.2])/\Below w.heap.size w w':=by
 have CF:Hid (∀ W,Below w.heap.size w W->Calls Tryz.prog 21 #[v] W fun e w'=>∃ u,e=.returned (.tuple #[u,.bool (bH d).2.1,.int .i64 (bH d).2.2])/\w'.ownsRow W.heap.size 5 1 u (bH d).1.length ((bH d).1.map bu)/\Below W.heap.size W w'):=fun W hW=>ib v d sm W (h.below hW)
 obtain⟨v0,v1,v2,rfl,h0,h1,h2⟩:=h;clear h0 h1 h2 sm;have hE:(d.right=true/\(bH d).2.1=(aJ d).isSome/\(bH d).2.2=0)\/(d.right=false/\(bH d).2.1=false/\(bH d).2.2=182):=by
  unfold bH;cases d.right
  ·exact .inr ⟨rfl,rfl,rfl⟩
  ·exact .inl ⟨rfl,rfl,rfl⟩
 generalize hl:(bH d).1=fl at*;generalize (bH d).2.1=fb at*;generalize (bH d).2.2=fe at*;generalize (aJ d).isSome=fs at*;generalize d.right=r at*;clear hl;go_enter Tryz.func25,Tryz.ntmps25;go_wp2_with fail
 refine az ?_;intro V hV;have X1:Hid (Below w.heap.size w V):=by rw[hV];exact((Ext.refl w).alloc _).below
 clear hV;refine(CF.out V X1.out).mono ?_;rintro e w2 ⟨u,rfl,_,hx⟩;have X2:=hid (X1.out.trans (hx.mono X1.out.size));clear hx X1 CF;rcases hE with⟨rfl,rfl,rfl⟩ | ⟨rfl,rfl,rfl⟩
 ·cases fb
  ·go_wp2
   exact bodyPost_ret (v:=.tuple #[.bool true,.int .i64 0]) (by simp[results,Tryz.results25,go_sem]) rfl ⟨rfl,X2.out⟩
  ·go_wp2
   exact bodyPost_ret (v:=.tuple #[.bool false,.int .i64 0]) (by simp[results,Tryz.results25,go_sem]) rfl ⟨rfl,X2.out⟩
 ·go_wp2
  exact bodyPost_ret (v:=.tuple #[.bool false,.int .i64 182]) (by simp[results,Tryz.results25,go_sem]) rfl ⟨rfl,X2.out⟩
end
section
open Go Go.RowKit Go.Shelf Go.Maps
def lh (p q:DF) (few:Bool) (n0 n1 n2 m0 m1 m2:Nat) (W:World) (e:Ending) (w':World):Prop:=
 ∃ a0 c0 a1 c1 a2 c2 b0 d0 b1 d1 b2 d2,e=.returned (.tuple #[.agg #[.slice a0 n0 c0,.slice a1 n1 c1,.slice a2 n2 c2],.agg #[.slice b0 m0 d0,.slice b1 m1 d1,.slice b2 m2 d2],.bool few,.bool true])/\
  ay W.heap.size w' (.agg #[.slice a0 n0 c0,.slice a1 n1 c1,.slice a2 n2 c2]) p/\ay W.heap.size w' (.agg #[.slice b0 m0 d0,.slice b1 m1 d1,.slice b2 m2 d2]) q/\Below W.heap.size W w'
theorem fY {p q d:DF} {op:Nat} {f code:Int} (sp:Sm p) (sq:Sm q) (he:aP p q op f=(d,code)) (W:World) (v v':Value) (h:aT W v p) (h':aT W v' q): Calls Tryz.prog 12 #[v,v',.int .u8 op,.int .i64 f] W (fW d.cl.length d.nx.length d.mr.length code d W):=(kE v v' p q sp sq op f W h h').mono fun e w' ⟨r,hr,hd,hx⟩=>by
 rw[he]at hr hd;obtain⟨a0,c0,a1,c1,a2,c2,rfl⟩:=hd.form;exact⟨a0,c0,a1,c1,a2,c2,hr,hd,hx⟩
theorem sI {p:DF} (rt:Rt p) (sp:Sm p) (W:World) (v:Value) (h:aT W v p): Calls Tryz.prog 14 #[v] W (fW p.cl.length p.nx.length p.mr.length 0 (aK p) W):=(mN v p sp W h).mono fun e w' ⟨r,hr,hd,hx⟩=>by
 rw[if_pos ((aC p).2 rt)]at hr hd;obtain⟨a0,c0,a1,c1,a2,c2,e2⟩:=hd.form;have hl:(aK p).mr.length=p.mr.length:=List.length_map ..;rw[hl]at e2;exact⟨a0,c0,a1,c1,a2,c2,by rw[hr,e2];rfl,by rw[e2]at hd;exact hd,hx⟩
def mi (b0 b1:Nat) (c0 c1:Array Value) (A B:World):Prop:=aa (fun x=>x≠b0/\x≠b1) A B/\(ah A b0 c0 28->ah B b0 c0 28)/\(ah A b1 c1 28->ah B b1 c1 28)/\(ZB A b0->ZB B b0)/\(ZB A b1->ZB B b1)
theorem mi.trans {b0 b1:Nat} {c0 c1:Array Value} {A B C:World} (h:mi b0 b1 c0 c1 A B) (k:mi b0 b1 c0 c1 B C):mi b0 b1 c0 c1 A C:=⟨h.1.tr k.1,fun x=>k.2.1 (h.2.1 x),fun x=>k.2.2.1 (h.2.2.1 x),fun x=>k.2.2.2.1 (h.2.2.2.1 x),fun x=>k.2.2.2.2 (h.2.2.2.2 x)⟩
theorem mi.drew {b0 b1:Nat} {c0 c1:Array Value} {A:World} :mi b0 b1 c0 c1 A A.drew:=⟨(aa.refl _ _).drew,fun a=>a,fun a=>a,fun a=>a,fun a=>a⟩
def qE (b0 b1:Nat) (c0 c1:Array Value):aH (mi b0 b1 c0 c1):=⟨fun u=>u=undef,fun _ W=>ah W b0 c0 28,undef,rfl,fun _ _ _ hm _ h=>hm.2.1 h⟩
def qF (b0 b1:Nat) (c0 c1:Array Value):aH (mi b0 b1 c0 c1):=⟨fun u=>u=undef,fun _ W=>ah W b1 c1 28,undef,rfl,fun _ _ _ hm _ h=>hm.2.2.1 h⟩
theorem fM {W:World} {b:Nat} {u0 u1 u2:Value} (h:ah W b #[u0,u1,u2] 28) (x0 x1 x2:Value):ah (((W.setCell ⟨b,0,none⟩ x0).setCell ⟨b,1,none⟩ x1).setCell ⟨b,2,none⟩ x2) b #[x0,x1,x2] 28/\aa (· ≠b) W (((W.setCell ⟨b,0,none⟩ x0).setCell ⟨b,1,none⟩ x1).setCell ⟨b,2,none⟩ x2):=
 ⟨((h.set 0 _).set 1 _).set 2 _,(((aa.refl _ _).setCell (p:=⟨b,0,none⟩) (fun h=>h rfl) _).setCell (p:=⟨b,1,none⟩) (fun h=>h rfl) _).setCell (p:=⟨b,2,none⟩) (fun h=>h rfl) _⟩
theorem nV (v v':Value) (x y:List (Nat×Nat×Nat)) (xL:x.length<=1000000000000000) (LY:y.length<=1000000000000000) (cG:Bool) {p q:DF} {cp cq:Int} (hp:jO (T1 x cG) 40=(p,cp)) (hq:jO (T1 y cG) 40=(q,cq)) (yh:cp=0\/cp=181) (hcq:cq=0\/cq=181) {n0 n1 n2 m0 m1 m2:Nat} (h0:n0=p.cl.length) (h1:n1=p.nx.length) (h2:n2=p.mr.length) (h3:m0=q.cl.length) (h4:m1=q.nx.length) (h5:m2=q.mr.length) (w:World) (h:cJ w v x) (h':cJ w v' y) (hT:∀ W,Below w.heap.size w W->gL W): Calls Tryz.prog 10 #[v,v',.bool cG] w (lh p q (cp != 181&&cq != 181) n0 n1 n2 m0 m1 m2 w):=by
 have CM:Hid (∀ W,Below w.heap.size w W->Calls Tryz.prog 24 #[v] W fun e w'=>∃ u,e=.returned u/\aL (· <w'.heap.size) w' u (dc x)/\Below W.heap.size W w'):=hid fun W hW=>eO v x xL W (h.below hW)
 have CN:Hid (∀ W,Below w.heap.size w W->Calls Tryz.prog 24 #[v'] W fun e w'=>∃ u,e=.returned u/\aL (· <w'.heap.size) w' u (dc y)/\Below W.heap.size W w'):=hid fun W hW=>eO v' y LY W (h'.below hW)
 have TT:Hid (∀ A,Below w.heap.size w A->∀ V,Below A.heap.size A V->gL V):=hid fun A hA V hV=>hT V (hA.trans (hV.mono hA.size))
 have CA:Hid (∀ W u,Below w.heap.size w W->aL (· <W.heap.size) W u (dc x)->Calls Tryz.prog 23 #[u,.bool cG,.int .i64 40] W (fW n0 n1 n2 cp p W)):=hid fun W u hW hu=>eQ u x cG hp h0 h1 h2 W hu (TT.out W hW)
 have CB:Hid (∀ W u,Below w.heap.size w W->aL (· <W.heap.size) W u (dc y)->Calls Tryz.prog 23 #[u,.bool cG,.int .i64 40] W (fW m0 m1 m2 cq q W)):=hid fun W u hW hu=>eQ u y cG hq h3 h4 h5 W hu (TT.out W hW)
 obtain⟨va,vc,rfl⟩:=h.form;obtain⟨wa,wc,rfl⟩:=h'.form;generalize x.length=xn at*;generalize y.length=yn at*;clear h h' hT hp hq h0 h1 h2 h3 h4 h5 TT;go_enter Tryz.func10,Tryz.ntmps10;go_upto_region 1 with fail
 refine aw ?_;intro V0 hV;have BZ:Hid (ah V0 w.heap.size #[.slice none 0 0,.slice none 0 0,.slice none 0 0] 28):=hid (by rw[hV];exact(ah.new w _ _).alloc _);have BY:Hid (ah V0 (w.heap.size+1) #[.slice none 0 0,.slice none 0 0,.slice none 0 0] 28):=hid (by rw[hV];exact(ah.new (w.alloc _) _ _).at (by simp));have X0:Hid (Below w.heap.size w V0):=hid (by rw[hV];exact(((Ext.refl w).alloc _).alloc _).below);clear hV;go_wp2_with fail
 refine(CM.out V0 X0.out).mono ?_;rintro e w1 ⟨u,rfl,ht,hx⟩;have X1:=hid (X0.out.trans (hx.mono X0.out.size));have Y1:Hid (Below V0.heap.size V0 w1):=hid hx;have HT:=hid ht;obtain⟨tp,tc,rfl⟩:=ht.form;clear ht hx CM X0;go_wp2_with fail
 refine(CA.out w1 _ X1.out HT.out).mono ?_;rintro e w2 ⟨a0,c0,a1,c1,a2,c2,rfl,ho,hx⟩;have OP:=hid ho;have X2:=hid (X1.out.trans (hx.mono X1.out.size));have Y2:=hid (Y1.out.trans (hx.mono Y1.out.size));have LW:Hid (w1.heap.size<=w2.heap.size):=hid hx.size;have L1:Hid (w.heap.size+1<w1.heap.size):=hid (Nat.lt_of_lt_of_le BY.out.lt Y1.out.size);clear ho hx CA HT Y1 X1;go_upto_region 2 with fail
 refine aw ?_;intro V1 hV;have BA:Hid (ah V1 w2.heap.size #[.slice a0 n0 c0,.slice a1 n1 c1,.slice a2 n2 c2] 28):=hid (by rw[hV];exact ah.new w2 _ _);have XV:Hid (Below w2.heap.size w2 V1):=hid (by rw[hV];exact((Ext.refl w2).alloc _).below);clear hV;have UB:=hid (OP.out.below XV.out);have X3:=hid (X2.out.trans (XV.out.mono X2.out.size));have Y3:=hid (Y2.out.trans (XV.out.mono Y2.out.size));clear OP X2 Y2 XV;go_wp2_with fail
 refine(CN.out V1 X3.out).mono ?_;rintro e w3 ⟨u,rfl,ht,hx⟩;have X4:=hid (X3.out.trans (hx.mono X3.out.size));have Z1:Hid (Below V1.heap.size V1 w3):=hid hx;have HT:=hid ht;obtain⟨tq,td,rfl⟩:=ht.form;clear ht hx CN X3;go_wp2_with fail
 refine(CB.out w3 _ X4.out HT.out).mono ?_;rintro e w4 ⟨b0,d0,b1,d1,b2,d2,rfl,ho,hx⟩;have OQ:=hid ho;have X5:=hid (X4.out.trans (hx.mono X4.out.size));have Z2:=hid (Z1.out.trans (hx.mono Z1.out.size));have L2:Hid (w.heap.size+1<w3.heap.size):=hid (Nat.lt_of_lt_of_le (Nat.lt_of_lt_of_le BY.out.lt Y3.out.size) Z1.out.size);clear ho hx CB HT Z1 X4;go_upto_region 3 with fail
 refine aw ?_;intro V2 hV;have BB:Hid (ah V2 w4.heap.size #[.slice b0 m0 d0,.slice b1 m1 d1,.slice b2 m2 d2] 28):=hid (by rw[hV];exact ah.new w4 _ _);have XV:Hid (Below w4.heap.size w4 V2):=hid (by rw[hV];exact((Ext.refl w4).alloc _).below);clear hV;have Z3:=hid (Z2.out.trans (XV.out.mono Z2.out.size));have OQ2:=hid (OQ.out.below XV.out);have OP3:=hid (UB.out.below Z3.out);have BA2:=hid (BA.out.below Z3.out BA.out.lt);have X6:=hid (X5.out.trans (XV.out.mono X5.out.size));have Y4:=hid (Y3.out.trans (Z3.out.mono Y3.out.size));have PH:=hid (BZ.out.below Y4.out BZ.out.lt);have BY2:=hid (BY.out.below Y4.out BY.out.lt);have L3:Hid (w2.heap.size<w4.heap.size):=hid (Nat.lt_of_lt_of_le BA.out.lt Z2.out.size);have L4:Hid (w1.heap.size<=w2.heap.size):=hid LW.out;clear UB OQ BA Z2 Z3 X5 Y3 Y4 XV BZ BY;have qK:=L1.out;have hl2:=L2.out;have Fg:=L3.out;have hl4:=L4.out;have hl5:=BB.out.lt;obtain⟨k0,k1,k2⟩:=ay.dB BA2.out;obtain⟨k3,k4,k5⟩:=ay.dB BB.out;rcases yh with rfl | rfl<;>rcases hcq with rfl | rfl
 all_goals (
  go_upto_region 4 with fail
  refine aY (mi w.heap.size (w.heap.size+1) #[.slice a0 n0 c0,.slice a1 n1 c1,.slice a2 n2 c2] #[.slice b0 m0 d0,.slice b1 m1 d1,.slice b2 m2 d2]) mi.drew (fun _ _ _ h k=>h.trans k) (by kernel_rfl) 14 [0,0,0,0,8,24,56,56,248,504,1016,57,2107,6207,16383] (fun i=>i==11 || i==12) (by kernel_rfl) (fun i=>if i=11 then qE _ _ _ _ else if i=12 then qF _ _ _ _ else aH.any _) ?_;intro C hC hne;have HC:=hid hC;have kc:∀ {b o:Nat} {u:Value},b≠w.heap.size->b≠w.heap.size+1->b<V2.heap.size->V2.cell? ⟨b,o,none⟩=some u->∀ W: {W//C W},W.1.cell? ⟨b,o,none⟩=some u:=fun {b o u} h1 h2 h3 h W=>(((hC W.1).1 W.2).1.cell (p:=⟨b,o,none⟩) ⟨h1,h2⟩).trans h
  replace k0:=kc (by omega) (by omega) (by omega) k0;replace k1:=kc (by omega) (by omega) (by omega) k1;replace k2:=kc (by omega) (by omega) (by omega) k2;replace k3:=kc (by omega) (by omega) (by omega) k3;replace k4:=kc (by omega) (by omega) (by omega) k4;replace k5:=kc (by omega) (by omega) (by omega) k5;clear hC kc
  repeat (refine ae (fun K hK=>?_);first | (refine aR rfl ?_;try go_simp;refine hK _ _ ?_;clear hK K) | (refine aO rfl rfl ?_;unfold ai;go_simp;refine hK _ _ ?_;clear hK K))
  refine ae (fun K hK=>?_);refine bg rfl rfl (qE _ _ _ _) rfl (fun W hW hN=>?_) (fun v hv=>?_)
  ·have hM:=(HC.out W).1 hW
   obtain⟨u0,u1,u2,hb⟩:ZB W (w.heap.size):=hM.2.2.2.1 ⟨_,_,_,PH.out⟩;obtain⟨r1,r2⟩:=fM hb (.slice a0 n0 c0) (.slice a1 n1 c1) (.slice a2 n2 c2);obtain⟨z0,z1,z2⟩:=ay.dB hb;have z3:=hb.frozen 0;have z4:=hb.frozen 1;have z5:=hb.frozen 2;clear hW hN hK K hM hb k0 k1 k2 k3 k4 k5;go_simp;exact⟨⟨r2.mono fun x hx=>hx.1,fun _=>r1,fun h=>h.keeps r2 (by omega),fun _=>⟨_,_,_,r1⟩,fun ⟨v0,v1,v2,h⟩=>⟨v0,v1,v2,h.keeps r2 (by omega)⟩⟩,rfl,r1⟩
  replace hv:v=_:=hv;subst hv;go_simp;refine hK _ _ ?_;clear hK K;refine ae (fun K hK=>?_);refine bg rfl rfl (qF _ _ _ _) rfl (fun W hW hN=>?_) (fun v hv=>?_)
  ·have hM:=(HC.out W).1 hW
   obtain⟨u0,u1,u2,hb⟩:ZB W (w.heap.size+1):=hM.2.2.2.2 ⟨_,_,_,BY2.out⟩;obtain⟨r1,r2⟩:=fM hb (.slice b0 m0 d0) (.slice b1 m1 d1) (.slice b2 m2 d2);obtain⟨z0,z1,z2⟩:=ay.dB hb;have z3:=hb.frozen 0;have z4:=hb.frozen 1;have z5:=hb.frozen 2;clear hW hN hK K hM hb k0 k1 k2 k3 k4 k5;go_simp;exact⟨⟨r2.mono fun x hx=>hx.2,fun h=>h.keeps r2 (by omega),fun _=>r1,fun ⟨v0,v1,v2,h⟩=>⟨v0,v1,v2,h.keeps r2 (by omega)⟩,fun _=>⟨_,_,_,r1⟩⟩,rfl,r1⟩
  replace hv:v=_:=hv;subst hv;go_simp;refine hK _ _ ?_;clear hK K
  repeat (refine ae (fun K hK=>?_);first | (refine aR rfl ?_;try go_simp;refine hK _ _ ?_;clear hK K) | (refine aO rfl rfl ?_;unfold ai;go_simp;refine hK _ _ ?_;clear hK K))
  refine bh (fun W hW hH=>?_);have hM:=(HC.out W).1 hW;have hb1:ah W (w.heap.size+1) #[.slice b0 m0 d0,.slice b1 m1 d1,.slice b2 m2 d2] 28:=hH _ (List.mem_of_getElem? (show _=some _ from rfl:_[0]? =some _));have hb0:ah W w.heap.size #[.slice a0 n0 c0,.slice a1 n1 c1,.slice a2 n2 c2] 28:=hH _ (List.mem_of_getElem? (show _=some _ from rfl:_[1]? =some _));have pW:=hid hM.1;clear hM hW hH HC hne k0 k1 k2 k3 k4 k5;obtain⟨z0,z1,z2⟩:=ay.dB hb0;obtain⟨y0,y1,y2⟩:=ay.dB hb1;go_wp2;refine bodyPost_ret (v:=.tuple #[.agg #[.slice a0 n0 c0,.slice a1 n1 c1,.slice a2 n2 c2],.agg #[.slice b0 m0 d0,.slice b1 m1 d1,.slice b2 m2 d2],.bool _,.bool true]) (by simp[results,Tryz.results10,go_sem,z0,z1,z2,y0,y1,y2,show IntKind.i64.wrap 0=0 from rfl]) rfl ⟨a0,c0,a1,c1,a2,c2,b0,d0,b1,d1,b2,d2,rfl,(OP3.out.keeps pW.out fun b hb _=>⟨by omega,by omega⟩).base (by omega),(OQ2.out.keeps pW.out fun b hb _=>⟨by omega,by omega⟩).base (by omega),?_⟩
  exact X6.out.trans (pW.out.mono fun x (hx:x<w.heap.size)=>⟨by omega,by omega⟩:aa (· <w.heap.size) V2 W).below)
theorem lj (x y:List (Nat×Nat×Nat)) (cG:Bool):∃ (p q:DF) (cp cq:Int),jO (T1 x cG) 40=(p,cp)/\jO (T1 y cG) 40=(q,cq)/\(cp=0\/cp=181)/\(cq=0\/cq=181)/\((cp != 181&&cq != 181)=true->Rt p/\Rt q/\p.nx.length<=40/\q.nx.length<=40):=by
 rcases ez x cG with⟨p,h1,h2,h3⟩ | h
 ·rcases ez y cG with⟨q,h4,h5,h6⟩ | h'
  ·exact⟨p,q,0,0,h1,h4,.inl rfl,.inl rfl,fun _=>⟨h2,h5,h3,h6⟩⟩
  ·exact⟨p,_,0,181,h1,h',.inl rfl,.inr rfl,fun e=>by cases e⟩
 ·rcases ez y cG with⟨q,h4,h5,h6⟩ | h'
  ·exact⟨_,q,181,0,h,h4,.inr rfl,.inl rfl,fun e=>by cases e⟩
  ·exact⟨_,_,181,181,h,h',.inr rfl,.inr rfl,fun e=>by cases e⟩
theorem Ju {a b:DF} (f:Nat) (v v':Value) (op fu:Int) {l:List Nat} {bo:Bool} (hp:aX a b op fu=(l,bo,0)) (W:World) (h:Calls Tryz.prog f #[v,v',.int .i64 fu] W fun e w'=>∃ u,e=.returned (.tuple #[u,.bool (aX a b op fu).2.1,.int .i64 (aX a b op fu).2.2])/\w'.ownsRow W.heap.size 5 1 u (aX a b op fu).1.length ((aX a b op fu).1.map bu)/\Below W.heap.size W w'): Calls Tryz.prog f #[v,v',.int .i64 fu] W fun e w'=>kW W.heap.size e w' l bo/\Below W.heap.size W w':=by refine h.mono ?_;rintro e w' ⟨u,rfl,ho,hx⟩;rw[hp]at ho ⊢;obtain⟨a,c,rfl⟩:=ownsRow_form ho;exact⟨⟨a,c,rfl,ho⟩,hx⟩
theorem DU {p q:DF} (sp:Sm p) (sq:Sm q) {fu:Int} {l:List Nat} {bo:Bool} (hp:aX p q 3 fu=(l,bo,0)) (W:World) (v v':Value) (h:aT W v p) (h':aT W v' q): Calls Tryz.prog 22 #[v,v',.int .i64 fu] W fun e w'=>kW W.heap.size e w' l bo/\Below W.heap.size W w':=Ju _ v v' 3 fu hp W (lW v v' p q sp sq fu W h h')
theorem Jv {p q:DF} (sp:Sm p) (sq:Sm q) {fu:Int} {l:List Nat} {bo:Bool} (hp:aX p q 4 fu=(l,bo,0)) (W:World) (v v':Value) (h:aT W v p) (h':aT W v' q): Calls Tryz.prog 17 #[v,v',.int .i64 fu] W fun e w'=>kW W.heap.size e w' l bo/\Below W.heap.size W w':=Ju _ v v' 4 fu hp W (nS v v' p q sp sq fu W h h')
def uA (n:Nat) (l:List Nat) (bo:Bool) (W:World) (e:Ending) (w':World):Prop:=∃ a c,e=.returned (.tuple #[.slice a n c,.bool bo,.int .i64 0])/\aZ bu w' (.slice a n c) l/\Below W.heap.size W w'
theorem uA.of {l:List Nat} {bo:Bool} {W:World} {e:Ending} {w':World} {n:Nat} (hn:n=l.length) (h:kW W.heap.size e w' l bo/\Below W.heap.size W w'):uA n l bo W e w':=by obtain⟨⟨a,c,rfl,ho⟩,hx⟩:=h;subst hn;exact⟨a,c,rfl,dp ho rfl,hx⟩
def fq (d:DF) (v:Value) (l:List Nat) (x:Bool):Prop:=∀ (W:World) (u:Value),aT W u d->aZ bu W v l->Calls Tryz.prog 11 #[u,v] W fun e w'=>e=.returned (.bool x)/\Below W.heap.size W w'
theorem eD {d:DF} (rt:Rt d) (v:Value) {l:List Nat} (hl:l.length<=4000/\∀ c∈l,c<256) {x:Bool} (hx:x=aG d l):fq d v l x:=fun W u h h'=>by
 rw[hx];exact jF u v d rt rt.sm l hl.2 (by have:=hl.1;omega) W h h'
theorem vF (W:World):aZ bu W (.slice none 0 0) ([]:List Nat):=.inl ⟨rfl,rfl⟩
end
section
open Go Go.RowKit
def dP (l:List Nat):List UInt8:=Lib.bytesOf (l.map Int.ofNat)
theorem jG {P:Program} {w:World} {v:Value} {l:List Nat} (h:aZ bu w v l):(Extern.Bytes.bytesOf v).run P w=.ok ⟨(dP l).toArray⟩ w:=by
 rcases h with⟨rfl,rfl⟩ | ⟨g,off,c,rfl,_,_,hc⟩
 ·rfl
 ·have hl:=Lib.run_loadBytesX (P:=P) w (l.map Int.ofNat) ⟨g,off,none⟩ .empty (fun j x hj=>by
   rw[List.getElem?_map]at hj;obtain⟨y,h1,rfl⟩:=Option.map_eq_some_iff.1 hj;have e:(⟨g,off,none⟩:Addr).add j=⟨g,off+j,none⟩:=by unfold Addr.add;split<;>simp_all
   rw[e]
   exact hc j y h1)
  rw[List.length_map]at hl;show(Extern.Bytes.loadBytes ⟨g,off,none⟩ l.length .empty).run P w=_;rw[hl];congr 1;apply ByteArray.ext;show(#[]:Array UInt8)++(Lib.bytesOf (l.map Int.ofNat)).toArray=_;simp[dP]
theorem mm {P:Program} {w:World} {v v':Value} {a b:List Nat} (h:aZ bu w v a) (h':aZ bu w v' b):(Extern.BytealgCompare.compare #[v,v']).run P w=.ok (.int .i64 (Lib.compareBytes (dP a) (dP b))) w:=by
 change Sem.run P (do pure (goInt (Extern.BytealgCompare.cmp (<-Extern.Bytes.bytesOf v) (<-Extern.Bytes.bytesOf v')))) w=_
 simp only[Sem.run_bind,jG h,jG h',Result.andThen,Sem.run_pure,Lib.cmp_eq];rfl
theorem Af {x y:Nat} (hx:x<256) (hy:y<256):((x:Int).toNat.toUInt8<(y:Int).toNat.toUInt8)↔x<y:=by rw[UInt8.lt_iff_toNat_lt];simp[Nat.mod_eq_of_lt hx,Nat.mod_eq_of_lt hy]
theorem jc:∀ (a b:List Nat),(∀ c∈a,c<256)->(∀ c∈b,c<256)->a.length=b.length->Lib.compareBytes (dP a) (dP b)<0->∃ (j:Nat) (x y:Nat),a.take j=b.take j/\a[j]? =some x/\b[j]? =some y/\x<y
 | [],[],_,_,_,h=>by exact absurd h (by decide)
 | [],_::_,_,_,hl,_=>by simp at hl
 | _::_,[],_,_,hl,_=>by simp at hl
 | x::a,y::b,ha,hb,hl,h=>by
  have hx:=ha x (List.mem_cons_self ..);have hy:=hb y (List.mem_cons_self ..);have e:Lib.compareBytes (dP (x::a)) (dP (y::b))=if(x:Int).toNat.toUInt8<(y:Int).toNat.toUInt8 then-1 else if(y:Int).toNat.toUInt8<(x:Int).toNat.toUInt8 then 1 else Lib.compareBytes (dP a) (dP b):=rfl
  rw[e]at h;by_cases h1:x<y
  ·exact⟨0,x,y,rfl,rfl,rfl,h1⟩
  ·rw[if_neg (fun h2=>h1 ((Af hx hy).1 h2))]at h
   by_cases h3:y<x
   ·rw[if_pos ((Af hy hx).2 h3)]at h;omega
   ·rw[if_neg (fun h2=>h3 ((Af hy hx).1 h2))]at h
    obtain⟨j,p,q,g1,g2,g3,g4⟩:=jc a b (fun c hc=>ha c (List.mem_cons_of_mem _ hc)) (fun c hc=>hb c (List.mem_cons_of_mem _ hc)) (by simpa using hl) h;obtain rfl:x=y:=by omega
    exact⟨j+1,p,q,by rw[List.take_succ_cons,List.take_succ_cons,g1],g2,g3,g4⟩
theorem cY.before {P:List Nat->Bool} {s w:List Nat} (h:cY P s) (hw:∀ c∈w,c<256) (hP:P w=true) (hl:w.length=s.length):0<=Lib.compareBytes (dP w) (dP s):=by
 refine Int.not_lt.1 fun hlt=>?_
 obtain⟨j,x,y,g1,g2,g3,g4⟩:=jc w s hw h.jN hl hlt;have:=h.lex w hw hP hl j x y g1 g2 g3;omega
theorem uh {a b d:DF} {op f:Int} {n:Nat} (hfn:f=n) (h:aP a b op f=(d,0)):a.right=true/\b.right=true/\1<=op/\op<=4/\1<=n/\n<=4000/\bK a b op n=some d:=by
 subst hfn;unfold aP at h;split at h
 ·cases (Prod.ext_iff.1 h).2
 ·rename_i hr
  split at h
  ·cases (Prod.ext_iff.1 h).2
  ·split at h
   ·cases (Prod.ext_iff.1 h).2
   ·split at h
    ·cases (Prod.ext_iff.1 h).2
    ·split at h
     ·rename_i x hx
      cases h
      rw[Int.toNat_natCast]at hx;refine⟨?_,?_,by omega,by omega,by omega,by omega,hx⟩
      ·cases ha:a.right<;>simp[ha]at hr ⊢
      ·cases hb:b.right<;>simp[hb]at hr ⊢
     ·cases (Prod.ext_iff.1 h).2
theorem vI {a b:DF} {op f:Int} {n:Nat} (hfn:f=n) {s:List Nat} {is:Bool} (h:aX a b op f=(s,is,0)):s.length<=4000:=by
 unfold aX at h;split at h
 ·rename_i he
  obtain⟨h1,h2,_,_,h3,h4,h5⟩:=uh (d:=(aP a b op f).1) hfn (Prod.ext rfl he);have rd:=cL ((aC a).1 h1) ((aC b).1 h2) h3 h4 h5;obtain⟨rfl,_⟩:=Prod.ext_iff.1 h;cases e:aJ (aP a b op f).1 with
  | none=>exact Nat.zero_le _
  | some l=>
   have h6:=(eU rd e).2.2;have h7:=rd.le;show l.length<=4000;omega
 ·obtain⟨rfl,_⟩:=Prod.ext_iff.1 h
  exact Nat.zero_le _
theorem gy.jN {P:List Nat->Bool} {s:List Nat} {is:Bool} (h:gy P s is):∀ c∈s,c<256:=by
 rcases h with⟨_,rfl,_⟩ | ⟨_,h⟩
 ·exact fun _ hc=>by cases hc
 ·exact h.jN
structure UO (p q:DF) (b:List Nat) (s t u:List Nat) (i o m:Bool) (d:DF):Prop where
 h1:aX p q 3 1600=(s,i,0)
 h2:aX q p 3 1600=(t,o,0)
 h3:aX p q 4 1600=(u,m,0)
 h4:aX p (aK p) 4 1600=([],false,0)
 h5:aP p (aK p) 1 1600=(d,0)
 rd:Rt d
 em:(aJ d).isSome=false
 ls:s.length<=4000/\∀ c∈s,c<256
 lt:t.length<=4000/\∀ c∈t,c<256
 lu:u.length<=4000/\∀ c∈u,c<256
 same:m=(i&&o)
 iT:i=true->s=[]/\(aG p b=true->aG q b=true)
 iF:i=false->aG p s=true/\aG q s=false
 oF:o=false->aG q t=true/\aG p t=false
 mT:m=true->u=[]/\aG p b=aG q b/\aG p []=aG q []
 mF:m=false->aG p u=(!aG q u)/\(aG p b=aG q b\/u.length<b.length\/b.length=u.length/\0<=Lib.compareBytes (dP b) (dP u))
theorem Qe {p q:DF} (hp:Rt p) (hq:Rt q) (lp:p.nx.length<=40) (lq:q.nx.length<=40) (b:List Nat) (hb:∀ c∈b,c<256):∃ s t u i o m d,UO p q b s t u i o m d:=by
 have n1:p.nx.length*q.nx.length<=1600:=Nat.mul_le_mul lp lq;have n2:q.nx.length*p.nx.length<=1600:=Nat.mul_le_mul lq lp;have n3:p.nx.length*(aK p).nx.length<=1600:=Nat.mul_le_mul lp lp;have hn:=fh hp;have n0:∀ c∈([]:List Nat),c<256:=fun _ hc=>by cases hc
 obtain⟨s,i,e1,k1⟩:=oh hp hq (op:=3) (f:=1600) (by decide) (n:=1600) rfl n1 (by decide);obtain⟨t,o,e2,k2⟩:=oh hq hp (op:=3) (f:=1600) (by decide) (n:=1600) rfl n2 (by decide);obtain⟨u,m,e3,k3⟩:=oh hp hq (op:=4) (f:=1600) (by decide) (n:=1600) rfl n1 (by decide);obtain⟨v,x,e4,k4⟩:=oh hp hn (op:=4) (f:=1600) (by decide) (n:=1600) rfl n3 (by decide);obtain⟨d,e5,rd,k5⟩:=cC hp hn (op:=1) (f:=1600) (by decide) (n:=1600) rfl n3 (by decide);have a4:cr 4 (aG p []) (aG (aK p) [])=true:=by rw[fp hp [] n0];cases aG p []<;>rfl
 obtain⟨rfl,f4⟩:=k4.no n0 a4;obtain rfl:=f4.nil a4;have YS:(aJ d).isSome=false:=by
  rcases vB rd with⟨_,h,_⟩ | ⟨l,_,_,h,_⟩
  ·exact h
  ·have h2:=h.ok
   rw[k5 l h.jN,fp hp l h.jN]at h2;cases aG p l<;>simp[cr]at h2
 refine⟨s,t,u,i,o,m,d,e1,e2,e3,e4,e5,rd,YS,⟨vI rfl e1,k1.jN⟩,⟨vI rfl e2,k2.jN⟩,⟨vI rfl e3,k3.jN⟩,Yc k1 k2 k3,?_,?_,?_,?_,?_⟩
 ·rintro rfl
  rcases k1 with⟨_,rfl,h⟩ | ⟨e,_⟩
  ·refine⟨rfl,fun hx=>?_⟩
   have h2:cr 3 (aG p b) (aG q b)=false:=h b hb;rw[DT,hx]at h2;cases hy:aG q b with
   | true=>rfl
   | false=>rw[hy]at h2;cases h2
  ·cases e
 ·rintro rfl
  rcases k1 with⟨e,_⟩ | ⟨_,h⟩
  ·cases e
  ·have h2:=h.ok
   simp only[DT]at h2;revert h2;cases aG p s<;>cases aG q s<;>simp
 ·rintro rfl
  rcases k2 with⟨e,_⟩ | ⟨_,h⟩
  ·cases e
  ·have h2:=h.ok
   simp only[DT]at h2;revert h2;cases aG p t<;>cases aG q t<;>simp
 ·rintro rfl
  rcases k3 with⟨_,rfl,h⟩ | ⟨e,_⟩
  ·have h2:=h b hb
   have h3:=h [] n0;simp only[wK]at h2 h3;revert h2 h3;cases aG p b<;>cases aG q b<;>cases aG p []<;>cases aG q []<;>simp
  ·cases e
 ·rintro rfl
  rcases k3 with⟨e,_⟩ | ⟨_,h⟩
  ·cases e
  ·refine⟨?_,?_⟩
   ·have h2:=h.ok
    simp only[wK]at h2;revert h2;cases aG p u<;>cases aG q u<;>simp
   ·by_cases hx:aG p b=aG q b
    ·exact .inl hx
    ·refine .inr ?_
     have hP:cr 4 (aG p b) (aG q b)=true:=by rw[wK];revert hx;cases aG p b<;>cases aG q b<;>simp
     have h3:=h.short b hb hP;by_cases h4:u.length<b.length
     ·exact .inl h4
     ·have h5:b.length=u.length:=by omega
      exact .inr ⟨h5,h.before hb hP h5⟩
theorem Jw {m i o pb qb ps qs pt qt pn qn:Bool} {sn un:Nat} (hs:m=(i&&o)) (hi:i=true->sn=0/\(pb=true->qb=true)) (hj:i=false->ps=true/\qs=false) (ho:o=false->qt=true/\pt=false) (hm:m=true->un=0/\pb=qb/\pn=qn) (hn:m=false->un=0->pn= !qn): (i=true/\o=true/\m=true/\sn=0/\un=0/\((pn=qn/\pb=true/\qb=true)\/(pn=qn/\pb=false/\qb=false)))\/ (i=true/\o=false/\m=false/\sn=0/\qt=true/\pt=false/\((pb=true/\qb=true/\((un=0/\pn= !qn)\/((un:Int)==0)=false))\/(pb=false/\((un=0/\pn= !qn)\/((un:Int)==0)=false))))\/ (i=false/\m=false/\ps=true/\qs=false/\((o=true/\((un=0/\pn= !qn)\/((un:Int)==0)=false))\/(o=false/\qt=true/\pt=false/\((un=0/\pn= !qn)\/((un:Int)==0)=false)))):=by
 have hz:m=false->((un=0/\pn= !qn)\/((un:Int)==0)=false):=fun e=>by
  by_cases h:un=0
  ·exact .inl ⟨h,hn e h⟩
  ·exact .inr (by simp;exact h)
 subst hs;cases i with
 | true=>
  obtain⟨h1,h2⟩:=hi rfl;cases o with
  | true=>
   obtain⟨h3,h4,h5⟩:=hm rfl;subst h4;refine .inl ⟨rfl,rfl,rfl,h1,h3,?_⟩;cases pb with
   | true=>exact .inl ⟨h5,rfl,rfl⟩
   | false=>exact .inr ⟨h5,rfl,rfl⟩
  | false=>
   obtain⟨h3,h4⟩:=ho rfl;refine .inr (.inl ⟨rfl,rfl,rfl,h1,h3,h4,?_⟩);cases pb with
   | true=>exact .inl ⟨rfl,h2 rfl,hz rfl⟩
   | false=>exact .inr ⟨rfl,hz rfl⟩
 | false=>
  obtain⟨h1,h2⟩:=hj rfl;refine .inr (.inr ⟨rfl,rfl,h1,h2,?_⟩);cases o with
  | true=>exact .inl ⟨rfl,hz rfl⟩
  | false=>
   obtain⟨h3,h4⟩:=ho rfl;exact .inr ⟨rfl,h3,h4,hz rfl⟩
end
section
open Go Go.RowKit Go.Shelf Go.Maps
theorem FH (u v:Value) (a b:List Nat) (w:World) (h:aZ bu w u a) (h':aZ bu w v b): Calls Tryz.prog 26 #[u,v] w fun e w'=>e=.returned (.int .i64 (Lib.compareBytes (dP a) (dP b)))/\w'=w:=by
 have hx:(callFunc 53 #[u,v]).run Tryz.prog w=.ok (.value (.int .i64 (Lib.compareBytes (dP a) (dP b)))) w:=by rw[run_callFunc_extern (e:=Extern.BytealgCompare.compare) Tryz.func53 (by decide) rfl rfl rfl,mm h h'];rfl
 obtain⟨a0,c0,rfl⟩:=h.form;obtain⟨a1,c1,rfl⟩:=h'.form;generalize Lib.compareBytes (dP a) (dP b)=cc at*;generalize a.length=n0 at*;generalize b.length=n1 at*;clear h h';go_enter Tryz.func26,Tryz.ntmps26;go_wp2;go_ret;exact⟨rfl,rfl⟩
end
end Go.Proofs.YtalombmiochpmaaGreatDoor
