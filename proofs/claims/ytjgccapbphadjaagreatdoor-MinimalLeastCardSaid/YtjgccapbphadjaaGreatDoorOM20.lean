/- dfa.Trim. Printed by wip/gen/trim.py. -/
import Derived.Test.YtjgccapbphadjaaGreatDoorOM19
set_option maxRecDepth 100000
set_option maxHeartbeats 16000000
open Go.Lib (hid)
namespace Go.Proofs.YtjgccapbphadjaaGreatDoor
section
open Go Go.RowKit
set_option maxRecDepth 100000
theorem Sl (d:DF) (n:Nat):(kf d n)[0]? =some 0:=by have:=rV (d:=d) (n:=0) (i:=0) (x:=0) rfl n;rwa[Nat.zero_add]at this
theorem tq {d:DF} (h:Rt d) {s:Nat} (hs:s<d.nx.length):rS d s=(List.range d.cl.length).map fun k=>dL d s k:=kz h hs fun t=>t
theorem cP (d:DF):(aI d).nx.length=(bD d).length/\(aI d).mr.length=(bD d).length:=⟨aQ _,aQ _⟩
theorem nS {d:DF} {i s:Nat} (hi:(bD d)[i]? =some s):(aI d).nx.getD i []=qj d s/\(aI d).mr.getD i []=d.mr.getD s []:=by
 refine⟨getD_some ?_,getD_some ?_⟩
 ·show((bD d).map _)[i]? =_
  rw[aO,hi];rfl
 ·show((bD d).map _)[i]? =_
  rw[aO,hi];rfl
theorem Zu {L:List Nat} {t:Nat} (h:t∈L):L[L.idxOf t]? =some t:=by rw[az (List.idxOf_lt_length_of_mem h),List.getElem_idxOf]
theorem dE {d:DF} (h:Rt d):Rt (aI d) where
 pos:=by rw[(cP d).1];exact(dA h).pos
 le:=by rw[(cP d).1];have:=(dA h).len;have:=h.le;omega
 mr:=by rw[(cP d).1,(cP d).2]
 cl:=h.cl
 len:=fun i hi=>by
  rw[(cP d).1]at hi;have e:=az hi;rw[(nS e).1];unfold qj;rw[aQ,vo h ((dA h).lt _ (aw e))];rfl
 je:=fun i hi t ht=>by
  rw[(cP d).1]at hi ⊢;have e:=az hi;rw[(nS e).1]at ht;obtain⟨x,hx,rfl⟩:=List.mem_map.1 ht;have:=List.idxOf_lt_length_of_mem (l8 h (aw e) hx);omega
 Tm:=fun i hi=>by
  rw[(cP d).1]at hi;have e:=az hi;rw[(nS e).2];exact h.Tm _ ((dA h).lt _ (aw e))
def tu (d:DF) (i:Nat):Nat:=(bD d).getD i 0
theorem eh {d:DF} (h:Rt d):xV (tu d) (aI d) d where
 cl:=rfl
 zero:=getD_some (Sl d _)
 inj:=fun s t hs ht e=>by
  rw[(cP d).1]at hs ht;have e1:=aV (l:=bD d) 0 hs;have e2:=aV (l:=bD d) 0 ht;have e':(bD d).getD s 0=(bD d).getD t 0:=e;rw[e']at e1;have:=(List.getElem?_inj hs (dA h).nodup).1 (e1.trans e2.symm);exact this
 nx:=fun s hs=>by
  rw[(cP d).1]at hs;have e:=aV (l:=bD d) 0 hs;have hm:=aw e;show rS d ((bD d).getD s 0)=(((aI d).nx.getD s []).map Int.toNat).map (tu d);rw[(nS e).1];unfold qj;rw[List.map_map,List.map_map];refine((List.map_congr_left fun x hx=>?_).trans (List.map_id _)).symm;have yV:=l8 h hm hx;show(bD d).getD (((bD d).idxOf x:Int)).toNat 0=x;rw[Int.toNat_natCast];exact getD_some (Zu yV)
 mr:=fun s hs=>by
  rw[(cP d).1]at hs;exact(nS (aV (l:=bD d) 0 hs)).2.symm
theorem xX {d:DF} (h:Rt d) {w:List Nat} (hw:∀ c∈w,c<256):(aI d).mr.getD (bU (aI d) 0 w) []=d.mr.getD (bU d 0 w) []:=((eh h).marks (dE h) w hw).symm
theorem AD {x:Nat} :∀ (ts L:List Nat),x∈ts.foldl eF L->x∈L\/x∈ts
 | [],_,h=>.inl h
 | t::ts,L,h=>by
  rcases AD ts (eF L t) h with h | h
  ·unfold eF at h
   split at h
   ·exact .inl h
   ·rcases List.mem_append.1 h with h | h
    ·exact .inl h
    ·exact .inr (by rw[List.mem_singleton.1 h];exact aW ..)
  ·exact .inr (bF _ h)
theorem sf {d:DF} (h:Rt d):∀ n,∀ s∈kf d n,∃ w:List Nat,(∀ c∈w,c<256)/\bU d 0 w=s
 | 0,s,hs=>⟨[],fun c hc=>(List.not_mem_nil hc).elim,(List.mem_singleton.1 hs).symm⟩
 | n+1,s,hs=>by
  rw[kf]at hs;split at hs
  ·exact sf h n s hs
  ·rename_i u hu
   rcases AD _ _ hs with hs | hs
   ·exact sf h n s hs
   ·have hm:=aw hu
    obtain⟨w,hw,e⟩:=sf h n u hm;have QJ:=(qi h n).lt u hm;rw[tq h QJ]at hs;obtain⟨k,hk,rfl⟩:=List.mem_map.1 hs;have hl:=gU h (List.mem_range.1 hk);refine⟨w++ [lb d.cl k],fun c hc=>?_,?_⟩
    ·rcases List.mem_append.1 hc with hc | hc
     ·exact hw c hc
     ·rw[List.mem_singleton.1 hc];exact hl.1
    ·rw[iH,e,hl.2.1]
structure Db (d:DF):Prop where
 rt:Rt d
 reach:∀ s,s<d.nx.length->∃ w:List Nat,(∀ c∈w,c<256)/\bU d 0 w=s
 NA:∀ s t,s<d.nx.length->t<d.nx.length->xI d s t->s=t
 part:bS d.cl fun c e=>∀ s,s<d.nx.length->dL d s (cls d.cl c)=dL d s (cls d.cl e)
theorem qu {d:DF} (h:Rt d):∀ i,i<(aI d).nx.length->∃ w:List Nat,(∀ c∈w,c<256)/\bU (aI d) 0 w=i:=fun i hi=>by
 have hi':=hi;rw[(cP d).1]at hi';obtain⟨w,hw,e⟩:=sf h _ _ (aw (aV (l:=bD d) 0 hi'));refine⟨w,hw,(eh h).inj _ _ (eN (dE h) (dE h).pos w hw) hi ?_⟩;rw[<- (eh h).run (dE h) w hw,e];rfl
theorem dO (d:DF) (s:Nat) (u w:List Nat):bU d s (u++w)=bU d (bU d s u) w:=by unfold bU;rw[List.foldl_append]
theorem iJ {u w:List Nat} (hu:∀ c∈u,c<256) (hw:∀ c∈w,c<256):∀ c∈u++w,c<256:=fun c hc=>(List.mem_append.1 hc).elim (hu c) (hw c)
section
variable {a b:DF} (ra:Db a) (rb:Db b) (hm:∀ w:List Nat,(∀ c∈w,c<256)→a.mr.getD (bU a 0 w) []=b.mr.getD (bU b 0 w) [])
include ra rb hm
theorem uB {c e:Nat} (hc:c<256) (he:e<256) (h:∀ s,s<a.nx.length->dL a s (cls a.cl c)=dL a s (cls a.cl e)):∀ s,s<b.nx.length->dL b s (cls b.cl c)=dL b s (cls b.cl e):=fun t ht=>by
 obtain⟨u,hu,rfl⟩:=rb.reach t ht;have QJ:=eN ra.rt ra.rt.pos u hu;refine rb.NA _ _ (rb.rt.fH ht (rb.rt.part.cZ hc)) (rb.rt.fH ht (rb.rt.part.cZ he)) fun w hw=>?_
 have h1:∀ x,x<256->b.mr.getD (bU b (dL b (bU b 0 u) (cls b.cl x)) w) []=a.mr.getD (bU a (dL a (bU a 0 u) (cls a.cl x)) w) []:=fun x hx=>by
  rw[<-iH, <-iH, <-dO, <-dO];refine(hm _ (iJ (iJ hu fun y hy=>?_) hw)).symm;rw[List.mem_singleton.1 hy];exact hx
 rw[h1 c hc,h1 e he,h _ QJ]
end
theorem canon {a b:DF} (ra:Db a) (rb:Db b) (hm:∀ w:List Nat,(∀ c∈w,c<256)->a.mr.getD (bU a 0 w) []=b.mr.getD (bU b 0 w) []):aI a=aI b:=by
 have mA:b.cl=a.cl:=bS.uniq rb.part ra.part fun c e hc he=>⟨uB rb ra (fun w hw=>(hm w hw).symm) hc he,uB ra rb hm hc he⟩
 have hch:∀ s,∃ w:List Nat,(∀ c∈w,c<256)/\(s<a.nx.length->bU a 0 w=s):=fun s=>by
  by_cases hs:s<a.nx.length
  ·obtain⟨w,h1,h2⟩:=ra.reach s hs
   exact⟨w,h1,fun _=>h2⟩
  ·exact⟨[],fun c hc=>(List.not_mem_nil hc).elim,fun h=>absurd h hs⟩
 obtain⟨wd,hwd⟩:=Classical.axiomOfChoice hch;have key:∀ u:List Nat,(∀ c∈u,c<256)->bU b 0 (wd (bU a 0 u))=bU b 0 u:=fun u hu=>by
  have QJ:=eN ra.rt ra.rt.pos u hu;have h1:=hwd (bU a 0 u);refine rb.NA _ _ (eN rb.rt rb.rt.pos _ h1.1) (eN rb.rt rb.rt.pos _ hu) fun w hw=>?_
  rw[<-dO, <-dO, <-hm _ (iJ h1.1 hw), <-hm _ (iJ hu hw),dO,dO,h1.2 QJ]
 have Zv:∀ s,s<a.nx.length->∀ w:List Nat,(∀ c∈w,c<256)->b.mr.getD (bU b (bU b 0 (wd s)) w) []=a.mr.getD (bU a s w) []:=fun s hs w hw=>by
  have h1:=hwd s;rw[<-dO, <-hm _ (iJ h1.1 hw),dO,h1.2 hs]
 have B:xV (fun s=>bU b 0 (wd s)) a b:=by
  refine⟨mA,?_,?_,?_,?_⟩
  ·exact key [] fun c hc=>(List.not_mem_nil hc).elim
  ·intro s t hs ht e
   have e':bU b 0 (wd s)=bU b 0 (wd t):=e;exact ra.NA s t hs ht fun w hw=>by rw[<-Zv s hs w hw, <-Zv t ht w hw,e']
  ·intro s hs
   have h1:=hwd s;rw[tq rb.rt (eN rb.rt rb.rt.pos _ h1.1),tq ra.rt hs,List.map_map,mA];refine List.map_congr_left fun k hk=>?_
   have hl:=gU ra.rt (List.mem_range.1 hk);have hb:∀ c∈wd s++ [lb a.cl k],c<256:=iJ h1.1 fun y hy=>by rw[List.mem_singleton.1 hy];exact hl.1
   have:=key _ hb;rw[iH,iH,h1.2 hs,hl.2.1,mA,hl.2.1]at this;exact this.symm
  ·intro s hs
   exact Zv s hs [] fun c hc=>(List.not_mem_nil hc).elim
 have hN:a.nx.length<=b.nx.length:=by
  have:=kV (l:=(List.range a.nx.length).map fun s=>bU b 0 (wd s)) (n:=b.nx.length) (by
   rw[List.nodup_iff_pairwise_ne,List.pairwise_map]
   exact(List.nodup_iff_pairwise_ne.1 List.nodup_range).imp_of_mem fun {x y} hx hy hne e=>hne (B.inj x y (List.mem_range.1 hx) (List.mem_range.1 hy) e)) fun x hx=>by
   obtain⟨s,hs,rfl⟩:=List.mem_map.1 hx;exact eN rb.rt rb.rt.pos _ (hwd s).1
  rwa[aQ,List.length_range]at this
 exact(B.trim ra.rt hN).symm
def Gb (d:DF):Nat->Nat->Nat
 | 0,i=>i
 | f+1,i=>if ed d (i+1)=ed d i then i else Gb d f (i+1)
def xY (d:DF):Nat:=Gb d d.nx.length 0
theorem Jr {d:DF} {i:Nat} (hi:dN d i) (hno:∀ j,j<i->¬dN d j):∀ f j,j<=i->i<=j+f->Gb d f j=i
 | 0,j,h1,h2=>by rw[Gb];omega
 | f+1,j,h1,h2=>by
  rw[Gb];by_cases e:j=i
  ·subst e
   have hi':ed d (j+1)=ed d j:=hi;rw[if_pos hi']
  ·have hn:¬ed d (j+1)=ed d j:=hno j (by omega)
   rw[if_neg hn];exact Jr hi hno f (j+1) (by omega) (by omega)
theorem Dc (d:DF):dN d (xY d)/\∀ j,j<xY d->¬dN d j:=by obtain⟨i,h1,h2,h3⟩:=xH d;have:=Jr h2 h3 d.nx.length 0 (Nat.zero_le _) (by omega);unfold xY;rw[this];exact⟨h2,h3⟩
def gI (d:DF):Nat->Nat:=bK d (xY d)
def qw (d:DF):DF:=ie (cA (aI d) (gI (aI d)))
def aP (d:DF):DF:=aI (qw d)
theorem iT {d:DF} (h:Rt d):Db (qw d)/\∀ w:List Nat,(∀ c∈w,c<256)->(qw d).mr.getD (bU (qw d) 0 w) []=d.mr.getD (bU d 0 w) []:=by
 have rt:=dE h;have he:=(Dc (aI d)).1;have hf:=rX rt he;have rm:=FZ rt hf;have rn:=Sj rm;have z:bK (aI d) (xY (aI d)) 0=0:=Nat.le_zero.1 (hf.num 0 rt.pos);have rep:∀ m,m<(cA (aI d) (bK (aI d) (xY (aI d)))).nx.length->∃ s,s<(aI d).nx.length/\bK (aI d) (xY (aI d)) s=m:=fun m hm=>by
  rw[(eD hf).1]at hm;obtain⟨s,hs,e,_⟩:=jV (d:=aI d) hf.num m hm;exact⟨s,hs,e⟩
 unfold qw gI;generalize hM:cA (aI d) (bK (aI d) (xY (aI d)))=M at*;have runM:∀ w:List Nat,(∀ c∈w,c<256)->bU M 0 w=bK (aI d) (xY (aI d)) (bU (aI d) 0 w):=fun w hw=>by
  have:=td rt hf w rt.pos hw;rw[z,hM]at this;exact this
 refine⟨⟨rn,?_,?_,?_⟩,?_⟩
 ·intro s hs
  rw[fk]at hs;obtain⟨t,ht,e⟩:=rep s hs;obtain⟨w,hw,e'⟩:=qu h t ht;exact⟨w,hw,by rw[r9 rm w rm.pos hw,runM w hw,e',e]⟩
 ·intro s t hs ht ha
  rw[fk]at hs ht;obtain⟨x,hx,rfl⟩:=rep s hs;obtain⟨y,hy,rfl⟩:=rep t ht;refine F5 rt he hx hy fun w hw=>?_
  have:=ha w hw;rw[r9 rm w hs hw,r9 rm w ht hw]at this;rw[hM];exact this
 ·refine(xU rm).congr fun c e hc he=>?_
  have conv:∀ s,s<M.nx.length->∀ x,x<256->dL (ie M) s (cls (ie M).cl x)=dL M s (cls M.cl x):=fun s hs x hx=>by rw[Lb rm hx,Lc hs (rm.part.cZ hx)]
  constructor
  ·intro hh s hs
   rw[fk]at hs;rw[conv s hs c hc,conv s hs e he];exact hh s hs
  ·intro hh s hs
   have:=hh s (by rw[fk];exact hs);rwa[conv s hs c hc,conv s hs e he]at this
 ·intro w hw
  rw[r9 rm w rm.pos hw,runM w hw];have h1:=qq rt hf (eN rt rt.pos w hw);rw[hM]at h1;refine Eq.trans h1 ?_;exact xX h hw
theorem jW {d:DF} (h:Rt d):Rt (aP d):=dE (iT h).1.rt
theorem Gc {d:DF} (h:Rt d) {w:List Nat} (hw:∀ c∈w,c<256):(aP d).mr.getD (bU (aP d) 0 w) []=d.mr.getD (bU d 0 w) []:=(xX (iT h).1.rt hw).trans ((iT h).2 w hw)
theorem Js {a b:DF} (ha:Rt a) (hb:Rt b) (hm:∀ w:List Nat,(∀ c∈w,c<256)->a.mr.getD (bU a 0 w) []=b.mr.getD (bU b 0 w) []):aP a=aP b:=
 canon (iT ha).1 (iT hb).1 fun w hw=>((iT ha).2 w hw).trans ((hm w hw).trans ((iT hb).2 w hw).symm)
theorem Gd {d:DF} (h:Rt d):aP (aP d)=aP d:=Js (jW h) h fun _ hw=>Gc h hw
set_option maxRecDepth 100000
theorem xZ {d:DF} (h:Rt d) {i:Nat} (hi:i<(aI d).nx.length) {w:List Nat} (hw:∀ c∈w,c<256):tu d (bU (aI d) i w)=bU d (tu d i) w:=by obtain⟨u,hu,rfl⟩:=qu h i hi;rw[<-dO, <- (eh h).run (dE h) _ (iJ hu hw),dO,(eh h).run (dE h) u hu]
theorem Jt {d:DF} (h:Rt d) {i:Nat} (hi:i<(aI d).nx.length):tu d i<d.nx.length:=by rw[(cP d).1]at hi;exact(dA h).lt _ (aw (aV (l:=bD d) 0 hi))
theorem Sn {d:DF} (h:Db d) {s:Nat} (hs:s<d.nx.length):∃ i,i<(aI d).nx.length/\tu d i=s:=by obtain⟨w,hw,rfl⟩:=h.reach s hs;exact⟨bU (aI d) 0 w,eN (dE h.rt) (dE h.rt).pos w hw,by rw[<- (eh h.rt).run (dE h.rt) w hw]⟩
theorem si {d:DF} (h:Rt d) {i c:Nat} (hi:i<(aI d).nx.length) (hc:c<256):tu d (dL (aI d) i (cls d.cl c))=dL d (tu d i) (cls d.cl c):=
 xZ h hi (w:=[c]) fun x hx=>by rw[List.mem_singleton.1 hx];exact hc
theorem NB {d:DF} (h:Db d):Db (aI d) where
 rt:=dE h.rt
 reach:=qu h.rt
 NA:=fun s t hs ht ha=>by
  refine(eh h.rt).inj s t hs ht (h.NA _ _ (Jt h.rt hs) (Jt h.rt ht) fun w hw=>?_);have:=ha w hw;have r:=eN (dE h.rt) hs w hw;have r':=eN (dE h.rt) ht w hw;rw[<- (eh h.rt).mr _ r, <- (eh h.rt).mr _ r',xZ h.rt hs hw,xZ h.rt ht hw]at this;exact this
 part:=by
  refine h.part.congr fun c e hc he=>⟨fun hh i hi=>?_,fun hh s hs=>?_⟩
  ·have rt:=dE h.rt
   refine(eh h.rt).inj _ _ (rt.fH hi (rt.part.cZ hc)) (rt.fH hi (rt.part.cZ he)) ?_;show tu d (dL (aI d) i (cls d.cl c))=tu d (dL (aI d) i (cls d.cl e));rw[si h.rt hi hc,si h.rt hi he];exact hh _ (Jt h.rt hi)
  ·obtain⟨i,hi,rfl⟩:=Sn h hs
   rw[<-si h.rt hi hc, <-si h.rt hi he];have:=hh i hi;exact congrArg (tu d) this
theorem x8 {d:DF} (h:Rt d):Db (aP d):=NB (iT h).1
theorem Ge {d:DF} (h:Rt d):bD (aI d)=List.range (aI d).nx.length:=by
 have hb:=eh h;have rt:=dE h;have e1:bD d=(bD (aI d)).map (tu d):=by
  have h1:=hb.kf rt d.nx.length;have hle:(aI d).nx.length<=d.nx.length:=by rw[(cP d).1];exact(dA h).len
  have h2:=rT (d:=aI d) (n:=(aI d).nx.length) (qi rt _).len (d.nx.length-(aI d).nx.length);rw[show(aI d).nx.length+(d.nx.length-(aI d).nx.length)=d.nx.length by omega]at h2;show kf d d.nx.length=_;rw[h1,h2];rfl
 have hl:(bD (aI d)).length=(aI d).nx.length:=by have:=congrArg List.length e1;rw[aQ]at this;rw[(cP d).1, <-this]
 apply List.ext_getElem?;intro i;by_cases hi:i<(aI d).nx.length
 ·rw[List.getElem?_range hi]
  have e:=aV (l:=bD (aI d)) 0 (i:=i) (by omega);rw[e];congr 1;have hx:=(dA rt).lt _ (aw e);refine hb.inj _ _ hx hi ?_;have h3:(bD d)[i]? =some (tu d ((bD (aI d)).getD i 0)):=by rw[e1,aO,e];rfl
  exact(getD_some (d:=0) h3).symm
 ·rw[List.getElem?_eq_none_iff.2 (by omega),List.getElem?_eq_none_iff.2 (by rw[List.length_range];omega)]
theorem Sq (d:DF):eC (cg d) d.cl.length<=d.cl.length:=rY (kA d)
theorem Ju {d:DF} (h:Rt d):(aP d).nx.length<=d.nx.length/\(aP d).cl.length<=d.cl.length:=by have rt:=dE h;have hf:=rX rt (Dc (aI d)).1;have e1:=(cP (qw d)).1;have e2:=(dA (iT h).1.rt).len;have e3:(qw d).nx.length=(cA (aI d) (gI (aI d))).nx.length:=fk _;have e4:(cA (aI d) (gI (aI d))).nx.length=eC (gI (aI d)) (aI d).nx.length:=(eD hf).1;have e5:=rY hf.num;have e6:=(cP d).1;have e7:=(dA h).len;have e8:(aP d).cl.length=eC (cg (cA (aI d) (gI (aI d)))) (cA (aI d) (gI (aI d))).cl.length:=r8 _;have e9:=Sq (cA (aI d) (gI (aI d)));have e10:(cA (aI d) (gI (aI d))).cl.length=d.cl.length:=rfl;have e11:(aP d).nx.length=(bD (qw d)).length:=e1;have e5':eC (gI (aI d)) (aI d).nx.length<=(aI d).nx.length:=e5;exact⟨by omega,by omega⟩
theorem Gf {d:DF} (h:Rt d):bD (aP d)=List.range (aP d).nx.length:=Ge (iT h).1.rt
theorem Gg {d:DF} (h:Rt d) {s t:Nat} (hs:s<(aP d).nx.length) (ht:t<(aP d).nx.length) (hne:s≠t):∃ w,ee (aP d) (aP d) (s,t)=some w/\w.length<=(aP d).nx.length:=by
 cases e:ee (aP d) (aP d) (s,t)with
 | none=>exact absurd ((x8 h).NA s t hs ht ((Jo (jW h) hs ht).1 e)) hne
 | some w=>exact⟨w,rfl,Jp (jW h) hs ht e⟩
theorem zg {d:DF} (h:Rt d) {i j:Nat} (hi:i<(aP d).cl.length) (hj:j<(aP d).cl.length) (hne:i≠j):∃ s,s<(aP d).nx.length/\dL (aP d) s i≠dL (aP d) s j:=by
 refine Classical.byContradiction fun hn=>hne ?_
 have li:=gU (jW h) hi;have lj:=gU (jW h) hj;have:=((x8 h).part.nu li.1 lj.1).2 fun s hs=>by
  rw[li.2.1,lj.2.1];exact Classical.byContradiction fun hne=>hn ⟨s,hs,hne⟩
 rwa[li.2.1,lj.2.1]at this
set_option maxRecDepth 100000
theorem oM {κ κ':Type} [DecidableEq κ] [DecidableEq κ'] {k:Nat->κ} {k':Nat->κ'} {n:Nat} (h:∀ s t,s<n->t<n->(k s=k t↔k' s=k' t)):∀ m,m<=n->dP k m=dP k' m/\∀ s,s<m->dF k n s=dF k' n s
 | 0,_=>⟨rfl,fun s hs=>by omega⟩
 | m+1,hm=>by
  obtain⟨h1,h2⟩:=oM h m (by omega);have pP:k m∈bQ k m↔k' m∈bQ k' m:=by rw[mem_keys,mem_keys];exact⟨fun ⟨s,hs,e⟩=>⟨s,hs,(h s m (by omega) (by omega)).1 e⟩,fun ⟨s,hs,e⟩=>⟨s,hs,(h s m (by omega) (by omega)).2 e⟩⟩
  refine⟨?_,fun s hs=>?_⟩
  ·unfold dP at h1 ⊢
   rw[bQ,bQ];by_cases hk:k m∈bQ k m
   ·rw[if_pos hk,if_pos (pP.1 hk)];exact h1
   ·rw[if_neg hk,if_neg fun tD=>hk (pP.2 tD),aG,aG,h1];rfl
  ·by_cases e:s<m
   ·exact h2 s e
   ·obtain rfl:s=m:=by omega
    by_cases hk:k s∈bQ k s
    ·obtain⟨t,ht,e⟩:=mem_keys.1 hk
     rw[<- (dK (key:=k) (n:=n) (s:=t) (t:=s) (by omega) (by omega)).2 e, <- (dK (key:=k') (n:=n) (s:=t) (t:=s) (by omega) (by omega)).2 ((h t s (by omega) (by omega)).1 e)];exact h2 t ht
    ·rw[lG (by omega),lG (by omega),if_neg hk,if_neg fun tD=>hk (pP.2 tD)]
     exact h1
theorem NC {d:DF} (h:Rt d):Fits d (gI d):=rX h (Dc d).1
end
section
open Go Go.RowKit Go.Shelf Go.Maps
theorem Rt.kn {d:DF} (h:Rt d):Kn d:=⟨fun l hl=>by
 obtain⟨s,hs⟩:=List.mem_iff_getElem?.1 hl;have lQ:=(List.getElem?_eq_some_iff.1 hs).1;have hr:=h.Tm s (by rw[<-h.mr];exact lQ);rw[bh,hs]at hr;replace hr:rh l=true:=hr;have hb:=KH hr;refine⟨?_,fun x hx=>?_⟩
 ·refine Classical.byContradiction fun hn=>?_
  have:=hb 256 (by omega);omega
 ·obtain⟨k,hk⟩:=List.mem_iff_getElem?.1 hx
  have hk2:=hb k (List.getElem?_eq_some_iff.1 hk).1;rw[bh,hk]at hk2;replace hk2:(k:Int)<=x/\x<=255:=hk2
  omega⟩
def jd (d:DF) (i:Nat):List Value:=(List.range d.nx.length).map fun s=>cQ (bK d i s)
theorem x9 {d:DF} {i s:Nat} (hs:s<d.nx.length):bK d i s<d.nx.length:=by
 cases i with
 | zero=>exact aA (xj hs) (rP _ _)
 | succ i=>exact aA (xj hs) (rP _ _)
theorem uC:∀ {a b:List Int},(∀ x∈a,0<=x)->(∀ x∈b,0<=x)->a.map Int.toNat=b.map Int.toNat->a=b
 | [],[],_,_,_=>rfl
 | [],y::b,_,_,h=>by simp at h
 | x::a,[],_,_,h=>by simp at h
 | x::a,y::b,ha,hb,h=>by
  rw[List.map_cons,List.map_cons]at h;injection h with h0 h1
  have hx:=ha x aW;have hy:=hb y aW;rw[uC (fun c hc=>ha c (bF _ hc)) (fun c hc=>hb c (bF _ hc)) h1,show x=y by omega]
def Sr (d:DF) (s:Nat):List UInt8:=kM ((d.mr.getD s []).map Int.toNat)
def Ss (d:DF) (i s:Nat):List UInt8:=kM (jh d i s)
theorem Su {d:DF} (kn:Kn d) {s:Nat} (hs:s<d.mr.length):(d.mr.getD s []).length<=100000/\∀ x∈d.mr.getD s [],0<=x/\x<4294967296:=by
 have hrow:d.mr[s]? =some (d.mr.getD s []):=by rw[bh,az hs];rfl
 exact kn.ks _ (aw hrow)
theorem Sv {d:DF} (rt:Rt d):dP (Sr d) d.nx.length=ed d 0/\∀ s,s<d.nx.length->dF (Sr d) d.nx.length s=bK d 0 s:=by
 refine oM (fun s t hs ht=>⟨fun h=>?_,fun h=>?_⟩) _ (aD _)
 ·have h1:=Su rt.kn (s:=s) (by rw[rt.mr];exact hs)
  have h2:=Su rt.kn (s:=t) (by rw[rt.mr];exact ht);refine uC (fun x hx=>(h1.2 x hx).1) (fun x hx=>(h2.2 x hx).1) (xC (fun x hx=>?_) (fun x hx=>?_) h)
  ·obtain⟨y,hy,rfl⟩:=List.mem_map.1 hx
   have:=h1.2 y hy;omega
  ·obtain⟨y,hy,rfl⟩:=List.mem_map.1 hx
   have:=h2.2 y hy;omega
 ·show kM ((d.mr.getD s []).map Int.toNat)=kM ((d.mr.getD t []).map Int.toNat)
  rw[show d.mr.getD s []=d.mr.getD t [] from h]
theorem AE {d:DF} (rt:Rt d) {i s:Nat} (hs:s<d.nx.length):∀ x∈jh d i s,x<4294967296:=fun x hx=>by
 have hle:=rt.le;rcases List.mem_cons.1 hx with rfl | hx
 ·have:=x9 (d:=d) (i:=i) hs;omega
 ·obtain⟨t,ht,rfl⟩:=List.mem_map.1 hx
  have h7:=rt.je s hs t ht;have:=x9 (d:=d) (i:=i) (s:=t.toNat) (by omega);omega
theorem Sw {d:DF} (rt:Rt d) (i:Nat):dP (Ss d i) d.nx.length=ed d (i+1)/\∀ s,s<d.nx.length->dF (Ss d i) d.nx.length s=bK d (i+1) s:=
 oM (fun _ _ hs ht=>⟨fun h=>xC (AE rt hs) (AE rt ht) h,fun h=>congrArg kM h⟩) _ (aD _)
theorem Ld {d:DF} {i:Nat} {f:Nat->Nat} (h:∀ s,s<d.nx.length->f s=bK d i s):(List.range d.nx.length).map (fun s=>cQ (f s))=jd d i:=List.map_congr_left fun s hs=>by rw[h s (List.mem_range.1 hs)]
theorem Zw {d:DF} {i:Nat} (hi:dN d i) (hno:∀ j,j<i->¬dN d j):xY d=i:=by
 obtain⟨k,h1,h2,h3⟩:=xH d;refine Jr hi hno _ _ (Nat.zero_le _) ?_;refine Classical.byContradiction fun h=>?_
 exact hno k (by omega) h2
theorem ye (v:Value) (d:DF) (rt:Rt d) (w:World) (h:cS w v d): ah 79 #[v] w fun e w'=>∃ u,e=.returned u/\w'.ownsRow w.heap.size 3 1 u d.nx.length ((List.range d.nx.length).map fun s=>cQ (gI d s))/\aa w w':=by
 obtain⟨n,hn⟩:=ag d.nx.length;have eg1:∀ (args:Array Value) (w:World),(callFunc 138 args).run Tryz.prog w=.ok (.enter 138 args) w:=fun args w=>rfl
 have eg2:∀ (args:Array Value) (w:World),(callFunc 140 args).run Tryz.prog w=.ok (.enter 140 args) w:=fun args w=>rfl
 obtain⟨v0,v1,v2,rfl,h0,h1,h2⟩:=h;obtain⟨a0,c0,rfl⟩:=h0.1.form;obtain⟨a1,c1,rfl⟩:=h1.form;obtain⟨a2,c2,rfl⟩:=h2.form;have yA:=rt.mr;have hle:=rt.le;obtain⟨K,hK⟩:=ag d.cl.length;have hK2:K<=256:=by have:=rt.En;omega
 have H1:=hid h1;have H2:=hid h2;rw[<-hn]at hle;have CM:Hid (∀ W (db:Nat),aa w W->ar W db #[.slice a0 K c0,.slice a1 n c1,.slice a2 n c2] 29->ah 137 #[.int .i64 n,.func (.func 138) #[] #[.pointer (some ⟨db,0,none⟩)]] W fun e w'=>∃ u,e=.returned (.tuple #[u,.int .i64 (ed d 0)])/\w'.ownsRow W.heap.size 3 1 u n (jd d 0)/\aa W w'):=hid fun W db hW hB=>by
  refine(qp 138 #[.pointer (some ⟨db,0,none⟩)] (Sr d) n hle W (fun s hs=>?_) eg1 (fun s W2 hs hW2=>?_)).mono ?_
  ·unfold Sr
   rw[xB,aQ];have:=(Su rt.kn (s:=s) (by rw[yA, <-hn];exact hs)).1;omega
  ·exact FT db d rt.kn _ s (by rw[yA, <-hn];exact hs) W2 (by rw[yA, <-hn];exact(hB.below hW2 hB.lt).cell 2) ((H2.out.below hW).below hW2)
  ·rintro e w' ⟨u,rfl,h5,h6⟩
   obtain⟨k1,k2⟩:=Sv rt;rw[<-hn]at k1 k2;refine⟨u,by rw[k1],?_,h6⟩;rw[<-Ld (f:=dF (Sr d) n) (by rw[<-hn];exact k2), <-hn];exact h5
 have CB:Hid (∀ W (i db pb:Nat) (pv:Value),aa w W->ar W db #[.slice a0 K c0,.slice a1 n c1,.slice a2 n c2] 29->ar W pb #[pv] 39->W.ownsRow w.heap.size 3 1 pv n (jd d i)->ah 137 #[.int .i64 n,.func (.func 140) #[] #[.pointer (some ⟨pb,0,none⟩),.pointer (some ⟨db,0,none⟩)]] W fun e w'=>∃ u,e=.returned (.tuple #[u,.int .i64 (ed d (i+1))])/\w'.ownsRow W.heap.size 3 1 u n (jd d (i+1))/\aa W w'):=hid fun W i db pb pv hW hB hP ho=>by
  refine(qp 140 #[.pointer (some ⟨pb,0,none⟩),.pointer (some ⟨db,0,none⟩)] (Ss d i) n hle W (fun s hs=>?_) eg2 (fun s W2 hs hW2=>?_)).mono ?_
  ·unfold Ss
   rw[xB];unfold jh;rw[List.length_cons,aQ,rt.len s (by rw[<-hn];exact hs), <-hK];omega
  ·refine FU s pb db d (rt.je s (by rw[<-hn];exact hs)) (bK d i) (fun t ht=>?_) (.slice a1 d.nx.length c1) pv ?_ (by rw[<-hn];exact hs) W2 ((hP.below hW2 hP.lt).cell 0) (by rw[<-hn];exact(hB.below hW2 hB.lt).cell 1) ((H1.out.below hW).below hW2) ?_
   ·have:=x9 (d:=d) (i:=i) ht;omega
   ·rw[rt.len s (by rw[<-hn];exact hs), <-hK];omega
   ·have h9:=aj ho hW2
    have e:jd d i=(jd d i).map fun u:Value=>u:=by rw[List.map_id']
    rw[e]at h9;exact dc h9 (by rw[aQ,List.length_range,hn])
  ·rintro e w' ⟨u,rfl,h5,h6⟩
   obtain⟨k1,k2⟩:=Sw rt i;rw[<-hn]at k1 k2;refine⟨u,by rw[k1],?_,h6⟩;rw[<-Ld (f:=dF (Ss d i) n) (by rw[<-hn];exact k2), <-hn];exact h5
 rw[yA, <-hK, <-hn];have HN:=hid hn;clear h0 h1 h2 yA hn hK hK2 H1 H2 eg1 eg2;go_enter Tryz.func79,Tryz.ntmps79;go_wp2;refine wp_scope_straight ?_;go_wp2_with fail
 refine aH ?_;intro V hV;have B0:Hid (ar V w.heap.size #[.slice a0 K c0,.slice a1 n c1,.slice a2 n c2] 29):=hid (by rw[hV];exact ar.new w _ _);have X0:Hid (aa w V):=hid (by rw[hV];exact((Ext.refl w).alloc _).below);clear hV;refine(CM.out V w.heap.size X0.out B0.out).mono ?_;rintro e w1 ⟨u,rfl,ho,hx⟩;obtain⟨ua,uc,rfl⟩:=ownsRow_form ho;have O1:=hid (aF ho X0.out.size);have B1:=hid (B0.out.below hx B0.out.lt);have X1:=hid (X0.out.trans (hx.mono X0.out.size));clear ho hx B0 X0 CM;go_wp2_with fail
 refine ax ?_;intro V2 hV;obtain⟨pb,om⟩:=ag w1.heap.size;have P2:Hid (ar V2 pb #[.slice ua n uc] 39):=hid (by rw[hV,om];exact ar.new _ _ _);have hb2:aa w1 V2:=by rw[hV];exact((Ext.refl _).alloc _).below
 rw[<-om];have hwp:w.heap.size<pb:=by rw[om];exact B1.out.lt
 have O2:=hid (aj O1.out hb2);have B2:=hid (B1.out.below hb2 B1.out.lt);have X2:=hid (X1.out.trans (hb2.mono X1.out.size));clear hV om hb2 O1 B1 X1;go_step3;go_wp2_with fail
 go_loopw [4] (fun cv wr=>∃ (i:Nat) (ua:Option Addr) (uc:Nat),cv=.int .i64 (ed d i)/\(∀ j,j<i->¬dN d j)/\ar wr pb #[.slice ua n uc] 39/\wr.ownsRow w.heap.size 3 1 (.slice ua n uc) n (jd d i)/\ar wr w.heap.size #[.slice a0 K c0,.slice a1 n c1,.slice a2 n c2] 29/\aa w wr) (fun cv _=>n-(intOf cv).toNat)
 case atStart=>exact⟨0,ua,uc,rfl,fun j hj=>absurd hj (Nat.not_lt_zero _),P2.out,O2.out,B2.out,X2.out⟩
 case round=>
  obtain⟨i,va,vc,rfl,hno,hp,ho,hb,hx⟩:=hrel;obtain⟨wo,rfl⟩:=ag (wr:World);have rI:=hid hno;have HP:=hid hp;have HO:=hid ho;have HB:=hid hb;have HX:=hid hx;clear hno hp ho hb hx P2 O2 B2 X2;obtain⟨b0,b1,b2⟩:=bA.mO HB.out;go_wp2_with fail
  refine(CB.out wo i w.heap.size pb _ HX.out HB.out HP.out HO.out).mono ?_;rintro e w3 ⟨u,rfl,ho,hx⟩;obtain⟨qa,qc,rfl⟩:=ownsRow_form ho;have hw3:w.heap.size<=wo.heap.size:=HX.out.size;have Q3:=hid (aF ho hw3);have Wt:=hid (aj HO.out hx);have HP3:=hid (HP.out.below hx HP.out.lt);have HB3:=hid (HB.out.below hx HB.out.lt);have od:=hid (HX.out.trans (hx.mono hw3));clear ho hx b0 b1 b2 HO HP HB HX;obtain⟨m1,rK⟩:=ag (ed d (i+1));obtain⟨m0,ve⟩:=ag (ed d i);have ahu:m0<=m1/\m1<=n:=by rw[ve,rK,HN.out];exact⟨(xG d i).1,(xG d (i+1)).2⟩
  have HM1:=hid rK;have HM0:=hid ve;rw[<-rK, <-ve];clear rK ve;have q0:=HP3.out.cell 0;have z0:=HP3.out.frozen 0;by_cases hm:m1=m0
  ·have HI:Hid (dN d i):=hid (by unfold dN;rw[<-HM1.out, <-HM0.out];exact hm)
   have hri:xY d=i:=Zw HI.out rI.out;have d1:((m1:Int)==(m0:Int))=true:=by rw[hm];exact beq_self_eq_true _
   have HR:Hid (w3.ownsRow w.heap.size 3 1 (.slice va n vc) n ((List.range n).map fun s=>cQ (gI d s))):=hid (by
    have h5:=Wt.out;unfold jd at h5;unfold gI;rw[hri];rw[<-HN.out]at h5
    exact h5)
   clear hri;subst hm;go_wp2;rw[Exit.noGoto_ret];go_ret;exact⟨_,rfl,HR.out,od.out⟩
  ·have hmi:¬ ((m1:Int)=(m0:Int)):=by omega
   have d1:((m1:Int)==(m0:Int))=false:=beq_eq_false_iff_ne.2 hmi;have d2:(m1==m0)=false:=beq_eq_false_iff_ne.2 hm;go_wp2;go_roundw;case rel=>
    have kg:ae (· ≠pb) w3 (w3.setCell ⟨pb,0,none⟩ (.slice qa n qc)):=(ae.refl _ _).setCell (p:=⟨pb,0,none⟩) (fun h=>h rfl) _;refine⟨i+1,qa,qc,by rw[HM1.out],fun j hj=>?_,HP3.out.set 0 _,ai Q3.out kg fun x e=>cm HP3.out Q3.out (by decide) x e,HB3.out.keeps kg (by show w.heap.size≠pb;omega),od.out.trans (kg.mono fun x (hx:x<w.heap.size)=>by show x≠pb;omega:ae (· <w.heap.size) w3 _).below⟩;by_cases e:j=i
    ·subst e
     unfold dN;rw[<-HM1.out, <-HM0.out];exact hm
    ·exact rI.out j (by omega)
   case measure=>
    have h5:=HM0.out;simp[intOf];omega
theorem uD (v:Value) (d:DF) (rt:Rt d) (sm:Sm d) (w:World) (h:cS w v d): ah 15 #[v] w fun e w'=>∃ u,e=.returned (.tuple #[u,.int .i64 0])/\w'.ownsRow w.heap.size 3 1 u (bD d).length ((bD d).map cQ)/\aa w w':=by
 obtain⟨iI,y7,kJ,kK,kL⟩:=info_parts Tryz.mB;have CR:Hid (∀ W,aa w W->ah 16 #[v] W fun e w'=>e=.returned (.bool true)/\aa W w'):=fun W hW=>by
  have:=sL v d W (h.below hW) sm;rwa[(dH d).2 rt]at this
 obtain⟨v0,v1,v2,rfl,h0,h1,h2⟩:=h;obtain⟨a0,c0,rfl⟩:=h0.1.form;obtain⟨a1,c1,rfl⟩:=h1.form;obtain⟨a2,c2,rfl⟩:=h2.form;have yA:=rt.mr;rw[yA]at h2 CR ⊢;obtain⟨n,hn⟩:=ag d.nx.length;obtain⟨K,hK⟩:=ag d.cl.length;have Tu:n<=4000:=by have:=rt.le;omega
 have fE:1<=n:=by have:=rt.pos;omega
 have hK2:K<=256:=by have:=rt.En;omega
 rw[<-hn]at h1 h2 CR ⊢;rw[<-hK]at h0 CR ⊢;have H1:=hid h1;have HN:=hid hn;have HK:=hid hK;have RT:=hid rt;clear h0 h1 h2 hn hK yA rt sm;go_enter Tryz.func15,Tryz.ntmps15;go_wp2_with fail
 refine aH ?_;intro V hV;have B1:Hid (ar V w.heap.size #[.slice a0 K c0,.slice a1 n c1,.slice a2 n c2] 29):=by rw[hV];exact ar.new w _ _
 have X1:Hid (aa w V):=by rw[hV];exact((Ext.refl w).alloc _).below
 clear hV;refine(CR.out V X1.out).mono ?_;rintro e w2 ⟨rfl,hx⟩;have C1:=hid (B1.out.below hx B1.out.lt);have GN:w.heap.size<w2.heap.size:=C1.out.lt;have X2:=hid (X1.out.trans (hx.mono X1.out.size));clear hx B1 X1 CR;have XB:Hid (∀ W,ae (fun x=>x<w2.heap.size) w2 W->aa w W):=hid fun W k=>X2.out.trans (k.mono fun x (hx:x<w.heap.size)=>by show x<w2.heap.size;omega:ae (· <w.heap.size) w2 W).below
 go_upto_region 4 with fail
 refine ax ?_;intro V3 cT;have O3:Hid (ar V3 w2.heap.size #[.int .i64 0] 3):=by rw[cT];exact ar.new _ _ _
 have K3:Hid (ae (fun x=>x<w2.heap.size) w2 V3):=by rw[cT];exact hid (ae.ak ((Ext.refl _).alloc _).below fun x h=>h)
 have hs3:w2.heap.size<V3.heap.size:=by rw[cT];simp
 clear cT;have D1:=hid (C1.out.keeps K3.out GN);obtain⟨⟨k0,k1,k2⟩,_⟩:=D1.out.three;go_wp2_with (at_make;refine wpList_make_full _ rfl (.tmp 15) (.tmp 15) 39 rfl V3.heap.size 3 iI (.int .i64 0) 1 Tryz.underlying39 y7 kJ kK .i64 .i64 _ _ n rfl rfl rfl rfl (by rw[kL];omega) (by unfold maxLen;omega) (aD _) ?_;intro w3 hr hg;refine Hid.out ?_);refine hid ?_;have ID:V3.heap.size<w3.heap.size:=by
  rcases hr.2 with⟨h5,_⟩ | ⟨g,c,cur,h5,_,h6,_⟩
  ·cases h5
  ·cases h5;exact(Array.getElem?_eq_some_iff.1 h6).1
 have hb3:aa V3 w3:=(ae.bw hg fun x hx=>⟨hx,fun e=>by cases e⟩:ae (· <V3.heap.size) V3 w3).below;rw[sM]at hr;have R3:=hid hr;have O4:=hid (O3.out.below hb3 O3.out.lt);have K4:Hid (ae (fun x=>x<w2.heap.size) w2 w3):=hid (K3.out.tr (ae.ak hb3 fun x (hx:x<w2.heap.size)=>by omega));clear hr hg hb3 k0 k1 k2 D1 O3 K3;obtain⟨g5,Sg⟩:=ag V3.heap.size;rw[<-Sg]at R3 hs3 ID ⊢;clear Sg;have f0:w3.frozen? ⟨g5,0,none⟩=false:=R3.out.frozenAt 0;have f1:w3.cell? ⟨g5,0,none⟩=some (.int .i64 0):=by rw[R3.out.cellAt 0 (by omega),aO,List.getElem?_replicate,if_pos (by omega)];rfl
 have hni:(0:Int)<n:=by omega
 go_wp2;clear f0 f1;go_loopw [4,6] (fun ov iv wr=>∃ (i:Nat) (L:List Nat),iv=.int .i64 i/\L=kf d i/\i<=L.length/\wr.ownsRow w2.heap.size 3 1 ov L.length (L.map cQ)/\ov.ownBlock≠some g5/\wr.ownsRow g5 3 1 (.slice (some ⟨g5,0,none⟩) n n) n ((nQ n L).map aN)/\ae (fun x=>x<w2.heap.size) w2 wr/\w3.heap.size<=wr.heap.size) (fun _ iv _=>n-(intOf iv).toNat);case atStart=>
  have kg:ae (· ≠g5) w3 (w3.setCell ⟨g5,0,none⟩ (.int .i64 1)):=(ae.refl (· ≠g5) _).setCell (p:=⟨g5,0,none⟩) (fun h=>h rfl) _;refine⟨0,[0],rfl,rfl,Nat.zero_le _,?_,?_,?_,K4.out.tr (kg.mono fun x (hx:x<w2.heap.size)=>by show x≠g5;omega),kg.size⟩
  ·exact⟨rfl,.inr ⟨w2.heap.size,1, #[.int .i64 0],rfl,aD _,O4.out.keeps kg (by show w2.heap.size≠g5;omega),aD _,by unfold maxLen;omega,rfl,rfl⟩⟩
  ·intro e
   have:w2.heap.size=g5:=by simpa[Value.ownBlock]using e
   omega
  ·rw[<-FK (by omega),List.map_set]
   exact(R3.out.stored 0 _).1
 case round=>
  obtain⟨i,L,rfl,hL,zX,ho,hne,pF,hx,hsz⟩:=hrel;obtain⟨wo,rfl⟩:=ag (wr:World);have IL:Hid (KQ n L):=hid (by rw[hL,HN.out];exact qi RT.out i);have Zk:=IL.out.len;have HX:=hid hx;have HO:=hid ho;have HS:=hid pF;have HNE:=hid hne;have HL:=hid hL;clear hx ho pF hne hL;obtain⟨m,hm⟩:=ag L.length;rw[<-hm]at HO zX Zk;have HM:=hid hm;clear hm;obtain⟨oa,oc,rfl⟩:=ownsRow_form HO.out;by_cases hlt:i<m
  ·obtain⟨s,hs⟩:∃ s,L[i]? =some s:=⟨_,az (by have:=HM.out;omega)⟩
   have pF:s<n:=IL.out.lt s (aw hs);obtain⟨og,ou,rfl,hog1,hog2,WH,KP,_⟩:=fB HO.out hlt;rw[aO,hs]at WH;cases WH;replace KP:wo.cell? ⟨og,i,none⟩=some (.int .i64 s):=KP;have hrow:d.nx[s]? =some (d.nx.getD s []):=by rw[bh,az (by rw[<-HN.out];exact pF)];rfl
   obtain⟨b,off,a',c',rfl,hb,hc,lQ⟩:=H1.out.elem hrow;have zv:(d.nx.getD s []).length=K:=by rw[HK.out];exact RT.out.len s (by rw[<-HN.out];exact pF)
   rw[zv]at hc lQ;replace hc:wo.cell? ⟨b,off+s,none⟩=some (.slice a' K c'):=((ae.ak (XB.out wo HX.out) fun _ h=>h:ae (· <w.heap.size) w wo).cell (p:=⟨b,off+s,none⟩) hb).trans hc;replace hb:b<wo.heap.size:=aA hb (XB.out wo HX.out).size;have BW:=hid (C1.out.keeps HX.out GN);have Ez:=hid lQ;have GV:Hid (∀ k,k<K->∃ t:Nat,t<n/\(d.nx.getD s [])[k]? =some (t:Int)/\(rS d s)[k]? =some t):=hid fun k hk=>by
    obtain⟨t,e1,e2,e3⟩:=RU RT.out (s:=s) (k:=k) (by rw[<-HN.out];exact pF) (by rw[<-HK.out];exact hk);exact⟨t,by rw[HN.out];exact e1,e2,e3⟩
   have Zm:Hid (kf d (i+1)=(rS d s).foldl eF L/\(rS d s).length=K):=hid ⟨by rw[FH (by rw[<-HL.out];exact hs), <-HL.out],by rw[HK.out];exact vo RT.out (by rw[<-HN.out];exact pF)⟩;have hii:(i:Int)<m:=by omega
   have Ls:(s:Int)<n:=by omega
   have Vm:=BW.out.cell 1;simp only[List.getElem?_toArray,List.getElem?_cons_zero,List.getElem?_cons_succ]at Vm;clear hs lQ hrow zv;go_upto_region 9 with fail
   refine aK false (fun _=>False) (by kernel_rfl) 10 [0,1,0,0,12,28,63,127,255,0] (fun i=>false) (by kernel_rfl) (fun i=>aZ.any _) ?_;intro C hC hne;have HC:=hid hC;have q1:=aC hC (p:=⟨w.heap.size,1,none⟩) BW.out.lt (fun h=>h) Vm;have q2:=aC hC (p:=⟨og,i,none⟩) hog2 (fun h=>h) KP;have q3:=aC hC (p:=⟨b,off+s,none⟩) hb (fun h=>h) hc;clear hC
   repeat (refine au (fun K hK=>?_);first | (refine bX rfl ?_;try go_simp;refine hK _ _ ?_;clear hK K) | (refine bR rfl rfl ?_;unfold aB;go_simp;refine hK _ _ ?_;clear hK K))
   refine bG (fun W hW hH=>?_);have hM:=(HC.out W).1 hW;have rH:=hM.below;have WO:=hid (aj HO.out rH);have WS:=hid (aj HS.out rH);have WX:Hid (ae (fun x=>x<w2.heap.size) w2 W):=hid (HX.out.tr (ae.ak rH fun x (hx:x<w2.heap.size)=>aA hx HX.out.size));have WB:=hid (BW.out.below rH BW.out.lt);have sX:w3.heap.size<=W.heap.size:=Nat.le_trans hsz rH.size;clear hM rH hW hH HC q1 q2 q3 hne HO HS HX BW Vm KP hc;go_wp2;go_loopw [4,34] (fun ov jv wr=>∃ (j:Nat) (L':List Nat),j<=K/\jv=.int .i64 j/\L'=((rS d s).take j).foldl eF L/\wr.ownsRow w2.heap.size 3 1 ov L'.length (L'.map cQ)/\ov.ownBlock≠some g5/\wr.ownsRow g5 3 1 (.slice (some ⟨g5,0,none⟩) n n) n ((nQ n L').map aN)/\ae (fun x=>x<w2.heap.size) w2 wr/\w3.heap.size<=wr.heap.size) (fun _ jv _=>K-(intOf jv).toNat);case atStart=>exact⟨0,L,Nat.zero_le _,rfl,rfl,by rw[<-HM.out];exact WO.out,HNE.out,WS.out,WX.out,sX⟩
   case round=>
    obtain⟨j,L',hj,rfl,hL',ho,hne,hsn',hx,hsz'⟩:=hrel;obtain⟨wi,rfl⟩:=ag (wr:World)
    have IL':Hid (KQ n L'):=hid (by
     rw[hL'];refine IL.out.fold _ fun t ht=>?_
     have:=Cz RT.out (s:=s) (by rw[<-HN.out];exact pF) t (List.mem_of_mem_take ht)
     rw[HN.out];exact this)
    have ahx:=IL'.out.len;have HO:=hid ho;have HS:=hid hsn';have HX:=hid hx;have Sx:=hid hne;have HL':=hid hL';clear ho hsn' hx hne hL';obtain⟨m',WG⟩:=ag L'.length;rw[<-WG]at HO ahx;have HM':=hid WG;clear WG;obtain⟨oa,oc',rfl⟩:=ownsRow_form HO.out;by_cases Dt:j<K
    ·obtain⟨t,s7,hz,Oa⟩:=GV.out j Dt
     obtain⟨b',off',rfl,hb',hc'⟩:=(Ez.out.below (XB.out wi HX.out)).elem hz;replace hc':wi.cell? ⟨b',off'+j,none⟩=some (.int .i64 (t:Int)):=hc';have ki:(j:Int)<K:=by omega
     have hti:(t:Int)<n:=by omega
     have hstep:((rS d s).take (j+1)).foldl eF L=eF L' t:=by rw[Nl L Oa,HL'.out]
     obtain⟨sg,su,se,_,hsg,hsu,hsc,hsf⟩:=fB HS.out s7;cases se;rw[aO,rU _ s7]at hsu;by_cases jY:t∈L'
     ·rw[if_pos jY]at hsu
      cases hsu
      have hst:eF L' t=L':=by unfold eF;rw[if_pos jY]
      rw[hst]at hstep;replace hsc:wi.cell? ⟨g5,t,none⟩=some (.int .i64 1):=hsc;have HST:=hid hstep;clear hstep hst hz Oa;go_wp2;go_roundw;case rel=>exact⟨j+1,L',by omega,by go_num,HST.out.symm,by rw[<-HM'.out];exact HO.out,Sx.out,HS.out,HX.out,hsz'⟩
      case measure=>simp[intOf];omega
     ·rw[if_neg jY]at hsu
      cases hsu
      have hst:eF L' t=L'++ [t]:=by unfold eF;rw[if_neg jY]
      rw[hst]at hstep;replace hsc:wi.cell? ⟨g5,t,none⟩=some (.int .i64 0):=hsc;have HST:=hid hstep;have ako:m'+1<=n:=by
       have:=(IL'.out.add s7).len;rw[hst,aG]at this;have:=HM'.out;simp at*;omega
      clear hstep hst hz Oa;go_upto_region 14 with fail
      refine ax ?_;intro W3 hW3;have kg:ae (· ≠g5) wi W3:=by rw[hW3];exact(ae.refl (· ≠g5) _).setCell (p:=⟨g5,t,none⟩) (fun h=>h rfl) _
      have S3:Hid (W3.ownsRow g5 3 1 (.slice (some ⟨g5,0,none⟩) n n) n ((nQ n (L'++ [t])).map aN)):=hid (by
       rw[<-Aw L' s7,List.map_set,hW3]
       exact(HS.out.stored t _).1)
      have U3:Hid (W3.ownsRow w2.heap.size 3 1 (.slice oa m' oc') m' (L'.map cQ)):=hid (ai HO.out kg fun x hx e=>Sx.out (by rw[hx,e]));have Y3:Hid (ae (fun x=>x<w2.heap.size) w2 W3):=hid (HX.out.tr (kg.mono fun x (hx:x<w2.heap.size)=>by show x≠g5;omega));have hs5:w3.heap.size<=W3.heap.size:=Nat.le_trans hsz' kg.size;clear hW3 kg HO HS HX hsc hsf hc';go_wp2_with (at_builtin;refine wpList_append_own_at _ rfl (.tmp 46) (.tmp 48) 39 rfl w2.heap.size 3 iI (.int .i64 0) 1 8 Tryz.underlying39 y7 kJ kK kL rfl (by decide) _ _ _ rfl (U3.out.alloc _) ⟨W3.heap.size,0,none⟩ 1 1 [cQ t] rfl rfl (eX _ _ _) (by simp[Value.oneCell',cQ]) (by unfold maxLen;omega) (by omega) (by simp;omega) ?_;intro v' w6 hown' hgrow hh hat;have j8:=hid hown';have HG:=hid hgrow;clear hown' hgrow hh);go_roundw;case rel=>
       have hs6:W3.heap.size<=w6.heap.size:=by have:=HG.out.size;simp at this;omega
       have AY:∀ x,(Value.slice oa m' oc').ownBlock=some x->w2.heap.size<=x:=fun x hx=>(U3.out.lt x hx).1
       refine⟨j+1,L'++ [t],by omega,by go_num,HST.out.symm,?_,?_,?_,?_,by omega⟩
       ·rw[aG, <-HM'.out,List.map_append]
        exact j8.out
       ·intro e
        rcases hat with h5 | h5
        ·exact Sx.out (h5.symm.trans e)
        ·rw[h5]at e
         have h6:(W3.alloc (.cells #[cQ t] 3)).heap.size=g5:=by simpa using e
         simp at h6;omega
       ·refine(S3.out.alloc _).kept HG.out (.inr fun e=>?_)
        exact Sx.out e.symm
       ·exact(Y3.out.tr (ae.ak ((Ext.refl _).alloc _).below fun x (hx:x<w2.heap.size)=>by omega)).tr (ae.bw HG.out fun x (hx:x<w2.heap.size)=>⟨by simp;omega,fun e=>by have:=AY x e.symm;omega⟩)
      case measure=>simp[intOf];omega
    ·obtain rfl:j=K:=by omega
     have ki:¬ ((j:Int)<j):=by omega
     have kQ:L'=kf d (i+1):=by rw[HL'.out,Zm.out.1,List.take_of_length_le (by rw[Zm.out.2];exact aD _)]
     have HF:=hid kQ;clear kQ;have sw:m<=m':=by rw[HM.out,HM'.out,HL'.out];exact FD _ _
     go_wp2;go_roundw;case rel=>exact⟨i+1,L',by go_num,HF.out,by have:=HM'.out;omega,by rw[<-HM'.out];exact HO.out,Sx.out,HS.out,HX.out,hsz'⟩
     case measure=>simp[intOf];omega
  ·obtain rfl:i=m:=by omega
   have hii:¬ ((i:Int)<i):=by omega
   have kQ:bD d=L:=by rw[HL.out];exact FJ (by rw[<-HL.out, <-HM.out];exact aD _) (by rw[<-HN.out];exact Zk)
   have HF:=hid kQ;clear kQ;go_wp2;refine bodyPost_ret (v:=.tuple #[.slice oa i oc,.int .i64 0]) (by simp[results,Tryz.results15,go_sem]) rfl ?_;exact⟨_,rfl,by rw[HF.out, <-HM.out];exact aF HO.out (Nat.le_of_lt GN),X2.out.trans (HX.out.mono fun x (hx:x<w.heap.size)=>by show x<w2.heap.size;omega:ae (· <w.heap.size) w2 wo).below⟩
attribute [local go_sem] encS
theorem eE (W:World) (b:Nat) (x y z:Value):ae (· ≠b) W (((W.setCell ⟨b,0,none⟩ x).setCell ⟨b,1,none⟩ y).setCell ⟨b,2,none⟩ z):=
 (((ae.refl _ _).setCell (p:=⟨b,0,none⟩) (fun h=>h rfl) _).setCell (p:=⟨b,1,none⟩) (fun h=>h rfl) _).setCell (p:=⟨b,2,none⟩) (fun h=>h rfl) _
theorem Sy (v:Value) (d:DF) (rt:Rt d) (sm:Sm d) (w:World) (h:cS w v d): ah 115 #[v] w fun e w'=>∃ u,e=.returned (.tuple #[u,.int .i64 0])/\bA w.heap.size w' u (aI d)/\aa w w':=by
 obtain⟨iI,y7,kJ,kK,kL⟩:=info_parts Tryz.mB;obtain⟨iL,zX,mK,mL,mM⟩:=info_parts Tryz.tR;have CR:Hid (∀ W,aa w W->ah 15 #[v] W fun e w'=>∃ u,e=.returned (.tuple #[u,.int .i64 0])/\w'.ownsRow W.heap.size 3 1 u (bD d).length ((bD d).map cQ)/\aa W w'):=hid fun W hW=>uD v d rt sm W (h.below hW)
 obtain⟨v0,v1,v2,rfl,h0,h1,h2⟩:=h;obtain⟨a0,c0,rfl⟩:=h0.1.form;obtain⟨a1,c1,rfl⟩:=h1.form;obtain⟨a2,c2,rfl⟩:=h2.form;have yA:=rt.mr;rw[yA]at h2 CR ⊢;obtain⟨n,hn⟩:=ag d.nx.length;obtain⟨K,hK⟩:=ag d.cl.length;obtain⟨L,hL⟩:=ag (bD d);obtain⟨m,hm⟩:=ag L.length;rw[<-hL, <-hm]at CR;have IL:Hid (KQ n L):=hid (by rw[hL,hn];exact dA rt);have Tu:n<=4000:=by have:=rt.le;omega
 have fE:1<=n:=by have:=rt.pos;omega
 have hK2:K<=256:=by have:=rt.En;omega
 have hmn:m<=n:=by rw[hm];exact IL.out.len
 rw[<-hn]at h1 h2 CR ⊢;rw[<-hK]at h0 CR ⊢;have HMK:Hid (∀ s,s<n->∃ (b:Nat) (off:Nat) (ad:Option Addr) (cp:Nat),a2=some ⟨b,off,none⟩/\b<w.heap.size/\w.cell? ⟨b,off+s,none⟩=some (.slice ad (d.mr.getD s []).length cp)/\bZ aN w (.slice ad (d.mr.getD s []).length cp) (d.mr.getD s [])):=hid fun s hs=>by
  have hrow:d.mr[s]? =some (d.mr.getD s []):=by rw[bh,az (by rw[yA, <-hn];exact hs)];rfl
  obtain⟨b,off,a',c',e1,e2,e3,e4⟩:=h2.elem hrow;exact⟨b,off,a',c',e1,e2,e3,e4⟩
 have GV:Hid (∀ s,s<n->∃ (b:Nat) (off:Nat) (ad:Option Addr) (cp:Nat),a1=some ⟨b,off,none⟩/\b<w.heap.size/\w.cell? ⟨b,off+s,none⟩=some (.slice ad K cp)/\bZ aN w (.slice ad K cp) (d.nx.getD s [])):=hid fun s hs=>by
  have hrow:d.nx[s]? =some (d.nx.getD s []):=by rw[bh,az (by rw[<-hn];exact hs)];rfl
  obtain⟨b,off,a',c',e1,e2,e3,e4⟩:=h1.elem hrow;rw[rt.len s (by rw[<-hn];exact hs), <-hK]at e3 e4;exact⟨b,off,a',c',e1,e2,e3,e4⟩
 have H0:=hid h0;have HN:=hid hn;have HK:=hid hK;have HL:=hid hL;have HM:=hid hm;have RT:=hid rt;have SM:=hid sm;have HZ:Hid (∀ s,s∈L->∀ j,j<K->∃ t:Nat,t<n/\t∈L/\(d.nx.getD s [])[j]? =some (t:Int)/\(rS d s)[j]? =some t):=hid fun s hs j hj=>by
  have pF:=IL.out.lt s hs;obtain⟨t,e1,e2,e3⟩:=RU rt (s:=s) (k:=j) (by rw[<-hn];exact pF) (by rw[<-hK];exact hj);exact⟨t,by rw[hn];exact e1,by rw[hL]at hs ⊢;exact l8 rt hs (aw e3),e2,e3⟩
 have Zm:Hid (∀ s,s<n->(rS d s).length=K):=hid fun s hs=>by rw[hK];exact vo rt (by rw[<-hn];exact hs)
 clear h0 h1 h2 hn hK yA rt sm hL hm;go_enter Tryz.func115,Tryz.ntmps115;go_wp2_with fail
 refine aH ?_;intro V hV;have B1:Hid (ar V w.heap.size #[.slice a0 K c0,.slice a1 n c1,.slice a2 n c2] 29):=hid (by rw[hV];exact(ar.new w _ _).alloc _);have R1:Hid (ar V (w.heap.size+1) #[.slice none 0 0,.slice none 0 0,.slice none 0 0] 29):=hid (by rw[hV];exact(ar.new (w.alloc _) _ _).at (by simp));have X1:Hid (aa w V):=hid (by rw[hV];exact(((Ext.refl w).alloc _).alloc _).below);clear hV;have hsV:w.heap.size+1<V.heap.size:=R1.out.lt;refine(CR.out V X1.out).mono ?_;rintro e w2 ⟨u,rfl,ho,hx⟩;obtain⟨la,lc,rfl⟩:=ownsRow_form ho;have LR:=hid ho;have B2:=hid (B1.out.below hx B1.out.lt);have R2:=hid (R1.out.below hx R1.out.lt);have X2:=hid (X1.out.trans (hx.mono X1.out.size));have hs2:V.heap.size<=w2.heap.size:=hx.size;have L1:Hid (∀ x,(Value.slice la m lc).ownBlock=some x->x<w2.heap.size/\V.heap.size<=x):=hid fun x e=>⟨(ho.lt x e).2,(ho.lt x e).1⟩
 clear ho hx CR B1 R1 X1;obtain⟨⟨k0,k1,k2⟩,_⟩:=B2.out.three;go_wp2_with (at_make;refine wpList_make_full _ rfl (.tmp 26) (.tmp 26) 39 rfl w2.heap.size 3 iI (.int .i64 0) 1 Tryz.underlying39 y7 kJ kK .i64 .i64 _ _ n rfl rfl rfl rfl (by rw[kL];omega) (by unfold maxLen;omega) (aD _) ?_;intro w3 hr hg;refine Hid.out ?_);refine hid ?_;have ID:w2.heap.size<w3.heap.size:=by
  rcases hr.2 with⟨h5,_⟩ | ⟨g,c,cur,h5,_,h6,_⟩
  ·cases h5
  ·cases h5;exact(Array.getElem?_eq_some_iff.1 h6).1
 have hb3:aa w2 w3:=(ae.bw hg fun x hx=>⟨hx,fun e=>by cases e⟩:ae (· <w2.heap.size) w2 w3).below;rw[sM]at hr;have N3:=hid hr;have L3:=hid (aj LR.out hb3);have B3:=hid (B2.out.below hb3 B2.out.lt);have R3:=hid (R2.out.below hb3 R2.out.lt);have X3:=hid (X2.out.trans (hb3.mono X2.out.size));clear hr hg hb3 k0 k1 k2 LR B2 R2 X2;obtain⟨g5,Sg⟩:=ag w2.heap.size;rw[<-Sg]at N3 ID hs2 L1 ⊢;clear Sg;go_wp2;go_loopw [30] (fun iv wr=>∃ i:Nat,i<=m/\iv=.int .i64 i/\wr.ownsRow g5 3 1 (.slice (some ⟨g5,0,none⟩) n n) n ((xz n L i).map aN)/\ae (· ≠g5) w3 wr) (fun iv _=>m-(intOf iv).toNat);case atStart=>exact⟨0,Nat.zero_le _,rfl,by rw[<-Nn];exact N3.out,ae.refl _ _⟩
 case round=>
  obtain⟨i,hi,rfl,hnu,hx⟩:=hrel;obtain⟨wo,rfl⟩:=ag (wr:World);have HX:=hid hx;have NU:=hid hnu;have LO:=hid (ai L3.out hx fun x e=>by have:=L1.out x e;show x≠g5;omega);clear hx hnu;by_cases hlt:i<m
  ·obtain⟨s,hs⟩:∃ s,L[i]? =some s:=⟨_,az (by have:=HM.out;omega)⟩
   have pF:s<n:=IL.out.lt s (aw hs);obtain⟨lg,lu,rfl,_,_,WH,KP,_⟩:=fB LO.out hlt;rw[aO,hs]at WH;cases WH;replace KP:wo.cell? ⟨lg,i,none⟩=some (.int .i64 s):=KP;obtain⟨sg,su,se,_,hsg,hsu,hsc,hsf⟩:=fB NU.out pF;cases se;have oP:=RZ (N:=n) IL.out.nodup hs pF;have Ht:=hid oP;have hii:(i:Int)<m:=by omega
   have Ls:(s:Int)<n:=by omega
   clear hs oP hsu;go_wp2;go_roundw;case rel=>
    refine⟨i+1,by omega,by go_num,?_,HX.out.setCell (p:=⟨g5,s,none⟩) (fun h=>h rfl) _⟩;rw[<-Ht.out,List.map_set];exact(NU.out.stored s _).1
   case measure=>simp[intOf];omega
  ·obtain rfl:i=m:=by omega
   have hii:¬ ((i:Int)<i):=by omega
   have BO:=hid (B3.out.keeps HX.out (by show w.heap.size≠g5;omega));have RO:=hid (R3.out.keeps HX.out (by show w.heap.size+1≠g5;omega));have XO:Hid (aa w wo):=hid (X3.out.trans (HX.out.mono fun x (hx:x<w.heap.size)=>by show x≠g5;omega:ae (· <w.heap.size) w3 wo).below);have hso:w3.heap.size<=wo.heap.size:=HX.out.size;clear HX L3 B3 R3 X3 N3 hi hlt;obtain⟨⟨k0,k1,k2⟩,_⟩:=BO.out.three;go_wp2_with fail
   refine(pq (.slice a0 K c0) d.cl wo ⟨H0.out.1.below XO.out,H0.out.2⟩ SM.out.cl).mono ?_;rintro e w5 ⟨u,rfl,ho,hx⟩;rw[<-HK.out]at ho;obtain⟨ca,cc,rfl⟩:=ownsRow_form ho;have C5:=hid ho;have B5:=hid (BO.out.below hx BO.out.lt);have R5:=hid (RO.out.below hx RO.out.lt);have X5:=hid (XO.out.trans (hx.mono XO.out.size));have N5:=hid (aj NU.out hx);have L5:=hid (aj LO.out hx);have hs5:wo.heap.size<=w5.heap.size:=hx.size;clear ho hx BO RO XO NU LO k0 k1 k2;go_wp2;refine ax ?_;intro V6 UO;have D6:Hid (ar V6 w5.heap.size #[.slice ca K cc,.slice none 0 0,.slice none 0 0] 29):=hid (by rw[UO];exact ar.new _ _ _);have qK:aa w5 V6:=by rw[UO];exact((Ext.refl _).alloc _).below
   clear UO;have hs6:w5.heap.size<V6.heap.size:=D6.out.lt;have B6:=hid (B5.out.below qK B5.out.lt);have R6:=hid (R5.out.below qK R5.out.lt);have X6:=hid (X5.out.trans (qK.mono X5.out.size));have N6:=hid (aj N5.out qK);have L6:=hid (aj L5.out qK);have C6:=hid (aj C5.out qK);clear qK B5 R5 X5 N5 L5 C5;go_loopw [46] (fun kv wr=>∃ (k:Nat) (nx mk:Value),k<=i/\kv=.int .i64 k/\ar wr w5.heap.size #[.slice ca K cc,nx,mk] 29/\br V6.heap.size wr nx ((L.take k).map (qj d))/\br V6.heap.size wr mk ((L.take k).map fun s=>d.mr.getD s [])/\py nx mk/\ae (fun x=>x<V6.heap.size/\x≠w5.heap.size) V6 wr) (fun kv _=>i-(intOf kv).toNat);case atStart=>exact⟨0,_,_,Nat.zero_le _,rfl,D6.out,br.nil _ _,br.nil _ _,.inl rfl,ae.refl _ _⟩
   case round=>
    obtain⟨k,nx,mk,hk,rfl,hb,Dy,lC,hfar,hx⟩:=hrel;obtain⟨ja,rfl⟩:=ag (wr:World);have WI:=hid hb;have zh:=hid Dy;have zi:=hid lC;have WJ:=hid hfar;have HX:=hid hx;have LO:=hid (ai L6.out hx fun x e=>by have:=L1.out x e;exact⟨by omega,by omega⟩)
    have NU:=hid (ai N6.out hx fun x e=>by
     have e2:g5=x:=by simpa[Value.ownBlock]using e
     exact⟨by omega,by omega⟩)
    have CO:=hid (ai C6.out hx fun x e=>by
     have h5:=C6.out.lt x e
     exact⟨h5.2,fun e2=>cm D6.out C6.out (by decide) x e e2⟩)
    have BO:=hid (B6.out.keeps hx ⟨by omega,by omega⟩);have RO:=hid (R6.out.keeps hx ⟨by omega,by omega⟩);have XO:Hid (aa w ja):=hid (X6.out.trans (hx.mono fun x (hx:x<w.heap.size)=>⟨by omega,by omega⟩:ae (· <w.heap.size) V6 ja).below);have ahB:V6.heap.size<=ja.heap.size:=hx.size;clear hb Dy lC hfar hx;by_cases hlt:k<i
    ·obtain⟨s,hs⟩:∃ s,L[k]? =some s:=⟨_,az (by have:=HM.out;omega)⟩
     have hsL:=aw hs;have pF:s<n:=IL.out.lt s hsL;obtain⟨lg,lu,rfl,_,_,WH,KP,_⟩:=fB LO.out hlt;rw[aO,hs]at WH;cases WH;replace KP:ja.cell? ⟨lg,k,none⟩=some (.int .i64 s):=KP;obtain⟨b1,ND,ad1,cp1,rfl,hb1,hc1,hsl1⟩:=GV.out s pF;replace hc1:ja.cell? ⟨b1,ND+s,none⟩=some (.slice ad1 K cp1):=((ae.ak XO.out fun _ h=>h:ae (· <w.heap.size) w ja).cell (p:=⟨b1,ND+s,none⟩) hb1).trans hc1;have Ez:=hid hsl1;have fD:L.take (k+1)=L.take k++ [s]:=by rw[List.take_add_one,hs];rfl
     have pO:=hid fD;have HSM:=hid hsL;have eG:(k:Int)<i:=by omega
     have Ls:(s:Int)<n:=by omega
     have Vm:=BO.out.cell 1;simp only[List.getElem?_toArray,List.getElem?_cons_zero,List.getElem?_cons_succ]at Vm;clear hs hsl1 fD hsL;go_wp2;clear Vm hc1 KP;go_loopw [12,56] (fun tv jv wr=>∃ j:Nat,j<=K/\jv=.int .i64 j/\wr.ownsRow ja.heap.size 3 1 tv j (((rS d s).take j).map fun t=>cQ (L.idxOf t))/\ae (fun x=>x<ja.heap.size) ja wr) (fun _ jv _=>K-(intOf jv).toNat);case atStart=>exact⟨0,Nat.zero_le _,rfl,World.ownsRow_nil _ _ _ _,ae.refl _ _⟩
     case round=>
      obtain⟨j,hj,rfl,ht,hx⟩:=hrel;obtain⟨wi,rfl⟩:=ag (wr:World);have HT:=hid ht;have KI:=hid hx;have XI:Hid (aa w wi):=hid (XO.out.trans (hx.mono fun x (hx:x<w.heap.size)=>by show x<ja.heap.size;omega:ae (· <w.heap.size) ja wi).below);have ahD:ja.heap.size<=wi.heap.size:=hx.size;clear ht hx;obtain⟨ta,tc,rfl⟩:=ownsRow_form HT.out;by_cases Dt:j<K
      ·obtain⟨t,s7,htL,hz,Oa⟩:=HZ.out s HSM.out j Dt
       obtain⟨b',off',rfl,hb',hc'⟩:=(Ez.out.below XI.out).elem hz;replace hc':wi.cell? ⟨b',off'+j,none⟩=some (.int .i64 (t:Int)):=hc';have NUI:=ai NU.out KI.out fun x e=>(NU.out.lt x e).2
       obtain⟨sg,su,se,_,hsg,hsu,hsc,hsf⟩:=fB NUI s7;cases se;rw[aO,show xz n L i=xz n L L.length by rw[HM.out],Sa htL s7]at hsu;cases hsu;replace hsc:wi.cell? ⟨g5,t,none⟩=some (.int .i64 (L.idxOf t:Int)):=hsc;have ki:(j:Int)<K:=by omega
       have hti:(t:Int)<n:=by omega
       have ac6:(((rS d s).take (j+1)).map fun t=>cQ (L.idxOf t))=(((rS d s).take j).map fun t=>cQ (L.idxOf t))++ [cQ (L.idxOf t)]:=by rw[List.take_add_one,Oa];simp
       have HT2:=hid ac6;obtain⟨ix,U9⟩:=ag (L.idxOf t);rw[<-U9]at hsc HT2;clear hz Oa ac6 NUI U9;go_wp2_with (at_builtin;refine wpList_append_own_at _ rfl (.tmp 60) (.tmp 65) 39 rfl ja.heap.size 3 iI (.int .i64 0) 1 8 Tryz.underlying39 y7 kJ kK kL rfl (by decide) _ _ _ rfl (HT.out.alloc _) ⟨wi.heap.size,0,none⟩ 1 1 [cQ ix] rfl rfl (eX _ _ _) (by simp[Value.oneCell',cQ]) (by unfold maxLen;omega) (by omega) (by simp;omega) ?_;intro v' w6 hown' hgrow hh hat;have j8:=hid hown';have HG:=hid hgrow;clear hown' hgrow hh hat);go_roundw;case rel=>
        have AY:∀ x,(Value.slice ta j tc).ownBlock=some x->ja.heap.size<=x:=fun x hx=>(HT.out.lt x hx).1
        refine⟨j+1,by omega,by go_num,by rw[HT2.out];exact j8.out,?_⟩;exact(KI.out.tr (ae.ak ((Ext.refl _).alloc _).below fun x (hx:x<ja.heap.size)=>by show x<wi.heap.size;omega)).tr (ae.bw HG.out fun x (hx:x<ja.heap.size)=>⟨by simp;omega,fun e=>by have:=AY x e.symm;omega⟩)
       case measure=>simp[intOf];omega
      ·obtain rfl:j=K:=by omega
       have ki:¬ ((j:Int)<j):=by omega
       have TV:Hid (wi.ownsRow ja.heap.size 3 1 (.slice ta j tc) j ((qj d s).map aN)):=hid (by
        have h5:=HT.out;rw[List.take_of_length_le (by rw[Zm.out s pF];exact aD _)]at h5;have e:(qj d s).map aN=(rS d s).map fun t=>cQ (L.idxOf t):=by unfold qj;rw[List.map_map, <-HL.out];rfl
        rw[e];exact h5)
       have zv:(qj d s).length=j:=by unfold qj;rw[aQ,Zm.out s pF]
       have Yf:=hid zv;clear zv HT;obtain⟨b2,fV,WK,WM,rfl,hb2,hc2,xE⟩:=HMK.out s pF;have hcw:wi.cell? ⟨b2,fV+s,none⟩=some (.slice WK (d.mr.getD s []).length WM):=((ae.ak XI.out fun _ h=>h:ae (· <w.heap.size) w wi).cell (p:=⟨b2,fV+s,none⟩) hb2).trans hc2;have Sz:(d.mr.getD s []).length<=1000000:=by
        by_cases h5:s<d.mr.length
        ·exact SM.out.mks _ (aw (by rw[bh,az h5];rfl:d.mr[s]? =some _))
        ·rw[bh,aX (by omega)];exact Nat.zero_le _
       obtain⟨ml,sr⟩:=ag ((d.mr.getD s []).length);obtain⟨mx,hmx⟩:=ag ((d.mr.getD s []).map aN);have Ku:Hid (∀ W,aa w W->ah 22 #[.slice WK ml WM] W fun e w'=>∃ u,e=.returned u/\w'.ownsRow W.heap.size 3 1 u ml mx/\aa W w'):=hid fun W hW=>by
        rw[sr,hmx];exact pA _ (d.mr.getD s []) W (xE.below hW) Sz
       rw[<-sr]at hcw;have NXI:=zh.out.keeps KI.out fun x _ h2=>h2
       have MKI:=zi.out.keeps KI.out fun x _ h2=>h2
       obtain⟨us,u1,u2,u3⟩:=NXI;obtain⟨ms,m1,m2,m3⟩:=MKI;have AZ:(L.take k).length=k:=by rw[List.length_take];have:=HM.out;omega
       have Rf:us.length=k:=by rw[u1,aQ,AZ]
       have Jc:ms.length=k:=by rw[m1,aQ,AZ]
       rw[Rf]at u2;rw[Jc]at m2;obtain⟨na,nc,rfl⟩:=ownsRow_form u2;obtain⟨ma,mc,rfl⟩:=ownsRow_form m2;have Jv:=hid (WI.out.keeps KI.out (by show w5.heap.size<ja.heap.size;omega));have BI:=hid (BO.out.keeps KI.out (by show w.heap.size<ja.heap.size;omega));have Zx:Hid (∀ x,(Value.slice na k nc).ownBlock=some x->x<ja.heap.size/\V6.heap.size<=x):=hid (by obtain⟨Vn,h0,h2,_⟩:=zh.out;exact fun x e=>⟨(h2.lt x e).2,(h2.lt x e).1⟩);have Vo:Hid (∀ x,(Value.slice ma k mc).ownBlock=some x->x<ja.heap.size/\V6.heap.size<=x):=hid (by obtain⟨Vn,h0,h2,_⟩:=zi.out;exact fun x e=>⟨(h2.lt x e).2,(h2.lt x e).1⟩);have U1:=hid u1;have U2:=hid u2;have U3:=hid u3;have M1:=hid m1;have M2:=hid m2;have M3:=hid m3;have HUS:=hid Rf;have WN:=hid Jc;have za:=hid sr;have YY:=hid hmx;have HCW:=hid hcw;clear u1 u2 u3 m1 m2 m3 Rf Jc sr hmx zh zi hc2 xE AZ hcw Sz;obtain⟨PL,vn⟩:=ag ([(jl wi.heap.size (.slice na k nc) k us (.slice ta j tc)),(mkApp wi.heap.size (.slice ma k mc) k ms ml mx)]:List il.App);have oT:PL[0]? =some (jl wi.heap.size (.slice na k nc) k us (.slice ta j tc)):=by rw[vn];rfl
       have xy:PL[1]? =some (mkApp wi.heap.size (.slice ma k mc) k ms ml mx):=by rw[vn];rfl
       have hall:∀ q∈PL,q=(jl wi.heap.size (.slice na k nc) k us (.slice ta j tc))\/q=(mkApp wi.heap.size (.slice ma k mc) k ms ml mx):=fun q hq=>by rw[vn]at hq;simpa using hq
       have Dd:Hid (il.kj wi PL):=hid ⟨fun q hq=>by rcases hall q hq with rfl | rfl<;>exact aD _,fun q hq x e=>by
        rcases hall q hq with rfl | rfl
        ·have:=Zx.out x e;omega
        ·have:=Vo.out x e;omega,fun i j q q' hi hj mz=>by
        have hl:PL.length=2:=by rw[vn];rfl
        have h1:=(List.getElem?_eq_some_iff.1 hi).1;have h2:=(List.getElem?_eq_some_iff.1 hj).1;rcases(show i=0\/i=1 by omega)with rfl | rfl<;>rcases(show j=0\/j=1 by omega)with rfl | rfl<;>(first | (exact absurd rfl mz) | skip)<;>(first | rw[oT]at hi | rw[xy]at hi)<;>(first | rw[oT]at hj | rw[xy]at hj)<;>cases hi<;>cases hj
        ·exact WJ.out
        ·exact WJ.out.symm⟩
       have Jh:∀ x,(x<V6.heap.size\/ja.heap.size<=x)->¬ ∃ q∈PL,q.v.ownBlock=some x:=fun x hx ⟨q,hq,e⟩=>by
        rcases hall q hq with rfl | rfl
        ·have:=Zx.out x e;omega
        ·have:=Vo.out x e;omega
       have Cy:=hid hall;have Gh:=hid Jh;have y9:Hid (∀ W',il.bT V6.heap.size wi PL wi W'->aa w W'):=hid fun W' h=>XI.out.trans (h.keeps.mono fun x hx=>⟨by have:x<w.heap.size:=hx;omega,Jh x (by have:x<w.heap.size:=hx;omega)⟩:ae (· <w.heap.size) wi W').below
       clear vn hall Jh;go_upto_region 20 with fail
       have HST:Hid (∀ W W' u,il.bT V6.heap.size wi PL W W'->(u.oneCell'=true/\W.ownsRow wi.heap.size 3 1 u ml mx)->(u.oneCell'=true/\W'.ownsRow wi.heap.size 3 1 u ml mx)):=hid fun W W' u hm h=>⟨h.1,ai h.2 hm.keeps fun x hx=>⟨(h.2.lt x hx).2,Gh.out x (.inr (by have:=(h.2.lt x hx).1;omega))⟩⟩
       refine RegG.bB (il.bT V6.heap.size wi PL) (il.bT.drew) (fun _ _ _ h k=>h.trans k) (by kernel_rfl) 16 [0,1,0,4,15,0,32,0,128,0,896,1920,3999,8095,16383,127,65535,131071,262143] (fun i=>i==3 || i==4 || i==12 || i==13 || i==14) (by kernel_rfl) (fun j=>if j=14 then some 72 else none) (fun j hj=>(by first | rfl | (have kR:19<=j:=hj;first | exact if_neg (by omega) | (split<;>first | omega | rfl)))) (by kernel_rfl) (fun i=>if i=3 then il.ij.vR V6.heap.size wi PL 1 #[.slice ta j tc] 39 else if i=4 then il.ij.app V6.heap.size wi PL (jl wi.heap.size (.slice na k nc) k us (.slice ta j tc)) (aw oT)else if i=12 then il.ij.row V6.heap.size wi PL Dd.out wi.heap.size (aD _) 3 1 ml mx else if i=13 then il.ij.Ul V6.heap.size wi PL 39 (fun W u=>u.oneCell'=true/\W.ownsRow wi.heap.size 3 1 u ml mx) HST.out else if i=14 then il.ij.Bn V6.heap.size wi PL (mkApp wi.heap.size (.slice ma k mc) k ms ml mx) (aw xy)else RegG.aZ.any _) ?_;intro C hC hne;have HC:=hid hC;have jY:∀ {x:Nat},x<wi.heap.size->(¬ ∃ q∈PL,q.v.ownBlock=some x)->∀ W: {W//C W},W.1.heap[x]? =wi.heap[x]? :=fun {x} h1 h2 W=>((hC W.1).1 W.2).keeps.keep x ⟨h1,h2⟩
       have o1:∀ W: {W//C W},W.1.cell? ⟨w5.heap.size,1,none⟩=some (.slice na k nc):=fun W=>(Jv.out.same (jY Jv.out.lt (Gh.out _ (by omega)) W)).cell 1
       have o2:∀ W: {W//C W},W.1.cell? ⟨w5.heap.size,2,none⟩=some (.slice ma k mc):=fun W=>(Jv.out.same (jY Jv.out.lt (Gh.out _ (by omega)) W)).cell 2
       have o3:∀ W: {W//C W},W.1.cell? ⟨w.heap.size,2,none⟩=some (.slice (some ⟨b2,fV,none⟩) n c2):=fun W=>(BI.out.same (jY BI.out.lt (Gh.out _ (by omega)) W)).cell 2
       have o4:∀ W: {W//C W},W.1.cell? ⟨b2,fV+s,none⟩=some (.slice WK ml WM):=fun W=>by
        have e:W.1.cell? ⟨b2,fV+s,none⟩=wi.cell? ⟨b2,fV+s,none⟩:=by unfold World.cell?;rw[jY (x:=b2) (by have:=XI.out.size;omega) (Gh.out b2 (by omega)) W]
        exact e.trans HCW.out
       clear hC jY
       repeat (refine RegG.au (fun K hK=>?_);first | (refine RegG.bX rfl ?_;try go_simp;refine hK _ _ ?_;clear hK K) | (refine RegG.bR rfl rfl ?_;unfold aB;go_simp;refine hK _ _ ?_;clear hK K))
       refine RegG.au (fun K hK=>?_);refine RegG.ck rfl rfl (il.ij.vR V6.heap.size wi PL 1 #[.slice ta j tc] 39) rfl (fun W hW hN=>?_) (fun v hv=>?_)
       ·have hM:=(HC.out W).1 hW
        clear hW hK K
        (go_simp;exact⟨.below ((Ext.refl _).alloc _).below,⟨_,rfl⟩,fun b hb=>by cases hb;exact⟨ar.new _ _ _,Dd.out.fresh hM.size⟩⟩)
       obtain⟨x3,rfl⟩:=hv;go_simp;refine hK _ _ ?_;clear hK K;refine RegG.au (fun K hK=>?_);refine RegG.ck rfl rfl (il.ij.app V6.heap.size wi PL (jl wi.heap.size (.slice na k nc) k us (.slice ta j tc)) (aw oT)) rfl (fun W hW hN=>?_) (fun v hv=>?_)
       ·have hM:=(HC.out W).1 hW
        clear hW hK K;refine il.dI (w0:=wi) (PL:=PL) (p:=(jl wi.heap.size (.slice na k nc) k us (.slice ta j tc))) (.tmp 69) (.tmp 71) 27 rfl iL (.slice none 0 0) 24 Tryz.underlying27 zX mK mL mM rfl (show(0:Nat)<1 from by decide) Dd.out oT rfl (hM.old _ (aw oT) U2.out) ⟨x3,0,none⟩ 1 rfl [.slice ta j tc] rfl rfl (cK (hN.at 0 rfl (by kernel_rfl) x3 rfl).1) (by intro u hu;simp at hu;rw[hu];rfl) (by show k+1<=maxLen;unfold maxLen;omega) (by show(k+1)*24<=_;omega) (Nat.le_trans (by omega) hM.size) (show(0:Nat)<1 from by decide) hM.size (fun v W2 g1 g2 g3 _=>⟨g1,g2,g3⟩)
       obtain⟨yf,yg,hv2⟩:=hv;replace hv2:v=.slice yf (k+1) yg:=hv2;subst hv2;go_simp;refine hK _ _ ?_;clear hK K
       repeat (refine RegG.au (fun K hK=>?_);first | (refine RegG.bX rfl ?_;try go_simp;refine hK _ _ ?_;clear hK K) | (refine RegG.bR rfl rfl ?_;unfold aB;go_simp;refine hK _ _ ?_;clear hK K))
       refine RegG.au (fun K hK=>?_);refine RegG.ck rfl rfl (il.ij.row V6.heap.size wi PL Dd.out wi.heap.size (aD _) 3 1 ml mx) rfl (fun W hW hN=>?_) (fun v hv=>?_)
       ·have hM:=(HC.out W).1 hW
        clear hW hK K
        (go_simp;refine bM ((Ku.out W (y9.out _ hM)).mono ?_);rintro e w2 ⟨um,rfl,ho,hx⟩;exact⟨_,rfl,.below hx,ownsRow_form ho,aF ho hM.size⟩)
       obtain⟨a9,c9,rfl⟩:=hv;go_simp;refine hK _ _ ?_;clear hK K;refine RegG.au (fun K hK=>?_);refine RegG.ck rfl rfl (il.ij.Ul V6.heap.size wi PL 39 (fun W u=>u.oneCell'=true/\W.ownsRow wi.heap.size 3 1 u ml mx) HST.out) rfl (fun W hW hN=>?_) (fun v hv=>?_)
       ·have hM:=(HC.out W).1 hW
        clear hW hK K
        (go_simp;exact⟨.below ((Ext.refl _).alloc _).below,⟨_,rfl⟩,fun b hb=>by cases hb;exact⟨⟨_,ar.new _ _ _,rfl,(show W.ownsRow wi.heap.size 3 1 (.slice a9 ml c9) ml mx from hN.at 0 rfl (by kernel_rfl)).alloc _⟩,Dd.out.fresh hM.size⟩⟩)
       obtain⟨WE,rfl⟩:=hv;go_simp;refine hK _ _ ?_;clear hK K;refine RegG.au (fun K hK=>?_);refine RegG.ck rfl rfl (il.ij.Bn V6.heap.size wi PL (mkApp wi.heap.size (.slice ma k mc) k ms ml mx) (aw xy)) rfl (fun W hW hN=>?_) (fun v hv=>?_)
       ·have hM:=(HC.out W).1 hW
        have hq:il.After V6.heap.size wi (jl wi.heap.size (.slice na k nc) k us (.slice ta j tc)) W (.slice yf (k+1) yg):=hN.at 2 rfl (by kernel_rfl);obtain⟨⟨ub,hb1,hb2,hb3⟩,_⟩:=hN.at 0 rfl (by kernel_rfl) WE rfl;clear hW hK K;refine il.dI (w0:=wi) (PL:=PL) (p:=(mkApp wi.heap.size (.slice ma k mc) k ms ml mx)) (.tmp 74) (.tmp 81) 27 rfl iL (.slice none 0 0) 24 Tryz.underlying27 zX mK mL mM rfl (show(0:Nat)<1 from by decide) Dd.out xy rfl (hM.old _ (aw xy) M2.out) ⟨WE,0,none⟩ 1 rfl [ub] ⟨ub,rfl,hb2,hb3⟩ rfl (cK hb1) (by intro u hu;simp at hu;rw[hu];exact hb2) (by show k+1<=maxLen;unfold maxLen;omega) (by show(k+1)*24<=_;omega) (Nat.le_trans (by omega) hM.size) (show(0:Nat)<1 from by decide) hM.size (fun v W2 g1 g2 g3 g4=>⟨g1,g2,g3,?_⟩);rcases g4 with g4 | g4
        ·exact .inl g4
        ·refine .inr (.inr fun e=>?_)
         rw[g4]at e;obtain⟨⟨ns,h5,_⟩,_⟩:=hq;have:=(h5.lt _ e.symm).2;omega
       obtain⟨Jw,Jy,hv2⟩:=hv;replace hv2:v=.slice Jw (k+1) Jy:=hv2;subst hv2;go_simp;refine hK _ _ ?_;clear hK K
       repeat (refine RegG.au (fun K hK=>?_);first | (refine RegG.bX rfl ?_;try go_simp;refine hK _ _ ?_;clear hK K) | (refine RegG.bR rfl rfl ?_;unfold aB;go_simp;refine hK _ _ ?_;clear hK K))
       refine RegG.bG (fun W7 hW hH=>?_);have hM:=(HC.out W7).1 hW;have Q0:Hid (il.After V6.heap.size wi (jl wi.heap.size (.slice na k nc) k us (.slice ta j tc)) W7 (.slice yf (k+1) yg)):=hid (hH _ (aw (show _=some _ from rfl:_[3]? =some _)));have Q1:Hid (il.After V6.heap.size wi (mkApp wi.heap.size (.slice ma k mc) k ms ml mx) W7 (.slice Jw (k+1) Jy)/\((Value.slice Jw (k+1) Jy).ownBlock=(Value.slice ma k mc).ownBlock\/py (.slice Jw (k+1) Jy) (.slice yf (k+1) yg))):=hid (hH _ (aw (show _=some _ from rfl:_[0]? =some _)));have K7:Hid (ae (fun x=>x<wi.heap.size/\¬ ∃ q∈PL,q.v.ownBlock=some x) wi W7):=hid hM.keeps
       have KR:Hid (∀ (e:TypeId) (bs sz m:Nat) (u:Value) (ys:List Value),e≠39->wi.ownsRow bs e sz u m ys->W7.ownsRow bs e sz u m ys):=hid (by
        intro e bs sz m u ys he ho;refine ai ho K7.out fun x hx=>⟨(ho.lt x hx).2,?_⟩
        rintro⟨q,hq,Ma⟩;rcases Cy.out q hq with rfl | rfl
        ·rcases ownBlock_ne he ho U2.out with h5 | h5
         ·rw[h5]at hx;cases hx
         ·exact h5 (hx.trans Ma.symm)
        ·rcases ownBlock_ne he ho M2.out with h5 | h5
         ·rw[h5]at hx;cases hx
         ·exact h5 (hx.trans Ma.symm))
       have B7:=hid (Jv.out.keeps K7.out ⟨Jv.out.lt,Gh.out _ (.inl (by omega))⟩);have K8:Hid (ae (fun x=>x<V6.heap.size/\x≠w5.heap.size) V6 W7):=hid ((HX.out.tr (KI.out.mono fun x hx=>by have:=hx.1;show x<ja.heap.size;omega)).tr (K7.out.mono fun x hx=>⟨by have:=hx.1;omega,Gh.out x (.inl hx.1)⟩))
       have O7:Hid (br V6.heap.size W7 (.slice yf (k+1) yg) ((L.take (k+1)).map (qj d))):=hid (by
        obtain⟨⟨ns,h5,h6⟩,_⟩:=Q0.out;have h6:ns=[.slice ta j tc]:=h6;subst h6;rw[pO.out,List.map_append];refine br.more U1.out HUS.out h5 (fun i u l hu hl=>KR.out _ _ _ _ _ _ (by decide) (U3.out i u l hu hl)) ?_;rw[Yf.out]
        exact aF (KR.out _ _ _ _ _ _ (by decide) TV.out) (by omega))
       have P7:Hid (br V6.heap.size W7 (.slice Jw (k+1) Jy) ((L.take (k+1)).map fun s=>d.mr.getD s [])):=hid (by
        obtain⟨⟨⟨ns,h5,u,h6,_,h7⟩,_⟩,_⟩:=Q1.out;have h6:ns=[u]:=h6;subst h6;rw[pO.out,List.map_append];refine br.more M1.out WN.out h5 (fun i u l hu hl=>KR.out _ _ _ _ _ _ (by decide) (M3.out i u l hu hl)) ?_;rw[<-za.out, <-YY.out]
        exact aF h7 (by omega))
       have FR:Hid (py (.slice yf (k+1) yg) (.slice Jw (k+1) Jy)):=hid (by
        rcases Q1.out.2 with h | h
        ·rcases Q0.out.2 with h' | h'
         ·rcases WJ.out with h3 | h3
          ·exact .inl (h'.trans h3)
          ·exact .inr (by rw[h',h];exact h3)
         ·by_cases e:(Value.slice yf (k+1) yg).ownBlock=none
          ·exact .inl e
          ·right
           intro e2;rw[h]at e2;cases e3:(Value.slice ma k mc).ownBlock with
           | none=>rw[e3]at e2;exact e e2
           | some x=>rw[e3]at e2;have:=h' x e2;have:=(Vo.out x e3).1;omega
        ·exact h.symm)
       clear hM hW hH HC o1 o2 o3 o4 oT xy Dd Cy Gh y9 HST K7 KR Jv BI TV Q0 Q1 Zx Vo U1 U2 U3 M1 M2 M3 HUS WN za YY Ku pO hne;obtain⟨⟨k0,k1,k2⟩,z0,z1,z2⟩:=B7.out.three;go_wp2;go_roundw;case rel=>
        have kg:ae (· ≠w5.heap.size) W7 ((W7.setCell ⟨w5.heap.size,1,none⟩ (.slice yf (k+1) yg)).setCell ⟨w5.heap.size,2,none⟩ (.slice Jw (k+1) Jy)):=
         ((ae.refl _ _).setCell (p:=⟨w5.heap.size,1,none⟩) (fun h=>h rfl) _).setCell (p:=⟨w5.heap.size,2,none⟩) (fun h=>h rfl) _
        exact⟨k+1,_,_,by omega,by go_num,(B7.out.set 1 _).set 2 _,O7.out.keeps kg (fun x h1 _ e=>by omega),P7.out.keeps kg (fun x h1 _ e=>by omega),FR.out,K8.out.tr (kg.mono fun x hx=>hx.2)⟩
       case measure=>simp[intOf];omega
    ·obtain rfl:k=i:=by omega
     have eG:¬ ((k:Int)<k):=by omega
     have fD:L.take k=L:=List.take_of_length_le (by rw[<-HM.out];exact aD _);have NXF:=hid zh.out;have MKF:=hid zi.out;rw[fD,HL.out]at NXF MKF;obtain⟨na,nc,rfl⟩:=NXF.out.form;obtain⟨ma,mc,rfl⟩:=MKF.out.form;obtain⟨⟨k0,k1,k2⟩,_⟩:=WI.out.three;obtain⟨⟨l0,l1,l2⟩,z0,z1,z2⟩:=RO.out.three;clear fD;obtain⟨q1,Kv⟩:=ag (((bD d).map (qj d)).length);obtain⟨q2,Th⟩:=ag (((bD d).map fun s=>d.mr.getD s []).length);rw[<-Kv]at k1 NXF;rw[<-Th]at k2 MKF;rw[<-Kv, <-Th]at WI;clear Kv Th;go_wp2;refine bu ?_;intro W9 gq;have E9:Hid (ar W9 (w.heap.size+1) #[.slice ca K cc,.slice na q1 nc,.slice ma q2 mc] 29/\ae (· ≠w.heap.size+1) ja W9):=by rw[gq];exact hid ⟨RO.out.yT,eE _ _ _ _ _⟩
     clear gq z0 z1 z2 k0 k1 k2 l0 l1 l2;obtain⟨⟨m0,m1,m2⟩,_⟩:=E9.out.1.three;refine bodyPost_ret (v:=.tuple #[.agg #[.slice ca K cc,.slice na q1 nc,.slice ma q2 mc],.int .i64 0]) (by simp[results,Tryz.results115,go_sem,m0,m1,m2]) rfl ⟨_,rfl,⟨_,_,_,rfl,?_,?_,?_⟩,XO.out.trans (E9.out.2.mono fun x (hx:x<w.heap.size)=>by show x≠w.heap.size+1;omega:ae (· <w.heap.size) ja W9).below⟩
     ·have h5:=aF (base':=w.heap.size) (ai CO.out E9.out.2 fun x e=>by have:=(CO.out.lt x e).1;show x≠_;omega) (by omega)
      show W9.ownsRow w.heap.size 56 4 _ d.cl.length _;rw[<-HK.out];exact h5
     ·exact(NXF.out.keeps E9.out.2 fun x h1 _=>by show x≠_;omega).base (by omega)
     ·exact(MKF.out.keeps E9.out.2 fun x h1 _=>by show x≠_;omega).base (by omega)
end
end Go.Proofs.YtjgccapbphadjaaGreatDoor
