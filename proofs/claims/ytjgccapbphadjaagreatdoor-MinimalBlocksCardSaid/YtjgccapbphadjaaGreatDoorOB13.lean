/- The law for drawn regions with effects whose values bear new blocks, pairwise others. -/
import Derived.Test.YtjgccapbphadjaaGreatDoorOB12
set_option maxRecDepth 100000
set_option maxHeartbeats 16000000
open Go.Lib (hid)
open Go.Value renaming slice->An,int->Bs,oneCell'->GG,pointer->GS,tuple->I',ownBlock->J3
open Option renaming some->As,none->AI
open Go.Lib renaming hid->AF
open List renaming getElem?_eq_some_iff->AM,range->AN,getElem?_range->AT,mem_range->B',mem_map->Cd,mem_singleton->C_,take_of_length_le->C',getElem?_set_self->Dl,map_append->Dm,getElem?_set_ne->DH,map_map->DP,getElem?_replicate->DQ,getElem?_cons_zero->D0,getElem?_cons_succ->D_,length_range->D',ext_getElem?->FF,getElem?_toArray->FG,not_mem_nil->F_,map_congr_left->Gz,idxOf_lt_length_of_mem->GA,nodup_iff_pairwise_ne->GC,replicate->GH,take_add_one->GO,mem_append->G',mem_iff_getElem?->H',length_singleton->If,length_replicate->Is,map_set->It,getElem?_set->IF,all_eq_true->I_,length_set->JY,append_nil->JZ,map_const'->J1,map_cons->J5
open Go renaming World->AS,wpList_append_own_at->DE,info_parts->GF,bodyPost_ret->Iv,wpList_make_full->IN,Program->J2,Oper->J4,TypeId->J',Calls->Kx,Act->Lo
open Nat renaming zero_le->A_,le_trans->EV,not_lt_zero->H_,lt_succ_self->IT
open Array renaming getElem?_eq_some_iff->A'
open Go.IntKind renaming i64->Bm
open Go.Proofs.Tryz renaming underlying39->By,underlying27->Ft,prog->K_
open Go.RowKit renaming Hid->B_
open Go.Ending renaming returned->Dn
open Go.World renaming ownsRow_nil->E_,cell?->J_
open Int renaming toNat->GB
open Bool renaming true->GW,false->J6
open Go.Operand renaming tmp->G_
namespace Go.Proofs.YtjgccapbphadjaaGreatDoor
section
open Go Go.RowKit
set_option maxRecDepth 100000
theorem SQ (d:DF) (n:Nat):(kT d n)[0]? =As 0:=by have:=sr (d:=d) (n:=0) (i:=0) (x:=0) rfl n;rwa[Nat.zero_add]at this
theorem tE {d:DF} (h:Rt d) {s:Nat} (hs:s<d.nx.length):sj d s=(AN d.cl.length).map fun k=>en d s k:=oU h hs fun t=>t
theorem ei (d:DF):(bD d).nx.length=(ck d).length/\(bD d).mr.length=(ck d).length:=⟨aQ _,aQ _⟩
theorem od {d:DF} {i s:Nat} (hi:(ck d)[i]? =As s):(bD d).nx.getD i []=qD d s/\(bD d).mr.getD i []=d.mr.getD s []:=by
 refine⟨getD_some ?_,getD_some ?_⟩
 ·show((ck d).map _)[i]? =_
  rw[aO,hi];rfl
 ·show((ck d).map _)[i]? =_
  rw[aO,hi];rfl
theorem aac {L:List Nat} {t:Nat} (h:t∈L):L[L.idxOf t]? =As t:=by rw[az (GA h),List.getElem_idxOf]
theorem mq {d:DF} (h:Rt d):Rt (bD d) where
 pos:=by rw[(ei d).1];exact(gv h).pos
 le:=by rw[(ei d).1];have:=(gv h).len;have:=h.le;omega
 mr:=by rw[(ei d).1,(ei d).2]
 cl:=h.cl
 len:=fun i hi=>by
  rw[(ei d).1]at hi;have e:=az hi;rw[(od e).1];unfold qD;rw[aQ,vw h ((gv h).lt _ (aw e))];rfl
 iV:=fun i hi t ht=>by
  rw[(ei d).1]at hi ⊢;have e:=az hi;rw[(od e).1]at ht;obtain⟨x,hx,rfl⟩:=Cd.1 ht;have:=GA (mh h (aw e) hx);omega
 TM:=fun i hi=>by
  rw[(ei d).1]at hi;have e:=az hi;rw[(od e).2];exact h.TM _ ((gv h).lt _ (aw e))
def adD (d:DF) (i:Nat):Nat:=(ck d).getD i 0
theorem tF {d:DF} (h:Rt d):xX (adD d) (bD d) d where
 cl:=rfl
 zero:=getD_some (SQ d _)
 inj:=fun s t hs ht e=>by
  rw[(ei d).1]at hs ht;have e1:=aW (l:=ck d) 0 hs;have e2:=aW (l:=ck d) 0 ht;have e':(ck d).getD s 0=(ck d).getD t 0:=e;rw[e']at e1;have:=(List.getElem?_inj hs (gv h).nodup).1 (e1.trans e2.symm);exact this
 nx:=fun s hs=>by
  rw[(ei d).1]at hs;have e:=aW (l:=ck d) 0 hs;have hm:=aw e;show sj d ((ck d).getD s 0)=(((bD d).nx.getD s []).map GB).map (adD d);rw[(od e).1];unfold qD;rw[DP,DP];refine((Gz fun x hx=>?_).trans (List.map_id _)).symm;have yX:=mh h hm hx;show(ck d).getD (((ck d).idxOf x:Int)).toNat 0=x;rw[Int.toNat_natCast];exact getD_some (aac yX)
 mr:=fun s hs=>by
  rw[(ei d).1]at hs;exact(od (aW (l:=ck d) 0 hs)).2.symm
theorem xZ {d:DF} (h:Rt d) {w:List Nat} (hw:∀ c∈w,c<256):(bD d).mr.getD (bG (bD d) 0 w) []=d.mr.getD (bG d 0 w) []:=((tF h).marks (mq h) w hw).symm
theorem AB {x:Nat} :∀ (ts L:List Nat),x∈ts.foldl eG L->x∈L\/x∈ts
 | [],_,h=>.inl h
 | t::ts,L,h=>by
  rcases AB ts (eG L t) h with h | h
  ·unfold eG at h
   split at h
   ·exact .inl h
   ·rcases G'.1 h with h | h
    ·exact .inl h
    ·exact .inr (by rw[C_.1 h];exact aY ..)
  ·exact .inr (bC _ h)
theorem sD {d:DF} (h:Rt d):∀ n,∀ s∈kT d n,∃ w:List Nat,(∀ c∈w,c<256)/\bG d 0 w=s
 | 0,s,hs=>⟨[],fun c hc=>(F_ hc).elim,(C_.1 hs).symm⟩
 | n+1,s,hs=>by
  rw[kT]at hs;split at hs
  ·exact sD h n s hs
  ·rename_i u hu
   rcases AB _ _ hs with hs | hs
   ·exact sD h n s hs
   ·have hm:=aw hu
    obtain⟨w,hw,e⟩:=sD h n u hm;have Re:=(tz h n).lt u hm;rw[tE h Re]at hs;obtain⟨k,hk,rfl⟩:=Cd.1 hs;have hl:=kz h (B'.1 hk);refine⟨w++ [lb d.cl k],fun c hc=>?_,?_⟩
    ·rcases G'.1 hc with hc | hc
     ·exact hw c hc
     ·rw[C_.1 hc];exact hl.1
    ·rw[iF,e,hl.2.1]
structure SR (d:DF):Prop where
 rt:Rt d
 reach:∀ s,s<d.nx.length->∃ w:List Nat,(∀ c∈w,c<256)/\bG d 0 w=s
 aad:∀ s t,s<d.nx.length->t<d.nx.length->Ay d s t->s=t
 part:bX d.cl fun c e=>∀ s,s<d.nx.length->en d s (cls d.cl c)=en d s (cls d.cl e)
theorem Ju {d:DF} (h:Rt d):∀ i,i<(bD d).nx.length->∃ w:List Nat,(∀ c∈w,c<256)/\bG (bD d) 0 w=i:=fun i hi=>by
 have hi':=hi;rw[(ei d).1]at hi';obtain⟨w,hw,e⟩:=sD h _ _ (aw (aW (l:=ck d) 0 hi'));refine⟨w,hw,(tF h).inj _ _ (fD (mq h) (mq h).pos w hw) hi ?_⟩;rw[<- (tF h).run (mq h) w hw,e];rfl
theorem fp (d:DF) (s:Nat) (u w:List Nat):bG d s (u++w)=bG d (bG d s u) w:=by unfold bG;rw[List.foldl_append]
theorem jC {u w:List Nat} (hu:∀ c∈u,c<256) (hw:∀ c∈w,c<256):∀ c∈u++w,c<256:=fun c hc=>(G'.1 hc).elim (hu c) (hw c)
section
variable {a b:DF} (ra:SR a) (rb:SR b) (hm:∀ w:List Nat,(∀ c∈w,c<256)→a.mr.getD (bG a 0 w) []=b.mr.getD (bG b 0 w) [])
include ra rb hm
theorem uG {c e:Nat} (hc:c<256) (he:e<256) (h:∀ s,s<a.nx.length->en a s (cls a.cl c)=en a s (cls a.cl e)):∀ s,s<b.nx.length->en b s (cls b.cl c)=en b s (cls b.cl e):=fun t ht=>by
 obtain⟨u,hu,rfl⟩:=rb.reach t ht;have Re:=fD ra.rt ra.rt.pos u hu;refine rb.aad _ _ (rb.rt.iY ht (rb.rt.part.dB hc)) (rb.rt.iY ht (rb.rt.part.dB he)) fun w hw=>?_
 have h1:∀ x,x<256->b.mr.getD (bG b (en b (bG b 0 u) (cls b.cl x)) w) []=a.mr.getD (bG a (en a (bG a 0 u) (cls a.cl x)) w) []:=fun x hx=>by
  rw[<-iF, <-iF, <-fp, <-fp];refine(hm _ (jC (jC hu fun y hy=>?_) hw)).symm;rw[C_.1 hy];exact hx
 rw[h1 c hc,h1 e he,h _ Re]
end
theorem canon {a b:DF} (ra:SR a) (rb:SR b) (hm:∀ w:List Nat,(∀ c∈w,c<256)->a.mr.getD (bG a 0 w) []=b.mr.getD (bG b 0 w) []):bD a=bD b:=by
 have mG:b.cl=a.cl:=bX.uniq rb.part ra.part fun c e hc he=>⟨uG rb ra (fun w hw=>(hm w hw).symm) hc he,uG ra rb hm hc he⟩
 have hch:∀ s,∃ w:List Nat,(∀ c∈w,c<256)/\(s<a.nx.length->bG a 0 w=s):=fun s=>by
  by_cases hs:s<a.nx.length
  ·obtain⟨w,h1,h2⟩:=ra.reach s hs
   exact⟨w,h1,fun _=>h2⟩
  ·exact⟨[],fun c hc=>(F_ hc).elim,fun h=>absurd h hs⟩
 obtain⟨wd,hwd⟩:=Classical.axiomOfChoice hch;have key:∀ u:List Nat,(∀ c∈u,c<256)->bG b 0 (wd (bG a 0 u))=bG b 0 u:=fun u hu=>by
  have Re:=fD ra.rt ra.rt.pos u hu;have h1:=hwd (bG a 0 u);refine rb.aad _ _ (fD rb.rt rb.rt.pos _ h1.1) (fD rb.rt rb.rt.pos _ hu) fun w hw=>?_
  rw[<-fp, <-fp, <-hm _ (jC h1.1 hw), <-hm _ (jC hu hw),fp,fp,h1.2 Re]
 have aae:∀ s,s<a.nx.length->∀ w:List Nat,(∀ c∈w,c<256)->b.mr.getD (bG b (bG b 0 (wd s)) w) []=a.mr.getD (bG a s w) []:=fun s hs w hw=>by
  have h1:=hwd s;rw[<-fp, <-hm _ (jC h1.1 hw),fp,h1.2 hs]
 have B:xX (fun s=>bG b 0 (wd s)) a b:=by
  refine⟨mG,?_,?_,?_,?_⟩
  ·exact key [] fun c hc=>(F_ hc).elim
  ·intro s t hs ht e
   have e':bG b 0 (wd s)=bG b 0 (wd t):=e;exact ra.aad s t hs ht fun w hw=>by rw[<-aae s hs w hw, <-aae t ht w hw,e']
  ·intro s hs
   have h1:=hwd s;rw[tE rb.rt (fD rb.rt rb.rt.pos _ h1.1),tE ra.rt hs,DP,mG];refine Gz fun k hk=>?_
   have hl:=kz ra.rt (B'.1 hk);have hb:∀ c∈wd s++ [lb a.cl k],c<256:=jC h1.1 fun y hy=>by rw[C_.1 hy];exact hl.1
   have:=key _ hb;rw[iF,iF,h1.2 hs,hl.2.1,mG,hl.2.1]at this;exact this.symm
  ·intro s hs
   exact aae s hs [] fun c hc=>(F_ hc).elim
 have hN:a.nx.length<=b.nx.length:=by
  have:=lj (l:=(AN a.nx.length).map fun s=>bG b 0 (wd s)) (n:=b.nx.length) (by
   rw[GC,List.pairwise_map]
   exact(GC.1 List.nodup_range).imp_of_mem fun {x y} hx hy hne e=>hne (B.inj x y (B'.1 hx) (B'.1 hy) e)) fun x hx=>by
   obtain⟨s,hs,rfl⟩:=Cd.1 hx;exact fD rb.rt rb.rt.pos _ (hwd s).1
  rwa[aQ,D']at this
 exact(B.trim ra.rt hN).symm
def Gb (d:DF):Nat->Nat->Nat
 | 0,i=>i
 | f+1,i=>if eh d (i+1)=eh d i then i else Gb d f (i+1)
def x8 (d:DF):Nat:=Gb d d.nx.length 0
theorem Jv {d:DF} {i:Nat} (hi:dQ d i) (hno:∀ j,j<i->¬dQ d j):∀ f j,j<=i->i<=j+f->Gb d f j=i
 | 0,j,h1,h2=>by rw[Gb];omega
 | f+1,j,h1,h2=>by
  rw[Gb];by_cases e:j=i
  ·subst e
   have hi':eh d (j+1)=eh d j:=hi;rw[if_pos hi']
  ·have hn:¬eh d (j+1)=eh d j:=hno j (by omega)
   rw[if_neg hn];exact Jv hi hno f (j+1) (by omega) (by omega)
theorem Lm (d:DF):dQ d (x8 d)/\∀ j,j<x8 d->¬dQ d j:=by obtain⟨i,h1,h2,h3⟩:=FY d;have:=Jv h2 h3 d.nx.length 0 (A_ _) (by omega);unfold x8;rw[this];exact⟨h2,h3⟩
def kq (d:DF):Nat->Nat:=cw d (x8 d)
def uY (d:DF):DF:=ic (dn (bD d) (kq (bD d)))
def cq (d:DF):DF:=bD (uY d)
theorem mz {d:DF} (h:Rt d):SR (uY d)/\∀ w:List Nat,(∀ c∈w,c<256)->(uY d).mr.getD (bG (uY d) 0 w) []=d.mr.getD (bG d 0 w) []:=by
 have rt:=mq h;have he:=(Lm (bD d)).1;have hf:=xL rt he;have rm:=F5 rt hf;have rn:=SN rm;have z:cw (bD d) (x8 (bD d)) 0=0:=Nat.le_zero.1 (hf.num 0 rt.pos);have rep:∀ m,m<(dn (bD d) (cw (bD d) (x8 (bD d)))).nx.length->∃ s,s<(bD d).nx.length/\cw (bD d) (x8 (bD d)) s=m:=fun m hm=>by
  rw[(fk hf).1]at hm;obtain⟨s,hs,e,_⟩:=j3 (d:=bD d) hf.num m hm;exact⟨s,hs,e⟩
 unfold uY kq;generalize hM:dn (bD d) (cw (bD d) (x8 (bD d)))=M at*;have runM:∀ w:List Nat,(∀ c∈w,c<256)->bG M 0 w=cw (bD d) (x8 (bD d)) (bG (bD d) 0 w):=fun w hw=>by
  have:=tB rt hf w rt.pos hw;rw[z,hM]at this;exact this
 refine⟨⟨rn,?_,?_,?_⟩,?_⟩
 ·intro s hs
  rw[fM]at hs;obtain⟨t,ht,e⟩:=rep s hs;obtain⟨w,hw,e'⟩:=Ju h t ht;exact⟨w,hw,by rw[sB rm w rm.pos hw,runM w hw,e',e]⟩
 ·intro s t hs ht ha
  rw[fM]at hs ht;obtain⟨x,hx,rfl⟩:=rep s hs;obtain⟨y,hy,rfl⟩:=rep t ht;refine F6 rt he hx hy fun w hw=>?_
  have:=ha w hw;rw[sB rm w hs hw,sB rm w ht hw]at this;rw[hM];exact this
 ·refine(xW rm).congr fun c e hc he=>?_
  have conv:∀ s,s<M.nx.length->∀ x,x<256->en (ic M) s (cls (ic M).cl x)=en M s (cls M.cl x):=fun s hs x hx=>by rw[Lk rm hx,Ll hs (rm.part.dB hx)]
  constructor
  ·intro hh s hs
   rw[fM]at hs;rw[conv s hs c hc,conv s hs e he];exact hh s hs
  ·intro hh s hs
   have:=hh s (by rw[fM];exact hs);rwa[conv s hs c hc,conv s hs e he]at this
 ·intro w hw
  rw[sB rm w rm.pos hw,runM w hw];have h1:=qH rt hf (fD rt rt.pos w hw);rw[hM]at h1;refine Eq.trans h1 ?_;exact xZ h hw
theorem SU {d:DF} (h:Rt d):Rt (cq d):=mq (mz h).1.rt
theorem oh {d:DF} (h:Rt d) {w:List Nat} (hw:∀ c∈w,c<256):(cq d).mr.getD (bG (cq d) 0 w) []=d.mr.getD (bG d 0 w) []:=(xZ (mz h).1.rt hw).trans ((mz h).2 w hw)
theorem Jw {a b:DF} (ha:Rt a) (hb:Rt b) (hm:∀ w:List Nat,(∀ c∈w,c<256)->a.mr.getD (bG a 0 w) []=b.mr.getD (bG b 0 w) []):cq a=cq b:=
 canon (mz ha).1 (mz hb).1 fun w hw=>((mz ha).2 w hw).trans ((hm w hw).trans ((mz hb).2 w hw).symm)
theorem NW {a b:DF} (ha:Rt a) (hb:Rt b):cq a=cq b↔ ∀ w:List Nat,(∀ c∈w,c<256)->a.mr.getD (bG a 0 w) []=b.mr.getD (bG b 0 w) []:=
 ⟨fun e w hw=>by rw[<-oh ha hw, <-oh hb hw,e],Jw ha hb⟩
set_option maxRecDepth 100000
theorem oY {κ κ':Type} [DecidableEq κ] [DecidableEq κ'] {k:Nat->κ} {k':Nat->κ'} {n:Nat} (h:∀ s t,s<n->t<n->(k s=k t↔k' s=k' t)):∀ m,m<=n->dR k m=dR k' m/\∀ s,s<m->dL k n s=dL k' n s
 | 0,_=>⟨rfl,fun s hs=>by omega⟩
 | m+1,hm=>by
  obtain⟨h1,h2⟩:=oY h m (by omega);have qd:k m∈bU k m↔k' m∈bU k' m:=by rw[mem_keys,mem_keys];exact⟨fun ⟨s,hs,e⟩=>⟨s,hs,(h s m (by omega) (by omega)).1 e⟩,fun ⟨s,hs,e⟩=>⟨s,hs,(h s m (by omega) (by omega)).2 e⟩⟩
  refine⟨?_,fun s hs=>?_⟩
  ·unfold dR at h1 ⊢
   rw[bU,bU];by_cases hk:k m∈bU k m
   ·rw[if_pos hk,if_pos (qd.1 hk)];exact h1
   ·rw[if_neg hk,if_neg fun tI=>hk (qd.2 tI),aJ,aJ,h1];rfl
  ·by_cases e:s<m
   ·exact h2 s e
   ·obtain rfl:s=m:=by omega
    by_cases hk:k s∈bU k s
    ·obtain⟨t,ht,e⟩:=mem_keys.1 hk
     rw[<- (eD (key:=k) (n:=n) (s:=t) (t:=s) (by omega) (by omega)).2 e, <- (eD (key:=k') (n:=n) (s:=t) (t:=s) (by omega) (by omega)).2 ((h t s (by omega) (by omega)).1 e)];exact h2 t ht
    ·rw[lK (by omega),lK (by omega),if_neg hk,if_neg fun tI=>hk (qd.2 tI)]
     exact h1
theorem NY {d:DF} (h:Rt d):Fits d (kq d):=xL h (Lm d).1
end
section
open Go Go.RowKit Go.Shelf Go.Maps
theorem Rt.kn {d:DF} (h:Rt d):Kn d:=⟨fun l hl=>by
 obtain⟨s,hs⟩:=H'.1 hl;have j8:=(AM.1 hs).1;have hr:=h.TM s (by rw[<-h.mr];exact j8);rw[bu,hs]at hr;replace hr:rG l=true:=hr;have hb:=K1 hr;refine⟨?_,fun x hx=>?_⟩
 ·refine Classical.byContradiction fun hn=>?_
  have:=hb 256 (by omega);omega
 ·obtain⟨k,hk⟩:=H'.1 hx
  have hk2:=hb k (AM.1 hk).1;rw[bu,hk]at hk2;replace hk2:(k:Int)<=x/\x<=255:=hk2
  omega⟩
def iX (d:DF) (i:Nat):List Value:=(AN d.nx.length).map fun s=>cV (cw d i s)
theorem ye {d:DF} {i s:Nat} (hs:s<d.nx.length):cw d i s<d.nx.length:=by
 cases i with
 | zero=>exact aD (xp hs) (r9 _ _)
 | succ i=>exact aD (xp hs) (r9 _ _)
theorem uH:∀ {a b:List Int},(∀ x∈a,0<=x)->(∀ x∈b,0<=x)->a.map GB=b.map GB->a=b
 | [],[],_,_,_=>rfl
 | [],y::b,_,_,h=>by simp at h
 | x::a,[],_,_,h=>by simp at h
 | x::a,y::b,ha,hb,h=>by
  rw[J5,J5]at h;injection h with h0 h1
  have hx:=ha x aY;have hy:=hb y aY;rw[uH (fun c hc=>ha c (bC _ hc)) (fun c hc=>hb c (bC _ hc)) h1,show x=y by omega]
def SV (d:DF) (s:Nat):List UInt8:=kU ((d.mr.getD s []).map GB)
def SY (d:DF) (i s:Nat):List UInt8:=kU (jZ d i s)
theorem SZ {d:DF} (kn:Kn d) {s:Nat} (hs:s<d.mr.length):(d.mr.getD s []).length<=100000/\∀ x∈d.mr.getD s [],0<=x/\x<4294967296:=by
 have hrow:d.mr[s]? =As (d.mr.getD s []):=by rw[bu,az hs];rfl
 exact kn.ks _ (aw hrow)
theorem S7 {d:DF} (rt:Rt d):dR (SV d) d.nx.length=eh d 0/\∀ s,s<d.nx.length->dL (SV d) d.nx.length s=cw d 0 s:=by
 refine oY (fun s t hs ht=>⟨fun h=>?_,fun h=>?_⟩) _ (aG _)
 ·have h1:=SZ rt.kn (s:=s) (by rw[rt.mr];exact hs)
  have h2:=SZ rt.kn (s:=t) (by rw[rt.mr];exact ht);refine uH (fun x hx=>(h1.2 x hx).1) (fun x hx=>(h2.2 x hx).1) (xG (fun x hx=>?_) (fun x hx=>?_) h)
  ·obtain⟨y,hy,rfl⟩:=Cd.1 hx
   have:=h1.2 y hy;omega
  ·obtain⟨y,hy,rfl⟩:=Cd.1 hx
   have:=h2.2 y hy;omega
 ·show kU ((d.mr.getD s []).map GB)=kU ((d.mr.getD t []).map GB)
  rw[show d.mr.getD s []=d.mr.getD t [] from h]
theorem AD {d:DF} (rt:Rt d) {i s:Nat} (hs:s<d.nx.length):∀ x∈jZ d i s,x<4294967296:=fun x hx=>by
 have hle:=rt.le;rcases List.mem_cons.1 hx with rfl | hx
 ·have:=ye (d:=d) (i:=i) hs;omega
 ·obtain⟨t,ht,rfl⟩:=Cd.1 hx
  have h7:=rt.iV s hs t ht;have:=ye (d:=d) (i:=i) (s:=t.toNat) (by omega);omega
theorem S8 {d:DF} (rt:Rt d) (i:Nat):dR (SY d i) d.nx.length=eh d (i+1)/\∀ s,s<d.nx.length->dL (SY d i) d.nx.length s=cw d (i+1) s:=
 oY (fun _ _ hs ht=>⟨fun h=>xG (AD rt hs) (AD rt ht) h,fun h=>congrArg kU h⟩) _ (aG _)
theorem Ln {d:DF} {i:Nat} {f:Nat->Nat} (h:∀ s,s<d.nx.length->f s=cw d i s):(AN d.nx.length).map (fun s=>cV (f s))=iX d i:=Gz fun s hs=>by rw[h s (B'.1 hs)]
theorem aaf {d:DF} {i:Nat} (hi:dQ d i) (hno:∀ j,j<i->¬dQ d j):x8 d=i:=by
 obtain⟨k,h1,h2,h3⟩:=FY d;refine Jv hi hno _ _ (A_ _) ?_;refine Classical.byContradiction fun h=>?_
 exact hno k (by omega) h2
theorem yf (v:Value) (d:DF) (rt:Rt d) (w:AS) (h:dr w v d): ah 79 #[v] w fun e w'=>∃ u,e=Dn u/\w'.ownsRow w.heap.size 3 1 u d.nx.length ((AN d.nx.length).map fun s=>cV (kq d s))/\aa w w':=by
 obtain⟨n,hn⟩:=ag d.nx.length;have eg1:∀ (args:Array Value) (w:AS),(callFunc 138 args).run K_ w=.ok (.enter 138 args) w:=fun args w=>rfl
 have eg2:∀ (args:Array Value) (w:AS),(callFunc 140 args).run K_ w=.ok (.enter 140 args) w:=fun args w=>rfl
 obtain⟨v0,v1,v2,rfl,h0,h1,h2⟩:=h;obtain⟨a0,c0,rfl⟩:=h0.1.form;obtain⟨a1,c1,rfl⟩:=h1.form;obtain⟨a2,c2,rfl⟩:=h2.form;have yB:=rt.mr;have hle:=rt.le;obtain⟨K,hK⟩:=ag d.cl.length;have hK2:K<=256:=by have:=rt.Bk;omega
 have H1:=AF h1;have H2:=AF h2;rw[<-hn]at hle;have CM:B_ (∀ W (db:Nat),aa w W->ar W db #[An a0 K c0,An a1 n c1,An a2 n c2] 29->ah 137 #[Bs Bm n,.func (.func 138) #[] #[GS (As ⟨db,0,AI⟩)]] W fun e w'=>∃ u,e=Dn (I' #[u,Bs Bm (eh d 0)])/\w'.ownsRow W.heap.size 3 1 u n (iX d 0)/\aa W w'):=AF fun W db hW hB=>by
  refine(qG 138 #[GS (As ⟨db,0,AI⟩)] (SV d) n hle W (fun s hs=>?_) eg1 (fun s W2 hs hW2=>?_)).mono ?_
  ·unfold SV
   rw[xF,aQ];have:=(SZ rt.kn (s:=s) (by rw[yB, <-hn];exact hs)).1;omega
  ·exact FQ db d rt.kn _ s (by rw[yB, <-hn];exact hs) W2 (by rw[yB, <-hn];exact(hB.below hW2 hB.lt).cell 2) ((H2.below hW).below hW2)
  ·rintro e w' ⟨u,rfl,h5,h6⟩
   obtain⟨k1,k2⟩:=S7 rt;rw[<-hn]at k1 k2;refine⟨u,by rw[k1],?_,h6⟩;rw[<-Ln (f:=dL (SV d) n) (by rw[<-hn];exact k2), <-hn];exact h5
 have CB:B_ (∀ W (i db pb:Nat) (pv:Value),aa w W->ar W db #[An a0 K c0,An a1 n c1,An a2 n c2] 29->ar W pb #[pv] 39->W.ownsRow w.heap.size 3 1 pv n (iX d i)->ah 137 #[Bs Bm n,.func (.func 140) #[] #[GS (As ⟨pb,0,AI⟩),GS (As ⟨db,0,AI⟩)]] W fun e w'=>∃ u,e=Dn (I' #[u,Bs Bm (eh d (i+1))])/\w'.ownsRow W.heap.size 3 1 u n (iX d (i+1))/\aa W w'):=AF fun W i db pb pv hW hB hP ho=>by
  refine(qG 140 #[GS (As ⟨pb,0,AI⟩),GS (As ⟨db,0,AI⟩)] (SY d i) n hle W (fun s hs=>?_) eg2 (fun s W2 hs hW2=>?_)).mono ?_
  ·unfold SY
   rw[xF];unfold jZ;rw[List.length_cons,aQ,rt.len s (by rw[<-hn];exact hs), <-hK];omega
  ·refine FT s pb db d (rt.iV s (by rw[<-hn];exact hs)) (cw d i) (fun t ht=>?_) (An a1 d.nx.length c1) pv ?_ (by rw[<-hn];exact hs) W2 ((hP.below hW2 hP.lt).cell 0) (by rw[<-hn];exact(hB.below hW2 hB.lt).cell 1) ((H1.below hW).below hW2) ?_
   ·have:=ye (d:=d) (i:=i) ht;omega
   ·rw[rt.len s (by rw[<-hn];exact hs), <-hK];omega
   ·have h9:=ak ho hW2
    have e:iX d i=(iX d i).map fun u:Value=>u:=by rw[List.map_id']
    rw[e]at h9;exact cZ h9 (by rw[aQ,D',hn])
  ·rintro e w' ⟨u,rfl,h5,h6⟩
   obtain⟨k1,k2⟩:=S8 rt i;rw[<-hn]at k1 k2;refine⟨u,by rw[k1],?_,h6⟩;rw[<-Ln (f:=dL (SY d i) n) (by rw[<-hn];exact k2), <-hn];exact h5
 rw[yB, <-hK, <-hn];have HN:=AF hn;clear h0 h1 h2 yB hn hK hK2 H1 H2 eg1 eg2;go_enter Tryz.func79,Tryz.ntmps79;go_wp2;refine wp_scope_straight ?_;go_wp2_with fail
 refine aI ?_;intro V hV;have B0:B_ (ar V w.heap.size #[An a0 K c0,An a1 n c1,An a2 n c2] 29):=AF (by rw[hV];exact ar.new w _ _);have X0:B_ (aa w V):=AF (by rw[hV];exact((Ext.refl w).alloc _).below);clear hV;refine(CM V w.heap.size X0 B0).mono ?_;rintro e w1 ⟨u,rfl,ho,hx⟩;obtain⟨ua,uc,rfl⟩:=ownsRow_form ho;have O1:=AF (aH ho X0.size);have B1:=AF (B0.below hx B0.lt);have X1:=AF (X0.trans (hx.mono X0.size));clear ho hx B0 X0 CM;go_wp2_with fail
 refine aA ?_;intro V2 hV;obtain⟨pb,oA⟩:=ag w1.heap.size;have P2:B_ (ar V2 pb #[An ua n uc] 39):=AF (by rw[hV,oA];exact ar.new _ _ _);have hb2:aa w1 V2:=by rw[hV];exact((Ext.refl _).alloc _).below
 rw[<-oA];have hwp:w.heap.size<pb:=by rw[oA];exact B1.lt
 have O2:=AF (ak O1 hb2);have B2:=AF (B1.below hb2 B1.lt);have X2:=AF (X1.trans (hb2.mono X1.size));clear hV oA hb2 O1 B1 X1;go_step3;go_wp2_with fail
 go_loopw [4] (fun cv wr=>∃ (i:Nat) (ua:Option Addr) (uc:Nat),cv=Bs Bm (eh d i)/\(∀ j,j<i->¬dQ d j)/\ar wr pb #[An ua n uc] 39/\wr.ownsRow w.heap.size 3 1 (An ua n uc) n (iX d i)/\ar wr w.heap.size #[An a0 K c0,An a1 n c1,An a2 n c2] 29/\aa w wr) (fun cv _=>n-(intOf cv).toNat)
 case atStart=>exact⟨0,ua,uc,rfl,fun j hj=>absurd hj (H_ _),P2,O2,B2,X2⟩
 case round=>
  obtain⟨i,va,vc,rfl,hno,hp,ho,hb,hx⟩:=hrel;obtain⟨wo,rfl⟩:=ag (wr:AS);have rW:=AF hno;have HP:=AF hp;have HO:=AF ho;have HB:=AF hb;have HX:=AF hx;clear hno hp ho hb hx P2 O2 B2 X2;obtain⟨b0,b1,b2⟩:=bN.qC HB;go_wp2_with fail
  refine(CB wo i w.heap.size pb _ HX HB HP HO).mono ?_;rintro e w3 ⟨u,rfl,ho,hx⟩;obtain⟨qa,qc,rfl⟩:=ownsRow_form ho;have hw3:w.heap.size<=wo.heap.size:=HX.size;have Q3:=AF (aH ho hw3);have Xa:=AF (ak HO hx);have HP3:=AF (HP.below hx HP.lt);have HB3:=AF (HB.below hx HB.lt);have oy:=AF (HX.trans (hx.mono hw3));clear ho hx b0 b1 b2 HO HP HB HX;obtain⟨m1,rY⟩:=ag (eh d (i+1));obtain⟨m0,vn⟩:=ag (eh d i);have ao6:m0<=m1/\m1<=n:=by rw[vn,rY,HN.out];exact⟨(xJ d i).1,(xJ d (i+1)).2⟩
  have HM1:=AF rY;have HM0:=AF vn;rw[<-rY, <-vn];clear rY vn;have q0:=HP3.cell 0;have z0:=HP3.frozen 0;by_cases hm:m1=m0
  ·have HI:B_ (dQ d i):=AF (by unfold dQ;rw[<-HM1.out, <-HM0.out];exact hm)
   have hri:x8 d=i:=aaf HI rW;have d1:((m1:Int)==(m0:Int))=true:=by rw[hm];exact beq_self_eq_true _
   have HR:B_ (w3.ownsRow w.heap.size 3 1 (An va n vc) n ((AN n).map fun s=>cV (kq d s))):=AF (by
    have h5:=Xa.out;unfold iX at h5;unfold kq;rw[hri];rw[<-HN.out]at h5
    exact h5)
   clear hri;subst hm;go_wp2;rw[Exit.noGoto_ret];go_ret;exact⟨_,rfl,HR,oy⟩
  ·have hmi:¬ ((m1:Int)=(m0:Int)):=by omega
   have d1:((m1:Int)==(m0:Int))=false:=beq_eq_false_iff_ne.2 hmi;have d2:(m1==m0)=false:=beq_eq_false_iff_ne.2 hm;go_wp2;go_roundw;case rel=>
    have kg:ae (· ≠pb) w3 (w3.setCell ⟨pb,0,AI⟩ (An qa n qc)):=(ae.refl _ _).setCell (p:=⟨pb,0,AI⟩) (fun h=>h rfl) _;refine⟨i+1,qa,qc,by rw[HM1.out],fun j hj=>?_,HP3.set 0 _,aj Q3 kg fun x e=>cy HP3 Q3 (by decide) x e,HB3.keeps kg (by show w.heap.size≠pb;omega),oy.trans (kg.mono fun x (hx:x<w.heap.size)=>by show x≠pb;omega:ae (· <w.heap.size) w3 _).below⟩;by_cases e:j=i
    ·subst e
     unfold dQ;rw[<-HM1.out, <-HM0.out];exact hm
    ·exact rW j (by omega)
   case measure=>
    have h5:=HM0.out;simp[intOf];omega
theorem Gc (v:Value) (d:DF) (rt:Rt d) (sm:Sm d) (w:AS) (h:dr w v d): ah 15 #[v] w fun e w'=>∃ u,e=Dn (I' #[u,Bs Bm 0])/\w'.ownsRow w.heap.size 3 1 u (ck d).length ((ck d).map cV)/\aa w w':=by
 obtain⟨iI,y8,kP,kQ,kR⟩:=GF Tryz.mH;have CR:B_ (∀ W,aa w W->ah 16 #[v] W fun e w'=>e=Dn (.bool GW)/\aa W w'):=fun W hW=>by
  have:=oD v d W (h.below hW) sm;rwa[(dF d).2 rt]at this
 obtain⟨v0,v1,v2,rfl,h0,h1,h2⟩:=h;obtain⟨a0,c0,rfl⟩:=h0.1.form;obtain⟨a1,c1,rfl⟩:=h1.form;obtain⟨a2,c2,rfl⟩:=h2.form;have yB:=rt.mr;rw[yB]at h2 CR ⊢;obtain⟨n,hn⟩:=ag d.nx.length;obtain⟨K,hK⟩:=ag d.cl.length;have RA:n<=4000:=by have:=rt.le;omega
 have fH:1<=n:=by have:=rt.pos;omega
 have hK2:K<=256:=by have:=rt.Bk;omega
 rw[<-hn]at h1 h2 CR ⊢;rw[<-hK]at h0 CR ⊢;have H1:=AF h1;have HN:=AF hn;have HK:=AF hK;have RT:=AF rt;clear h0 h1 h2 hn hK yB rt sm;go_enter Tryz.func15,Tryz.ntmps15;go_wp2_with fail
 refine aI ?_;intro V hV;have B1:B_ (ar V w.heap.size #[An a0 K c0,An a1 n c1,An a2 n c2] 29):=by rw[hV];exact ar.new w _ _
 have X1:B_ (aa w V):=by rw[hV];exact((Ext.refl w).alloc _).below
 clear hV;refine(CR V X1).mono ?_;rintro e w2 ⟨rfl,hx⟩;have C1:=AF (B1.below hx B1.lt);have Bd:w.heap.size<w2.heap.size:=C1.lt;have X2:=AF (X1.trans (hx.mono X1.size));clear hx B1 X1 CR;have XB:B_ (∀ W,ae (fun x=>x<w2.heap.size) w2 W->aa w W):=AF fun W k=>X2.trans (k.mono fun x (hx:x<w.heap.size)=>by show x<w2.heap.size;omega:ae (· <w.heap.size) w2 W).below
 go_upto_region 4 with fail
 refine aA ?_;intro V3 cX;have O3:B_ (ar V3 w2.heap.size #[Bs Bm 0] 3):=by rw[cX];exact ar.new _ _ _
 have K3:B_ (ae (fun x=>x<w2.heap.size) w2 V3):=by rw[cX];exact AF (ae.ai ((Ext.refl _).alloc _).below fun x h=>h)
 have hs3:w2.heap.size<V3.heap.size:=by rw[cX];simp
 clear cX;have D1:=AF (C1.keeps K3 Bd);obtain⟨⟨k0,k1,k2⟩,_⟩:=D1.three;go_wp2_with (at_make;refine IN _ rfl (G_ 15) (G_ 15) 39 rfl V3.heap.size 3 iI (Bs Bm 0) 1 By y8 kP kQ Bm Bm _ _ n rfl rfl rfl rfl (by rw[kR];omega) (by unfold maxLen;omega) (aG _) ?_;intro w3 hr hg;refine Hid.out ?_);refine AF ?_;have II:V3.heap.size<w3.heap.size:=by
  rcases hr.2 with⟨h5,_⟩ | ⟨g,c,cur,h5,_,h6,_⟩
  ·cases h5
  ·cases h5;exact(A'.1 h6).1
 have hb3:aa V3 w3:=(ae.bB hg fun x hx=>⟨hx,fun e=>by cases e⟩:ae (· <V3.heap.size) V3 w3).below;rw[sS]at hr;have R3:=AF hr;have O4:=AF (O3.below hb3 O3.lt);have K4:B_ (ae (fun x=>x<w2.heap.size) w2 w3):=AF (K3.tr (ae.ai hb3 fun x (hx:x<w2.heap.size)=>by omega));clear hr hg hb3 k0 k1 k2 D1 O3 K3;obtain⟨g5,SI⟩:=ag V3.heap.size;rw[<-SI]at R3 hs3 II ⊢;clear SI;have f0:w3.frozen? ⟨g5,0,AI⟩=false:=R3.frozenAt 0;have f1:w3.cell? ⟨g5,0,AI⟩=As (Bs Bm 0):=by rw[R3.cellAt 0 (by omega),aO,DQ,if_pos (by omega)];rfl
 have hni:(0:Int)<n:=by omega
 go_wp2;clear f0 f1;go_loopw [4,6] (fun ov iv wr=>∃ (i:Nat) (L:List Nat),iv=Bs Bm i/\L=kT d i/\i<=L.length/\wr.ownsRow w2.heap.size 3 1 ov L.length (L.map cV)/\ov.ownBlock≠As g5/\wr.ownsRow g5 3 1 (An (As ⟨g5,0,AI⟩) n n) n ((nX n L).map aM)/\ae (fun x=>x<w2.heap.size) w2 wr/\w3.heap.size<=wr.heap.size) (fun _ iv _=>n-(intOf iv).toNat);case atStart=>
  have kg:ae (· ≠g5) w3 (w3.setCell ⟨g5,0,AI⟩ (Bs Bm 1)):=(ae.refl (· ≠g5) _).setCell (p:=⟨g5,0,AI⟩) (fun h=>h rfl) _;refine⟨0,[0],rfl,rfl,A_ _,?_,?_,?_,K4.tr (kg.mono fun x (hx:x<w2.heap.size)=>by show x≠g5;omega),kg.size⟩
  ·exact⟨rfl,.inr ⟨w2.heap.size,1, #[Bs Bm 0],rfl,aG _,O4.keeps kg (by show w2.heap.size≠g5;omega),aG _,by unfold maxLen;omega,rfl,rfl⟩⟩
  ·intro e
   have:w2.heap.size=g5:=by simpa[J3]using e
   omega
  ·rw[<-FE (by omega),It]
   exact(R3.stored 0 _).1
 case round=>
  obtain⟨i,L,rfl,hL,zY,ho,hne,kS,hx,hsz⟩:=hrel;obtain⟨wo,rfl⟩:=ag (wr:AS);have IL:B_ (Le n L):=AF (by rw[hL,HN.out];exact tz RT i);have ZW:=IL.len;have HX:=AF hx;have HO:=AF ho;have HS:=AF kS;have HNE:=AF hne;have HL:=AF hL;clear hx ho kS hne hL;obtain⟨m,hm⟩:=ag L.length;rw[<-hm]at HO zY ZW;have HM:=AF hm;clear hm;obtain⟨oa,oc,rfl⟩:=ownsRow_form HO;by_cases hlt:i<m
  ·obtain⟨s,hs⟩:∃ s,L[i]? =As s:=⟨_,az (by have:=HM.out;omega)⟩
   have kS:s<n:=IL.lt s (aw hs);obtain⟨og,ou,rfl,hog1,hog2,Xn,Ld,_⟩:=fB HO hlt;rw[aO,hs]at Xn;cases Xn;replace Ld:wo.cell? ⟨og,i,AI⟩=As (Bs Bm s):=Ld;have hrow:d.nx[s]? =As (d.nx.getD s []):=by rw[bu,az (by rw[<-HN.out];exact kS)];rfl
   obtain⟨b,off,a',c',rfl,hb,hc,j8⟩:=H1.elem hrow;have zv:(d.nx.getD s []).length=K:=by rw[HK.out];exact RT.len s (by rw[<-HN.out];exact kS)
   rw[zv]at hc j8;replace hc:wo.cell? ⟨b,off+s,AI⟩=As (An a' K c'):=((ae.ai (XB wo HX) fun _ h=>h:ae (· <w.heap.size) w wo).cell (p:=⟨b,off+s,AI⟩) hb).trans hc;replace hb:b<wo.heap.size:=aD hb (XB wo HX).size;have BW:=AF (C1.keeps HX Bd);have Ex:=AF j8;have GX:B_ (∀ k,k<K->∃ t:Nat,t<n/\(d.nx.getD s [])[k]? =As (t:Int)/\(sj d s)[k]? =As t):=AF fun k hk=>by
    obtain⟨t,e1,e2,e3⟩:=Sw RT (s:=s) (k:=k) (by rw[<-HN.out];exact kS) (by rw[<-HK.out];exact hk);exact⟨t,by rw[HN.out];exact e1,e2,e3⟩
   have ZZ:B_ (kT d (i+1)=(sj d s).foldl eG L/\(sj d s).length=K):=AF ⟨by rw[FC (by rw[<-HL.out];exact hs), <-HL.out],by rw[HK.out];exact vw RT (by rw[<-HN.out];exact kS)⟩;have hii:(i:Int)<m:=by omega
   have GI:(s:Int)<n:=by omega
   have VM:=BW.cell 1;simp only[FG,D0,D_]at VM;clear hs j8 hrow zv;go_upto_region 9 with fail
   refine aL J6 (fun _=>False) (by kernel_rfl) 10 [0,1,0,0,12,28,63,127,255,0] (fun i=>J6) (by kernel_rfl) (fun i=>aX.any _) ?_;intro C hC hne;have HC:=AF hC;have q1:=aC hC (p:=⟨w.heap.size,1,AI⟩) BW.lt (fun h=>h) VM;have q2:=aC hC (p:=⟨og,i,AI⟩) hog2 (fun h=>h) Ld;have q3:=aC hC (p:=⟨b,off+s,AI⟩) hb (fun h=>h) hc;clear hC
   repeat (refine au (fun K hK=>?_);first | (refine cg rfl ?_;try go_simp;refine hK _ _ ?_;clear hK K) | (refine bV rfl rfl ?_;unfold aF;go_simp;refine hK _ _ ?_;clear hK K))
   refine bM (fun W hW hH=>?_);have hM:=(HC.out W).1 hW;have rV:=hM.below;have WO:=AF (ak HO rV);have WS:=AF (ak HS rV);have WX:B_ (ae (fun x=>x<w2.heap.size) w2 W):=AF (HX.tr (ae.ai rV fun x (hx:x<w2.heap.size)=>aD hx HX.size));have WB:=AF (BW.below rV BW.lt);have s7:w3.heap.size<=W.heap.size:=EV hsz rV.size;clear hM rV hW hH HC q1 q2 q3 hne HO HS HX BW VM Ld hc;go_wp2;go_loopw [4,34] (fun ov jv wr=>∃ (j:Nat) (L':List Nat),j<=K/\jv=Bs Bm j/\L'=((sj d s).take j).foldl eG L/\wr.ownsRow w2.heap.size 3 1 ov L'.length (L'.map cV)/\ov.ownBlock≠As g5/\wr.ownsRow g5 3 1 (An (As ⟨g5,0,AI⟩) n n) n ((nX n L').map aM)/\ae (fun x=>x<w2.heap.size) w2 wr/\w3.heap.size<=wr.heap.size) (fun _ jv _=>K-(intOf jv).toNat);case atStart=>exact⟨0,L,A_ _,rfl,rfl,by rw[<-HM.out];exact WO,HNE,WS,WX,s7⟩
   case round=>
    obtain⟨j,L',hj,rfl,hL',ho,hne,hsn',hx,hsz'⟩:=hrel;obtain⟨wi,rfl⟩:=ag (wr:AS)
    have IL':B_ (Le n L'):=AF (by
     rw[hL'];refine IL.fold _ fun t ht=>?_
     have:=Cz RT (s:=s) (by rw[<-HN.out];exact kS) t (List.mem_of_mem_take ht)
     rw[HN.out];exact this)
    have aio:=IL'.len;have HO:=AF ho;have HS:=AF hsn';have HX:=AF hx;have Ta:=AF hne;have HL':=AF hL';clear ho hsn' hx hne hL';obtain⟨m',Xm⟩:=ag L'.length;rw[<-Xm]at HO aio;have HM':=AF Xm;clear Xm;obtain⟨oa,oc',rfl⟩:=ownsRow_form HO;by_cases DK:j<K
    ·obtain⟨t,tq,hz,Pg⟩:=GX.out j DK
     obtain⟨b',off',rfl,hb',hc'⟩:=(Ex.below (XB wi HX)).elem hz;replace hc':wi.cell? ⟨b',off'+j,AI⟩=As (Bs Bm (t:Int)):=hc';have ku:(j:Int)<K:=by omega
     have hti:(t:Int)<n:=by omega
     have hstep:((sj d s).take (j+1)).foldl eG L=eG L' t:=by rw[NC L Pg,HL'.out]
     obtain⟨sg,su,se,_,hsg,hsu,hsc,hsf⟩:=fB HS tq;cases se;rw[aO,sq _ tq]at hsu;by_cases j7:t∈L'
     ·rw[if_pos j7]at hsu
      cases hsu
      have hst:eG L' t=L':=by unfold eG;rw[if_pos j7]
      rw[hst]at hstep;replace hsc:wi.cell? ⟨g5,t,AI⟩=As (Bs Bm 1):=hsc;have HST:=AF hstep;clear hstep hst hz Pg;go_wp2;go_roundw;case rel=>exact⟨j+1,L',by omega,by go_num,HST.symm,by rw[<-HM'.out];exact HO,Ta,HS,HX,hsz'⟩
      case measure=>simp[intOf];omega
     ·rw[if_neg j7]at hsu
      cases hsu
      have hst:eG L' t=L'++ [t]:=by unfold eG;rw[if_neg j7]
      rw[hst]at hstep;replace hsc:wi.cell? ⟨g5,t,AI⟩=As (Bs Bm 0):=hsc;have HST:=AF hstep;have ali:m'+1<=n:=by
       have:=(IL'.add tq).len;rw[hst,aJ]at this;have:=HM'.out;simp at*;omega
      clear hstep hst hz Pg;go_upto_region 14 with fail
      refine aA ?_;intro W3 hW3;have kg:ae (· ≠g5) wi W3:=by rw[hW3];exact(ae.refl (· ≠g5) _).setCell (p:=⟨g5,t,AI⟩) (fun h=>h rfl) _
      have S3:B_ (W3.ownsRow g5 3 1 (An (As ⟨g5,0,AI⟩) n n) n ((nX n (L'++ [t])).map aM)):=AF (by
       rw[<-Aw L' tq,It,hW3]
       exact(HS.stored t _).1)
      have U3:B_ (W3.ownsRow w2.heap.size 3 1 (An oa m' oc') m' (L'.map cV)):=AF (aj HO kg fun x hx e=>Ta (by rw[hx,e]));have Y3:B_ (ae (fun x=>x<w2.heap.size) w2 W3):=AF (HX.tr (kg.mono fun x (hx:x<w2.heap.size)=>by show x≠g5;omega));have hs5:w3.heap.size<=W3.heap.size:=EV hsz' kg.size;clear hW3 kg HO HS HX hsc hsf hc';go_wp2_with (at_builtin;refine DE _ rfl (G_ 46) (G_ 48) 39 rfl w2.heap.size 3 iI (Bs Bm 0) 1 8 By y8 kP kQ kR rfl (by decide) _ _ _ rfl (U3.alloc _) ⟨W3.heap.size,0,AI⟩ 1 1 [cV t] rfl rfl (eF _ _ _) (by simp[GG,cV]) (by unfold maxLen;omega) (by omega) (by simp;omega) ?_;intro v' w6 hown' hgrow hh hat;have jH:=AF hown';have HG:=AF hgrow;clear hown' hgrow hh);go_roundw;case rel=>
       have hs6:W3.heap.size<=w6.heap.size:=by have:=HG.size;simp at this;omega
       have AY:∀ x,(An oa m' oc').ownBlock=As x->w2.heap.size<=x:=fun x hx=>(U3.lt x hx).1
       refine⟨j+1,L'++ [t],by omega,by go_num,HST.symm,?_,?_,?_,?_,by omega⟩
       ·rw[aJ, <-HM'.out,Dm]
        exact jH
       ·intro e
        rcases hat with h5 | h5
        ·exact Ta (h5.symm.trans e)
        ·rw[h5]at e
         have h6:(W3.alloc (.cells #[cV t] 3)).heap.size=g5:=by simpa using e
         simp at h6;omega
       ·refine(S3.alloc _).kept HG (.inr fun e=>?_)
        exact Ta e.symm
       ·exact(Y3.tr (ae.ai ((Ext.refl _).alloc _).below fun x (hx:x<w2.heap.size)=>by omega)).tr (ae.bB HG fun x (hx:x<w2.heap.size)=>⟨by simp;omega,fun e=>by have:=AY x e.symm;omega⟩)
      case measure=>simp[intOf];omega
    ·obtain rfl:j=K:=by omega
     have ku:¬ ((j:Int)<j):=by omega
     have kW:L'=kT d (i+1):=by rw[HL'.out,ZZ.1,C' (by rw[ZZ.2];exact aG _)]
     have HF:=AF kW;clear kW;have qQ:m<=m':=by rw[HM.out,HM'.out,HL'.out];exact Fy _ _
     go_wp2;go_roundw;case rel=>exact⟨i+1,L',by go_num,HF,by have:=HM'.out;omega,by rw[<-HM'.out];exact HO,Ta,HS,HX,hsz'⟩
     case measure=>simp[intOf];omega
  ·obtain rfl:i=m:=by omega
   have hii:¬ ((i:Int)<i):=by omega
   have kW:ck d=L:=by rw[HL.out];exact FD (by rw[<-HL.out, <-HM.out];exact aG _) (by rw[<-HN.out];exact ZW)
   have HF:=AF kW;clear kW;go_wp2;refine Iv (v:=I' #[An oa i oc,Bs Bm 0]) (by simp[results,Tryz.results15,go_sem]) rfl ?_;exact⟨_,rfl,by rw[HF.out, <-HM.out];exact aH HO (Nat.le_of_lt Bd),X2.trans (HX.mono fun x (hx:x<w.heap.size)=>by show x<w2.heap.size;omega:ae (· <w.heap.size) w2 wo).below⟩
attribute [local go_sem] encS
theorem fE (W:AS) (b:Nat) (x y z:Value):ae (· ≠b) W (((W.setCell ⟨b,0,AI⟩ x).setCell ⟨b,1,AI⟩ y).setCell ⟨b,2,AI⟩ z):=
 (((ae.refl _ _).setCell (p:=⟨b,0,AI⟩) (fun h=>h rfl) _).setCell (p:=⟨b,1,AI⟩) (fun h=>h rfl) _).setCell (p:=⟨b,2,AI⟩) (fun h=>h rfl) _
theorem Tb (v:Value) (d:DF) (rt:Rt d) (sm:Sm d) (w:AS) (h:dr w v d): ah 115 #[v] w fun e w'=>∃ u,e=Dn (I' #[u,Bs Bm 0])/\bN w.heap.size w' u (bD d)/\aa w w':=by
 obtain⟨iI,y8,kP,kQ,kR⟩:=GF Tryz.mH;obtain⟨iL,zY,mR,mS,mU⟩:=GF Tryz.tX;have CR:B_ (∀ W,aa w W->ah 15 #[v] W fun e w'=>∃ u,e=Dn (I' #[u,Bs Bm 0])/\w'.ownsRow W.heap.size 3 1 u (ck d).length ((ck d).map cV)/\aa W w'):=AF fun W hW=>Gc v d rt sm W (h.below hW)
 obtain⟨v0,v1,v2,rfl,h0,h1,h2⟩:=h;obtain⟨a0,c0,rfl⟩:=h0.1.form;obtain⟨a1,c1,rfl⟩:=h1.form;obtain⟨a2,c2,rfl⟩:=h2.form;have yB:=rt.mr;rw[yB]at h2 CR ⊢;obtain⟨n,hn⟩:=ag d.nx.length;obtain⟨K,hK⟩:=ag d.cl.length;obtain⟨L,hL⟩:=ag (ck d);obtain⟨m,hm⟩:=ag L.length;rw[<-hL, <-hm]at CR;have IL:B_ (Le n L):=AF (by rw[hL,hn];exact gv rt);have RA:n<=4000:=by have:=rt.le;omega
 have fH:1<=n:=by have:=rt.pos;omega
 have hK2:K<=256:=by have:=rt.Bk;omega
 have hmn:m<=n:=by rw[hm];exact IL.len
 rw[<-hn]at h1 h2 CR ⊢;rw[<-hK]at h0 CR ⊢;have HMK:B_ (∀ s,s<n->∃ (b:Nat) (off:Nat) (ad:Option Addr) (cp:Nat),a2=As ⟨b,off,AI⟩/\b<w.heap.size/\w.cell? ⟨b,off+s,AI⟩=As (An ad (d.mr.getD s []).length cp)/\bQ aM w (An ad (d.mr.getD s []).length cp) (d.mr.getD s [])):=AF fun s hs=>by
  have hrow:d.mr[s]? =As (d.mr.getD s []):=by rw[bu,az (by rw[yB, <-hn];exact hs)];rfl
  obtain⟨b,off,a',c',e1,e2,e3,e4⟩:=h2.elem hrow;exact⟨b,off,a',c',e1,e2,e3,e4⟩
 have GX:B_ (∀ s,s<n->∃ (b:Nat) (off:Nat) (ad:Option Addr) (cp:Nat),a1=As ⟨b,off,AI⟩/\b<w.heap.size/\w.cell? ⟨b,off+s,AI⟩=As (An ad K cp)/\bQ aM w (An ad K cp) (d.nx.getD s [])):=AF fun s hs=>by
  have hrow:d.nx[s]? =As (d.nx.getD s []):=by rw[bu,az (by rw[<-hn];exact hs)];rfl
  obtain⟨b,off,a',c',e1,e2,e3,e4⟩:=h1.elem hrow;rw[rt.len s (by rw[<-hn];exact hs), <-hK]at e3 e4;exact⟨b,off,a',c',e1,e2,e3,e4⟩
 have H0:=AF h0;have HN:=AF hn;have HK:=AF hK;have HL:=AF hL;have HM:=AF hm;have RT:=AF rt;have SM:=AF sm;have HZ:B_ (∀ s,s∈L->∀ j,j<K->∃ t:Nat,t<n/\t∈L/\(d.nx.getD s [])[j]? =As (t:Int)/\(sj d s)[j]? =As t):=AF fun s hs j hj=>by
  have kS:=IL.lt s hs;obtain⟨t,e1,e2,e3⟩:=Sw rt (s:=s) (k:=j) (by rw[<-hn];exact kS) (by rw[<-hK];exact hj);exact⟨t,by rw[hn];exact e1,by rw[hL]at hs ⊢;exact mh rt hs (aw e3),e2,e3⟩
 have ZZ:B_ (∀ s,s<n->(sj d s).length=K):=AF fun s hs=>by rw[hK];exact vw rt (by rw[<-hn];exact hs)
 clear h0 h1 h2 hn hK yB rt sm hL hm;go_enter Tryz.func115,Tryz.ntmps115;go_wp2_with fail
 refine aI ?_;intro V hV;have B1:B_ (ar V w.heap.size #[An a0 K c0,An a1 n c1,An a2 n c2] 29):=AF (by rw[hV];exact(ar.new w _ _).alloc _);have R1:B_ (ar V (w.heap.size+1) #[An AI 0 0,An AI 0 0,An AI 0 0] 29):=AF (by rw[hV];exact(ar.new (w.alloc _) _ _).at (by simp));have X1:B_ (aa w V):=AF (by rw[hV];exact(((Ext.refl w).alloc _).alloc _).below);clear hV;have hsV:w.heap.size+1<V.heap.size:=R1.lt;refine(CR V X1).mono ?_;rintro e w2 ⟨u,rfl,ho,hx⟩;obtain⟨la,lc,rfl⟩:=ownsRow_form ho;have LR:=AF ho;have B2:=AF (B1.below hx B1.lt);have R2:=AF (R1.below hx R1.lt);have X2:=AF (X1.trans (hx.mono X1.size));have hs2:V.heap.size<=w2.heap.size:=hx.size;have L1:B_ (∀ x,(An la m lc).ownBlock=As x->x<w2.heap.size/\V.heap.size<=x):=AF fun x e=>⟨(ho.lt x e).2,(ho.lt x e).1⟩
 clear ho hx CR B1 R1 X1;obtain⟨⟨k0,k1,k2⟩,_⟩:=B2.three;go_wp2_with (at_make;refine IN _ rfl (G_ 26) (G_ 26) 39 rfl w2.heap.size 3 iI (Bs Bm 0) 1 By y8 kP kQ Bm Bm _ _ n rfl rfl rfl rfl (by rw[kR];omega) (by unfold maxLen;omega) (aG _) ?_;intro w3 hr hg;refine Hid.out ?_);refine AF ?_;have II:w2.heap.size<w3.heap.size:=by
  rcases hr.2 with⟨h5,_⟩ | ⟨g,c,cur,h5,_,h6,_⟩
  ·cases h5
  ·cases h5;exact(A'.1 h6).1
 have hb3:aa w2 w3:=(ae.bB hg fun x hx=>⟨hx,fun e=>by cases e⟩:ae (· <w2.heap.size) w2 w3).below;rw[sS]at hr;have N3:=AF hr;have L3:=AF (ak LR hb3);have B3:=AF (B2.below hb3 B2.lt);have R3:=AF (R2.below hb3 R2.lt);have X3:=AF (X2.trans (hb3.mono X2.size));clear hr hg hb3 k0 k1 k2 LR B2 R2 X2;obtain⟨g5,SI⟩:=ag w2.heap.size;rw[<-SI]at N3 II hs2 L1 ⊢;clear SI;go_wp2;go_loopw [30] (fun iv wr=>∃ i:Nat,i<=m/\iv=Bs Bm i/\wr.ownsRow g5 3 1 (An (As ⟨g5,0,AI⟩) n n) n ((xD n L i).map aM)/\ae (· ≠g5) w3 wr) (fun iv _=>m-(intOf iv).toNat);case atStart=>exact⟨0,A_ _,rfl,by rw[<-ND];exact N3,ae.refl _ _⟩
 case round=>
  obtain⟨i,hi,rfl,hnu,hx⟩:=hrel;obtain⟨wo,rfl⟩:=ag (wr:AS);have HX:=AF hx;have NU:=AF hnu;have LO:=AF (aj L3 hx fun x e=>by have:=L1.out x e;show x≠g5;omega);clear hx hnu;by_cases hlt:i<m
  ·obtain⟨s,hs⟩:∃ s,L[i]? =As s:=⟨_,az (by have:=HM.out;omega)⟩
   have kS:s<n:=IL.lt s (aw hs);obtain⟨lg,lu,rfl,_,_,Xn,Ld,_⟩:=fB LO hlt;rw[aO,hs]at Xn;cases Xn;replace Ld:wo.cell? ⟨lg,i,AI⟩=As (Bs Bm s):=Ld;obtain⟨sg,su,se,_,hsg,hsu,hsc,hsf⟩:=fB NU kS;cases se;have pq:=Sz (N:=n) IL.nodup hs kS;have Hy:=AF pq;have hii:(i:Int)<m:=by omega
   have GI:(s:Int)<n:=by omega
   clear hs pq hsu;go_wp2;go_roundw;case rel=>
    refine⟨i+1,by omega,by go_num,?_,HX.setCell (p:=⟨g5,s,AI⟩) (fun h=>h rfl) _⟩;rw[<-Hy.out,It];exact(NU.stored s _).1
   case measure=>simp[intOf];omega
  ·obtain rfl:i=m:=by omega
   have hii:¬ ((i:Int)<i):=by omega
   have BO:=AF (B3.keeps HX (by show w.heap.size≠g5;omega));have RO:=AF (R3.keeps HX (by show w.heap.size+1≠g5;omega));have XO:B_ (aa w wo):=AF (X3.trans (HX.mono fun x (hx:x<w.heap.size)=>by show x≠g5;omega:ae (· <w.heap.size) w3 wo).below);have hso:w3.heap.size<=wo.heap.size:=HX.size;clear HX L3 B3 R3 X3 N3 hi hlt;obtain⟨⟨k0,k1,k2⟩,_⟩:=BO.three;go_wp2_with fail
   refine(pJ (An a0 K c0) d.cl wo ⟨H0.1.below XO,H0.2⟩ SM.cl).mono ?_;rintro e w5 ⟨u,rfl,ho,hx⟩;rw[<-HK.out]at ho;obtain⟨ca,cc,rfl⟩:=ownsRow_form ho;have C5:=AF ho;have B5:=AF (BO.below hx BO.lt);have R5:=AF (RO.below hx RO.lt);have X5:=AF (XO.trans (hx.mono XO.size));have N5:=AF (ak NU hx);have L5:=AF (ak LO hx);have hs5:wo.heap.size<=w5.heap.size:=hx.size;clear ho hx BO RO XO NU LO k0 k1 k2;go_wp2;refine aA ?_;intro V6 Vm;have D6:B_ (ar V6 w5.heap.size #[An ca K cc,An AI 0 0,An AI 0 0] 29):=AF (by rw[Vm];exact ar.new _ _ _);have uX:aa w5 V6:=by rw[Vm];exact((Ext.refl _).alloc _).below
   clear Vm;have hs6:w5.heap.size<V6.heap.size:=D6.lt;have B6:=AF (B5.below uX B5.lt);have R6:=AF (R5.below uX R5.lt);have X6:=AF (X5.trans (uX.mono X5.size));have N6:=AF (ak N5 uX);have L6:=AF (ak L5 uX);have C6:=AF (ak C5 uX);clear uX B5 R5 X5 N5 L5 C5;go_loopw [46] (fun kv wr=>∃ (k:Nat) (nx mk:Value),k<=i/\kv=Bs Bm k/\ar wr w5.heap.size #[An ca K cc,nx,mk] 29/\bw V6.heap.size wr nx ((L.take k).map (qD d))/\bw V6.heap.size wr mk ((L.take k).map fun s=>d.mr.getD s [])/\pK nx mk/\ae (fun x=>x<V6.heap.size/\x≠w5.heap.size) V6 wr) (fun kv _=>i-(intOf kv).toNat);case atStart=>exact⟨0,_,_,A_ _,rfl,D6,bw.nil _ _,bw.nil _ _,.inl rfl,ae.refl _ _⟩
   case round=>
    obtain⟨k,nx,mk,hk,rfl,hb,Du,lH,hfar,hx⟩:=hrel;obtain⟨iW,rfl⟩:=ag (wr:AS);have Xo:=AF hb;have zi:=AF Du;have zj:=AF lH;have Xp:=AF hfar;have HX:=AF hx;have LO:=AF (aj L6 hx fun x e=>by have:=L1.out x e;exact⟨by omega,by omega⟩)
    have NU:=AF (aj N6 hx fun x e=>by
     have e2:g5=x:=by simpa[J3]using e
     exact⟨by omega,by omega⟩)
    have CO:=AF (aj C6 hx fun x e=>by
     have h5:=C6.lt x e
     exact⟨h5.2,fun e2=>cy D6 C6 (by decide) x e e2⟩)
    have BO:=AF (B6.keeps hx ⟨by omega,by omega⟩);have RO:=AF (R6.keeps hx ⟨by omega,by omega⟩);have XO:B_ (aa w iW):=AF (X6.trans (hx.mono fun x (hx:x<w.heap.size)=>⟨by omega,by omega⟩:ae (· <w.heap.size) V6 iW).below);have ais:V6.heap.size<=iW.heap.size:=hx.size;clear hb Du lH hfar hx;by_cases hlt:k<i
    ·obtain⟨s,hs⟩:∃ s,L[k]? =As s:=⟨_,az (by have:=HM.out;omega)⟩
     have hsL:=aw hs;have kS:s<n:=IL.lt s hsL;obtain⟨lg,lu,rfl,_,_,Xn,Ld,_⟩:=fB LO hlt;rw[aO,hs]at Xn;cases Xn;replace Ld:iW.cell? ⟨lg,k,AI⟩=As (Bs Bm s):=Ld;obtain⟨b1,NZ,ad1,cp1,rfl,hb1,hc1,hsl1⟩:=GX.out s kS;replace hc1:iW.cell? ⟨b1,NZ+s,AI⟩=As (An ad1 K cp1):=((ae.ai XO fun _ h=>h:ae (· <w.heap.size) w iW).cell (p:=⟨b1,NZ+s,AI⟩) hb1).trans hc1;have Ex:=AF hsl1;have eT:L.take (k+1)=L.take k++ [s]:=by rw[GO,hs];rfl
     have p8:=AF eT;have HSM:=AF hsL;have eE:(k:Int)<i:=by omega
     have GI:(s:Int)<n:=by omega
     have VM:=BO.cell 1;simp only[FG,D0,D_]at VM;clear hs hsl1 eT hsL;go_wp2;clear VM hc1 Ld;go_loopw [12,56] (fun tv jv wr=>∃ j:Nat,j<=K/\jv=Bs Bm j/\wr.ownsRow iW.heap.size 3 1 tv j (((sj d s).take j).map fun t=>cV (L.idxOf t))/\ae (fun x=>x<iW.heap.size) iW wr) (fun _ jv _=>K-(intOf jv).toNat);case atStart=>exact⟨0,A_ _,rfl,E_ _ _ _ _,ae.refl _ _⟩
     case round=>
      obtain⟨j,hj,rfl,ht,hx⟩:=hrel;obtain⟨wi,rfl⟩:=ag (wr:AS);have HT:=AF ht;have KI:=AF hx;have XI:B_ (aa w wi):=AF (XO.trans (hx.mono fun x (hx:x<w.heap.size)=>by show x<iW.heap.size;omega:ae (· <w.heap.size) iW wi).below);have aiu:iW.heap.size<=wi.heap.size:=hx.size;clear ht hx;obtain⟨ta,tc,rfl⟩:=ownsRow_form HT;by_cases DK:j<K
      ·obtain⟨t,tq,htL,hz,Pg⟩:=HZ.out s HSM j DK
       obtain⟨b',off',rfl,hb',hc'⟩:=(Ex.below XI).elem hz;replace hc':wi.cell? ⟨b',off'+j,AI⟩=As (Bs Bm (t:Int)):=hc';have NUI:=aj NU KI fun x e=>(NU.lt x e).2
       obtain⟨sg,su,se,_,hsg,hsu,hsc,hsf⟩:=fB NUI tq;cases se;rw[aO,show xD n L i=xD n L L.length by rw[HM.out],SD htL tq]at hsu;cases hsu;replace hsc:wi.cell? ⟨g5,t,AI⟩=As (Bs Bm (L.idxOf t:Int)):=hsc;have ku:(j:Int)<K:=by omega
       have hti:(t:Int)<n:=by omega
       have adI:(((sj d s).take (j+1)).map fun t=>cV (L.idxOf t))=(((sj d s).take j).map fun t=>cV (L.idxOf t))++ [cV (L.idxOf t)]:=by rw[GO,Pg];simp
       have HT2:=AF adI;obtain⟨ix,Vy⟩:=ag (L.idxOf t);rw[<-Vy]at hsc HT2;clear hz Pg adI NUI Vy;go_wp2_with (at_builtin;refine DE _ rfl (G_ 60) (G_ 65) 39 rfl iW.heap.size 3 iI (Bs Bm 0) 1 8 By y8 kP kQ kR rfl (by decide) _ _ _ rfl (HT.alloc _) ⟨wi.heap.size,0,AI⟩ 1 1 [cV ix] rfl rfl (eF _ _ _) (by simp[GG,cV]) (by unfold maxLen;omega) (by omega) (by simp;omega) ?_;intro v' w6 hown' hgrow hh hat;have jH:=AF hown';have HG:=AF hgrow;clear hown' hgrow hh hat);go_roundw;case rel=>
        have AY:∀ x,(An ta j tc).ownBlock=As x->iW.heap.size<=x:=fun x hx=>(HT.lt x hx).1
        refine⟨j+1,by omega,by go_num,by rw[HT2.out];exact jH,?_⟩;exact(KI.tr (ae.ai ((Ext.refl _).alloc _).below fun x (hx:x<iW.heap.size)=>by show x<wi.heap.size;omega)).tr (ae.bB HG fun x (hx:x<iW.heap.size)=>⟨by simp;omega,fun e=>by have:=AY x e.symm;omega⟩)
       case measure=>simp[intOf];omega
      ·obtain rfl:j=K:=by omega
       have ku:¬ ((j:Int)<j):=by omega
       have TV:B_ (wi.ownsRow iW.heap.size 3 1 (An ta j tc) j ((qD d s).map aM)):=AF (by
        have h5:=HT.out;rw[C' (by rw[ZZ.out s kS];exact aG _)]at h5;have e:(qD d s).map aM=(sj d s).map fun t=>cV (L.idxOf t):=by unfold qD;rw[DP, <-HL.out];rfl
        rw[e];exact h5)
       have zv:(qD d s).length=j:=by unfold qD;rw[aQ,ZZ.out s kS]
       have YN:=AF zv;clear zv HT;obtain⟨b2,fV,Xq,Xr,rfl,hb2,hc2,xI⟩:=HMK.out s kS;have hcw:wi.cell? ⟨b2,fV+s,AI⟩=As (An Xq (d.mr.getD s []).length Xr):=((ae.ai XI fun _ h=>h:ae (· <w.heap.size) w wi).cell (p:=⟨b2,fV+s,AI⟩) hb2).trans hc2;have Tc:(d.mr.getD s []).length<=1000000:=by
        by_cases h5:s<d.mr.length
        ·exact SM.Yw _ (aw (by rw[bu,az h5];rfl:d.mr[s]? =As _))
        ·rw[bu,aS (by omega)];exact A_ _
       obtain⟨ml,pd⟩:=ag ((d.mr.getD s []).length);obtain⟨mx,hmx⟩:=ag ((d.mr.getD s []).map aM);have KN:B_ (∀ W,aa w W->ah 22 #[An Xq ml Xr] W fun e w'=>∃ u,e=Dn u/\w'.ownsRow W.heap.size 3 1 u ml mx/\aa W w'):=AF fun W hW=>by
        rw[pd,hmx];exact kO _ (d.mr.getD s []) W (xI.below hW) Tc
       rw[<-pd]at hcw;have NXI:=zi.keeps KI fun x _ h2=>h2
       have MKI:=zj.keeps KI fun x _ h2=>h2
       obtain⟨us,u1,u2,u3⟩:=NXI;obtain⟨ms,m1,m2,m3⟩:=MKI;have AZ:(L.take k).length=k:=by rw[List.length_take];have:=HM.out;omega
       have RB:us.length=k:=by rw[u1,aQ,AZ]
       have Jg:ms.length=k:=by rw[m1,aQ,AZ]
       rw[RB]at u2;rw[Jg]at m2;obtain⟨na,nc,rfl⟩:=ownsRow_form u2;obtain⟨ma,mc,rfl⟩:=ownsRow_form m2;have Jy:=AF (Xo.keeps KI (by show w5.heap.size<iW.heap.size;omega));have BI:=AF (BO.keeps KI (by show w.heap.size<iW.heap.size;omega));have L1':B_ (∀ x,(An na k nc).ownBlock=As x->x<iW.heap.size/\V6.heap.size<=x):=AF (by obtain⟨VN,h0,h2,_⟩:=zi.out;exact fun x e=>⟨(h2.lt x e).2,(h2.lt x e).1⟩);have VO:B_ (∀ x,(An ma k mc).ownBlock=As x->x<iW.heap.size/\V6.heap.size<=x):=AF (by obtain⟨VN,h0,h2,_⟩:=zj.out;exact fun x e=>⟨(h2.lt x e).2,(h2.lt x e).1⟩);have U1:=AF u1;have U2:=AF u2;have U3:=AF u3;have M1:=AF m1;have M2:=AF m2;have M3:=AF m3;have HUS:=AF RB;have Xs:=AF Jg;have vr:=AF pd;have ZE:=AF hmx;have HCW:=AF hcw;clear u1 u2 u3 m1 m2 m3 RB Jg pd hmx zi zj hc2 xI AZ hcw Tc;obtain⟨PL,vv⟩:=ag ([(jh wi.heap.size (An na k nc) k us (An ta j tc)),(mkApp wi.heap.size (An ma k mc) k ms ml mx)]:List ij.App);have pB:PL[0]? =As (jh wi.heap.size (An na k nc) k us (An ta j tc)):=by rw[vv];rfl
       have xB:PL[1]? =As (mkApp wi.heap.size (An ma k mc) k ms ml mx):=by rw[vv];rfl
       have hall:∀ q∈PL,q=(jh wi.heap.size (An na k nc) k us (An ta j tc))\/q=(mkApp wi.heap.size (An ma k mc) k ms ml mx):=fun q hq=>by rw[vv]at hq;simpa using hq
       have Dd:B_ (ij.ky wi PL):=AF ⟨fun q hq=>by rcases hall q hq with rfl | rfl<;>exact aG _,fun q hq x e=>by
        rcases hall q hq with rfl | rfl
        ·have:=L1'.out x e;omega
        ·have:=VO.out x e;omega,fun i j q q' hi hj mF=>by
        have hl:PL.length=2:=by rw[vv];rfl
        have h1:=(AM.1 hi).1;have h2:=(AM.1 hj).1;rcases(show i=0\/i=1 by omega)with rfl | rfl<;>rcases(show j=0\/j=1 by omega)with rfl | rfl<;>(first | (exact absurd rfl mF) | skip)<;>(first | rw[pB]at hi | rw[xB]at hi)<;>(first | rw[pB]at hj | rw[xB]at hj)<;>cases hi<;>cases hj
        ·exact Xp
        ·exact Xp.symm⟩
       have Jm:∀ x,(x<V6.heap.size\/iW.heap.size<=x)->¬ ∃ q∈PL,q.v.ownBlock=As x:=fun x hx ⟨q,hq,e⟩=>by
        rcases hall q hq with rfl | rfl
        ·have:=L1'.out x e;omega
        ·have:=VO.out x e;omega
       have Cy:=AF hall;have Gd:=AF Jm;have zb:B_ (∀ W',ij.bZ V6.heap.size wi PL wi W'->aa w W'):=AF fun W' h=>XI.trans (h.keeps.mono fun x hx=>⟨by have:x<w.heap.size:=hx;omega,Jm x (by have:x<w.heap.size:=hx;omega)⟩:ae (· <w.heap.size) wi W').below
       clear vv hall Jm;go_upto_region 20 with fail
       have HST:B_ (∀ W W' u,ij.bZ V6.heap.size wi PL W W'->(u.oneCell'=GW/\W.ownsRow wi.heap.size 3 1 u ml mx)->(u.oneCell'=GW/\W'.ownsRow wi.heap.size 3 1 u ml mx)):=AF fun W W' u hm h=>⟨h.1,aj h.2 hm.keeps fun x hx=>⟨(h.2.lt x hx).2,Gd x (.inr (by have:=(h.2.lt x hx).1;omega))⟩⟩
       refine RegG.bL (ij.bZ V6.heap.size wi PL) (ij.bZ.drew) (fun _ _ _ h k=>h.trans k) (by kernel_rfl) 16 [0,1,0,4,15,0,32,0,128,0,896,1920,3999,8095,16383,127,65535,131071,262143] (fun i=>i==3 || i==4 || i==12 || i==13 || i==14) (by kernel_rfl) (fun j=>if j=14 then As 72 else AI) (fun j hj=>(by first | rfl | (have kX:19<=j:=hj;first | exact if_neg (by omega) | (split<;>first | omega | rfl)))) (by kernel_rfl) (fun i=>if i=3 then ij.ie.vX V6.heap.size wi PL 1 #[An ta j tc] 39 else if i=4 then ij.ie.app V6.heap.size wi PL (jh wi.heap.size (An na k nc) k us (An ta j tc)) (aw pB)else if i=12 then ij.ie.row V6.heap.size wi PL Dd wi.heap.size (aG _) 3 1 ml mx else if i=13 then ij.ie.UN V6.heap.size wi PL 39 (fun W u=>u.oneCell'=GW/\W.ownsRow wi.heap.size 3 1 u ml mx) HST else if i=14 then ij.ie.Bo V6.heap.size wi PL (mkApp wi.heap.size (An ma k mc) k ms ml mx) (aw xB)else RegG.aX.any _) ?_;intro C hC hne;have HC:=AF hC;have j7:∀ {x:Nat},x<wi.heap.size->(¬ ∃ q∈PL,q.v.ownBlock=As x)->∀ W: {W//C W},W.1.heap[x]? =wi.heap[x]? :=fun {x} h1 h2 W=>((hC W.1).1 W.2).keeps.keep x ⟨h1,h2⟩
       have o1:∀ W: {W//C W},W.1.cell? ⟨w5.heap.size,1,AI⟩=As (An na k nc):=fun W=>(Jy.same (j7 Jy.lt (Gd _ (by omega)) W)).cell 1
       have o2:∀ W: {W//C W},W.1.cell? ⟨w5.heap.size,2,AI⟩=As (An ma k mc):=fun W=>(Jy.same (j7 Jy.lt (Gd _ (by omega)) W)).cell 2
       have o3:∀ W: {W//C W},W.1.cell? ⟨w.heap.size,2,AI⟩=As (An (As ⟨b2,fV,AI⟩) n c2):=fun W=>(BI.same (j7 BI.lt (Gd _ (by omega)) W)).cell 2
       have o4:∀ W: {W//C W},W.1.cell? ⟨b2,fV+s,AI⟩=As (An Xq ml Xr):=fun W=>by
        have e:W.1.cell? ⟨b2,fV+s,AI⟩=wi.cell? ⟨b2,fV+s,AI⟩:=by unfold J_;rw[j7 (x:=b2) (by have:=XI.size;omega) (Gd.out b2 (by omega)) W]
        exact e.trans HCW
       clear hC j7
       repeat (refine RegG.au (fun K hK=>?_);first | (refine RegG.cg rfl ?_;try go_simp;refine hK _ _ ?_;clear hK K) | (refine RegG.bV rfl rfl ?_;unfold aF;go_simp;refine hK _ _ ?_;clear hK K))
       refine RegG.au (fun K hK=>?_);refine RegG.ct rfl rfl (ij.ie.vX V6.heap.size wi PL 1 #[An ta j tc] 39) rfl (fun W hW hN=>?_) (fun v hv=>?_)
       ·have hM:=(HC.out W).1 hW
        clear hW hK K
        (go_simp;exact⟨.below ((Ext.refl _).alloc _).below,⟨_,rfl⟩,fun b hb=>by cases hb;exact⟨ar.new _ _ _,Dd.fresh hM.size⟩⟩)
       obtain⟨x3,rfl⟩:=hv;go_simp;refine hK _ _ ?_;clear hK K;refine RegG.au (fun K hK=>?_);refine RegG.ct rfl rfl (ij.ie.app V6.heap.size wi PL (jh wi.heap.size (An na k nc) k us (An ta j tc)) (aw pB)) rfl (fun W hW hN=>?_) (fun v hv=>?_)
       ·have hM:=(HC.out W).1 hW
        clear hW hK K;refine ij.dN (w0:=wi) (PL:=PL) (p:=(jh wi.heap.size (An na k nc) k us (An ta j tc))) (G_ 69) (G_ 71) 27 rfl iL (An AI 0 0) 24 Ft zY mR mS mU rfl (show(0:Nat)<1 from by decide) Dd pB rfl (hM.old _ (aw pB) U2) ⟨x3,0,AI⟩ 1 rfl [An ta j tc] rfl rfl (cO (hN.at 0 rfl (by kernel_rfl) x3 rfl).1) (by intro u hu;simp at hu;rw[hu];rfl) (by show k+1<=maxLen;unfold maxLen;omega) (by show(k+1)*24<=_;omega) (EV (by omega) hM.size) (show(0:Nat)<1 from by decide) hM.size (fun v W2 g1 g2 g3 _=>⟨g1,g2,g3⟩)
       obtain⟨yg,yh,hv2⟩:=hv;replace hv2:v=An yg (k+1) yh:=hv2;subst hv2;go_simp;refine hK _ _ ?_;clear hK K
       repeat (refine RegG.au (fun K hK=>?_);first | (refine RegG.cg rfl ?_;try go_simp;refine hK _ _ ?_;clear hK K) | (refine RegG.bV rfl rfl ?_;unfold aF;go_simp;refine hK _ _ ?_;clear hK K))
       refine RegG.au (fun K hK=>?_);refine RegG.ct rfl rfl (ij.ie.row V6.heap.size wi PL Dd wi.heap.size (aG _) 3 1 ml mx) rfl (fun W hW hN=>?_) (fun v hv=>?_)
       ·have hM:=(HC.out W).1 hW
        clear hW hK K
        (go_simp;refine bI ((KN W (zb _ hM)).mono ?_);rintro e w2 ⟨um,rfl,ho,hx⟩;exact⟨_,rfl,.below hx,ownsRow_form ho,aH ho hM.size⟩)
       obtain⟨a9,c9,rfl⟩:=hv;go_simp;refine hK _ _ ?_;clear hK K;refine RegG.au (fun K hK=>?_);refine RegG.ct rfl rfl (ij.ie.UN V6.heap.size wi PL 39 (fun W u=>u.oneCell'=GW/\W.ownsRow wi.heap.size 3 1 u ml mx) HST) rfl (fun W hW hN=>?_) (fun v hv=>?_)
       ·have hM:=(HC.out W).1 hW
        clear hW hK K
        (go_simp;exact⟨.below ((Ext.refl _).alloc _).below,⟨_,rfl⟩,fun b hb=>by cases hb;exact⟨⟨_,ar.new _ _ _,rfl,(show W.ownsRow wi.heap.size 3 1 (An a9 ml c9) ml mx from hN.at 0 rfl (by kernel_rfl)).alloc _⟩,Dd.fresh hM.size⟩⟩)
       obtain⟨Xl,rfl⟩:=hv;go_simp;refine hK _ _ ?_;clear hK K;refine RegG.au (fun K hK=>?_);refine RegG.ct rfl rfl (ij.ie.Bo V6.heap.size wi PL (mkApp wi.heap.size (An ma k mc) k ms ml mx) (aw xB)) rfl (fun W hW hN=>?_) (fun v hv=>?_)
       ·have hM:=(HC.out W).1 hW
        have hq:ij.After V6.heap.size wi (jh wi.heap.size (An na k nc) k us (An ta j tc)) W (An yg (k+1) yh):=hN.at 2 rfl (by kernel_rfl);obtain⟨⟨ub,hb1,hb2,hb3⟩,_⟩:=hN.at 0 rfl (by kernel_rfl) Xl rfl;clear hW hK K;refine ij.dN (w0:=wi) (PL:=PL) (p:=(mkApp wi.heap.size (An ma k mc) k ms ml mx)) (G_ 74) (G_ 81) 27 rfl iL (An AI 0 0) 24 Ft zY mR mS mU rfl (show(0:Nat)<1 from by decide) Dd xB rfl (hM.old _ (aw xB) M2) ⟨Xl,0,AI⟩ 1 rfl [ub] ⟨ub,rfl,hb2,hb3⟩ rfl (cO hb1) (by intro u hu;simp at hu;rw[hu];exact hb2) (by show k+1<=maxLen;unfold maxLen;omega) (by show(k+1)*24<=_;omega) (EV (by omega) hM.size) (show(0:Nat)<1 from by decide) hM.size (fun v W2 g1 g2 g3 g4=>⟨g1,g2,g3,?_⟩);rcases g4 with g4 | g4
        ·exact .inl g4
        ·refine .inr (.inr fun e=>?_)
         rw[g4]at e;obtain⟨⟨ns,h5,_⟩,_⟩:=hq;have:=(h5.lt _ e.symm).2;omega
       obtain⟨Jz,JA,hv2⟩:=hv;replace hv2:v=An Jz (k+1) JA:=hv2;subst hv2;go_simp;refine hK _ _ ?_;clear hK K
       repeat (refine RegG.au (fun K hK=>?_);first | (refine RegG.cg rfl ?_;try go_simp;refine hK _ _ ?_;clear hK K) | (refine RegG.bV rfl rfl ?_;unfold aF;go_simp;refine hK _ _ ?_;clear hK K))
       refine RegG.bM (fun W7 hW hH=>?_);have hM:=(HC.out W7).1 hW;have Q0:B_ (ij.After V6.heap.size wi (jh wi.heap.size (An na k nc) k us (An ta j tc)) W7 (An yg (k+1) yh)):=AF (hH _ (aw (show _=As _ from rfl:_[3]? =As _)));have Q1:B_ (ij.After V6.heap.size wi (mkApp wi.heap.size (An ma k mc) k ms ml mx) W7 (An Jz (k+1) JA)/\((An Jz (k+1) JA).ownBlock=(An ma k mc).ownBlock\/pK (An Jz (k+1) JA) (An yg (k+1) yh))):=AF (hH _ (aw (show _=As _ from rfl:_[0]? =As _)));have K7:B_ (ae (fun x=>x<wi.heap.size/\¬ ∃ q∈PL,q.v.ownBlock=As x) wi W7):=AF hM.keeps
       have KR:B_ (∀ (e:J') (bs sz m:Nat) (u:Value) (ys:List Value),e≠39->wi.ownsRow bs e sz u m ys->W7.ownsRow bs e sz u m ys):=AF (by
        intro e bs sz m u ys he ho;refine aj ho K7 fun x hx=>⟨(ho.lt x hx).2,?_⟩
        rintro⟨q,hq,Mo⟩;rcases Cy.out q hq with rfl | rfl
        ·rcases ownBlock_ne he ho U2.out with h5 | h5
         ·rw[h5]at hx;cases hx
         ·exact h5 (hx.trans Mo.symm)
        ·rcases ownBlock_ne he ho M2.out with h5 | h5
         ·rw[h5]at hx;cases hx
         ·exact h5 (hx.trans Mo.symm))
       have B7:=AF (Jy.keeps K7 ⟨Jy.lt,Gd _ (.inl (by omega))⟩);have K8:B_ (ae (fun x=>x<V6.heap.size/\x≠w5.heap.size) V6 W7):=AF ((HX.tr (KI.mono fun x hx=>by have:=hx.1;show x<iW.heap.size;omega)).tr (K7.mono fun x hx=>⟨by have:=hx.1;omega,Gd x (.inl hx.1)⟩))
       have O7:B_ (bw V6.heap.size W7 (An yg (k+1) yh) ((L.take (k+1)).map (qD d))):=AF (by
        obtain⟨⟨ns,h5,h6⟩,_⟩:=Q0.out;have h6:ns=[An ta j tc]:=h6;subst h6;rw[p8.out,Dm];refine bw.more U1 HUS h5 (fun i u l hu hl=>KR _ _ _ _ _ _ (by decide) (U3 i u l hu hl)) ?_;rw[YN.out]
        exact aH (KR _ _ _ _ _ _ (by decide) TV) (by omega))
       have P7:B_ (bw V6.heap.size W7 (An Jz (k+1) JA) ((L.take (k+1)).map fun s=>d.mr.getD s [])):=AF (by
        obtain⟨⟨⟨ns,h5,u,h6,_,h7⟩,_⟩,_⟩:=Q1.out;have h6:ns=[u]:=h6;subst h6;rw[p8.out,Dm];refine bw.more M1 Xs h5 (fun i u l hu hl=>KR _ _ _ _ _ _ (by decide) (M3 i u l hu hl)) ?_;rw[<-vr.out, <-ZE.out]
        exact aH h7 (by omega))
       have FR:B_ (pK (An yg (k+1) yh) (An Jz (k+1) JA)):=AF (by
        rcases Q1.2 with h | h
        ·rcases Q0.2 with h' | h'
         ·rcases Xp.out with h3 | h3
          ·exact .inl (h'.trans h3)
          ·exact .inr (by rw[h',h];exact h3)
         ·by_cases e:(An yg (k+1) yh).ownBlock=AI
          ·exact .inl e
          ·right
           intro e2;rw[h]at e2;cases e3:(An ma k mc).ownBlock with
           | none=>rw[e3]at e2;exact e e2
           | some x=>rw[e3]at e2;have:=h' x e2;have:=(VO.out x e3).1;omega
        ·exact h.symm)
       clear hM hW hH HC o1 o2 o3 o4 pB xB Dd Cy Gd zb HST K7 KR Jy BI TV Q0 Q1 L1' VO U1 U2 U3 M1 M2 M3 HUS Xs vr ZE KN p8 hne;obtain⟨⟨k0,k1,k2⟩,z0,z1,z2⟩:=B7.three;go_wp2;go_roundw;case rel=>
        have kg:ae (· ≠w5.heap.size) W7 ((W7.setCell ⟨w5.heap.size,1,AI⟩ (An yg (k+1) yh)).setCell ⟨w5.heap.size,2,AI⟩ (An Jz (k+1) JA)):=
         ((ae.refl _ _).setCell (p:=⟨w5.heap.size,1,AI⟩) (fun h=>h rfl) _).setCell (p:=⟨w5.heap.size,2,AI⟩) (fun h=>h rfl) _
        exact⟨k+1,_,_,by omega,by go_num,(B7.set 1 _).set 2 _,O7.keeps kg (fun x h1 _ e=>by omega),P7.keeps kg (fun x h1 _ e=>by omega),FR,K8.tr (kg.mono fun x hx=>hx.2)⟩
       case measure=>simp[intOf];omega
    ·obtain rfl:k=i:=by omega
     have eE:¬ ((k:Int)<k):=by omega
     have eT:L.take k=L:=C' (by rw[<-HM.out];exact aG _);have NXF:=AF zi.out;have MKF:=AF zj.out;rw[eT,HL.out]at NXF MKF;obtain⟨na,nc,rfl⟩:=NXF.form;obtain⟨ma,mc,rfl⟩:=MKF.form;obtain⟨⟨k0,k1,k2⟩,_⟩:=Xo.three;obtain⟨⟨l0,l1,l2⟩,z0,z1,z2⟩:=RO.three;clear eT;obtain⟨q1,OJ⟩:=ag (((ck d).map (qD d)).length);obtain⟨q2,Wt⟩:=ag (((ck d).map fun s=>d.mr.getD s []).length);rw[<-OJ]at k1 NXF;rw[<-Wt]at k2 MKF;rw[<-OJ, <-Wt]at Xo;clear OJ Wt;go_wp2;refine bA ?_;intro W9 gj;have E9:B_ (ar W9 (w.heap.size+1) #[An ca K cc,An na q1 nc,An ma q2 mc] 29/\ae (· ≠w.heap.size+1) iW W9):=by rw[gj];exact AF ⟨RO.yU,fE _ _ _ _ _⟩
     clear gj z0 z1 z2 k0 k1 k2 l0 l1 l2;obtain⟨⟨m0,m1,m2⟩,_⟩:=E9.1.three;refine Iv (v:=I' #[.agg #[An ca K cc,An na q1 nc,An ma q2 mc],Bs Bm 0]) (by simp[results,Tryz.results115,go_sem,m0,m1,m2]) rfl ⟨_,rfl,⟨_,_,_,rfl,?_,?_,?_⟩,XO.trans (E9.2.mono fun x (hx:x<w.heap.size)=>by show x≠w.heap.size+1;omega:ae (· <w.heap.size) iW W9).below⟩
     ·have h5:=aH (base':=w.heap.size) (aj CO E9.2 fun x e=>by have:=(CO.lt x e).1;show x≠_;omega) (by omega)
      show W9.ownsRow w.heap.size 56 4 _ d.cl.length _;rw[<-HK.out];exact h5
     ·exact(NXF.keeps E9.2 fun x h1 _=>by show x≠_;omega).base (by omega)
     ·exact(MKF.keeps E9.2 fun x h1 _=>by show x≠_;omega).base (by omega)
end
section
open Go Go.RowKit Go.Shelf Go.Maps
attribute [local go_sem] encS
theorem qM (d:DF) (p:Nat->Nat):∀ n,(br d p n).2.length=(br d p n).1.length
 | 0=>rfl
 | n+1=>by
  have h:=qM d p n;rw[br];split
  ·exact h
  ·rw[aJ,aJ,h];rfl
theorem pS (d:DF) (p:Nat->Nat):∀ n,(br d p n).1.length<=n
 | 0=>aG _
 | n+1=>by
  have h:=pS d p n;rw[br];split
  ·omega
  ·rw[aJ,If];omega
theorem JD (v pv:Value) (d:DF) (rt:Rt d) (sm:Sm d) (p:Nat->Nat) (w:AS) (h:dr w v d) (hp:bQ (fun u:Value=>u) w pv ((AN d.nx.length).map fun s=>cV (p s))): ah 81 #[v,pv] w fun e w'=>∃ u,e=Dn u/\bN w.heap.size w' u (dn d p)/\aa w w':=by
 obtain⟨iI,y8,kP,kQ,kR⟩:=GF Tryz.mH;obtain⟨iL,zY,mR,mS,mU⟩:=GF Tryz.tX;obtain⟨v0,v1,v2,rfl,h0,h1,h2⟩:=h;obtain⟨a0,c0,rfl⟩:=h0.1.form;obtain⟨a1,c1,rfl⟩:=h1.form;obtain⟨a2,c2,rfl⟩:=h2.form;obtain⟨pa,pc,rfl⟩:=hp.form;rw[aQ,D']at hp ⊢;have yB:=rt.mr;rw[yB]at h2 ⊢;obtain⟨n,hn⟩:=ag d.nx.length;obtain⟨K,hK⟩:=ag d.cl.length;have RA:n<=4000:=by have:=rt.le;omega
 have hK2:K<=256:=by have:=rt.Bk;omega
 rw[<-hn]at h1 h2 hp ⊢;rw[<-hK]at h0 ⊢;have HPV:B_ (∀ s,s<n->∃ (b:Nat) (off:Nat),pa=As ⟨b,off,AI⟩/\b<w.heap.size/\w.cell? ⟨b,off+s,AI⟩=As (Bs Bm (p s))):=AF fun s hs=>by
  obtain⟨b,o,e,h2,h3⟩:=hp.elem (i:=s) (x:=cV (p s)) (by rw[aO,AT hs];rfl);exact⟨b,o,e,h2,h3⟩
 have HMK:B_ (∀ s,s<n->∃ (b:Nat) (off:Nat) (ad:Option Addr) (cp:Nat),a2=As ⟨b,off,AI⟩/\b<w.heap.size/\w.cell? ⟨b,off+s,AI⟩=As (An ad (d.mr.getD s []).length cp)/\bQ aM w (An ad (d.mr.getD s []).length cp) (d.mr.getD s [])):=AF fun s hs=>by
  have hrow:d.mr[s]? =As (d.mr.getD s []):=by rw[bu,az (by rw[yB, <-hn];exact hs)];rfl
  obtain⟨b,off,a',c',e1,e2,e3,e4⟩:=h2.elem hrow;exact⟨b,off,a',c',e1,e2,e3,e4⟩
 have GX:B_ (∀ s,s<n->∃ (b:Nat) (off:Nat) (ad:Option Addr) (cp:Nat),a1=As ⟨b,off,AI⟩/\b<w.heap.size/\w.cell? ⟨b,off+s,AI⟩=As (An ad K cp)/\bQ aM w (An ad K cp) (d.nx.getD s [])):=AF fun s hs=>by
  have hrow:d.nx[s]? =As (d.nx.getD s []):=by rw[bu,az (by rw[<-hn];exact hs)];rfl
  obtain⟨b,off,a',c',e1,e2,e3,e4⟩:=h1.elem hrow;rw[rt.len s (by rw[<-hn];exact hs), <-hK]at e3 e4;exact⟨b,off,a',c',e1,e2,e3,e4⟩
 have H0:=AF h0;have HN:=AF hn;have HK:=AF hK;have RT:=AF rt;have SM:=AF sm;clear h0 h1 h2 hp hn hK yB rt sm;go_enter Tryz.func81,Tryz.ntmps81;go_wp2_with fail
 refine aI ?_;intro V hV;have B1:B_ (ar V w.heap.size #[An a0 K c0,An a1 n c1,An a2 n c2] 29):=AF (by rw[hV];exact(ar.new w _ _).alloc _);have R1:B_ (ar V (w.heap.size+1) #[An AI 0 0,An AI 0 0,An AI 0 0] 29):=AF (by rw[hV];exact(ar.new (w.alloc _) _ _).at (by simp));have X1:B_ (aa w V):=AF (by rw[hV];exact(((Ext.refl w).alloc _).alloc _).below);clear hV;have hsV:w.heap.size+1<V.heap.size:=R1.lt;refine(pJ (An a0 K c0) d.cl V ⟨H0.1.below X1,H0.2⟩ SM.cl).mono ?_;rintro e w5 ⟨u,rfl,ho,hx⟩;rw[<-HK.out]at ho;obtain⟨ca,cc,rfl⟩:=ownsRow_form ho;have C5:=AF ho;have B5:=AF (B1.below hx B1.lt);have R5:=AF (R1.below hx R1.lt);have X5:=AF (X1.trans (hx.mono X1.size));have hs5:V.heap.size<=w5.heap.size:=hx.size;clear ho hx B1 R1 X1;go_wp2;refine aA ?_;intro V6 Vm;obtain⟨ob,hob⟩:=ag w5.heap.size;have D6:B_ (ar V6 ob #[An ca K cc,An AI 0 0,An AI 0 0] 29):=AF (by rw[Vm,hob];exact ar.new _ _ _);have uX:aa w5 V6:=by rw[Vm];exact((Ext.refl _).alloc _).below
 rw[<-hob];clear Vm;have hs6:ob<V6.heap.size:=D6.lt;have B6:=AF (B5.below uX B5.lt);have R6:=AF (R5.below uX R5.lt);have X6:=AF (X5.trans (uX.mono X5.size));have C6:=AF (ak C5 uX);have hwo:w.heap.size+1<ob:=by omega
 clear uX B5 R5 X5 C5 hob;go_loopw [17] (fun kv wr=>∃ (k m:Nat) (nx mk:Value),k<=n/\kv=Bs Bm k/\m=(br d p k).1.length/\ar wr ob #[An ca K cc,nx,mk] 29/\bw V6.heap.size wr nx (br d p k).1/\bw V6.heap.size wr mk (br d p k).2/\pK nx mk/\ae (fun x=>x<V6.heap.size/\x≠ob) V6 wr) (fun kv _=>n-(intOf kv).toNat);case atStart=>exact⟨0,0,_,_,A_ _,rfl,rfl,D6,bw.nil _ _,bw.nil _ _,.inl rfl,ae.refl _ _⟩
 case round=>
  obtain⟨k,m,nx,mk,hk,rfl,hm,hb,Du,lH,hfar,hx⟩:=hrel;obtain⟨iW,rfl⟩:=ag (wr:AS);obtain⟨na,nc,rfl⟩:=Du.form;obtain⟨ma,mc,rfl⟩:=lH.form;rw[qM]at lH hfar hb;rw[<-hm]at Du lH hfar hb;have apa:m<=k:=by rw[hm];exact pS _ _ _
  have Xo:=AF hb;have zi:=AF Du;have zj:=AF lH;have HM:=AF hm;have Xp:=AF hfar;have HX:=AF hx
  have CO:=AF (aj C6 hx fun x e=>by
   have h5:=C6.lt x e
   exact⟨h5.2,fun e2=>cy D6 C6 (by decide) x e e2⟩)
  have BO:=AF (B6.keeps hx ⟨by omega,by omega⟩);have RO:=AF (R6.keeps hx ⟨by omega,by omega⟩);have XO:B_ (aa w iW):=AF (X6.trans (hx.mono fun x (hx:x<w.heap.size)=>⟨by omega,by omega⟩:ae (· <w.heap.size) V6 iW).below);have ais:V6.heap.size<=iW.heap.size:=hx.size;clear hb Du lH hfar hx hm;by_cases hlt:k<n
  ·obtain⟨bp,op,rfl,hbp,Me⟩:=HPV.out k hlt
   have adL:iW.cell? ⟨bp,op+k,AI⟩=As (Bs Bm (p k)):=((ae.ai XO fun _ h=>h:ae (· <w.heap.size) w iW).cell (p:=⟨bp,op+k,AI⟩) hbp).trans Me;obtain⟨o0,o1,o2⟩:=bN.qC Xo;have eE:(k:Int)<n:=by omega
   obtain⟨pk,UA⟩:=ag (p k);rw[<-UA]at adL;have HPK:=AF UA;clear Me UA;by_cases Kl:pk<m
   ·have hpi:(pk:Int)<m:=by omega
    have hst:br d p (k+1)=br d p k:=by rw[br,if_pos (by rw[<-HPK.out, <-HM.out];exact Kl)]
    have aah:=AF hst;clear hst;go_wp2;go_roundw;case rel=>exact⟨k+1,m,_,_,by omega,by go_num,by rw[aah.out];exact HM,Xo,by rw[aah.out];exact zi,by rw[aah.out];exact zj,Xp,HX⟩
    case measure=>simp[intOf];omega
   ·have hpi:¬ ((pk:Int)<m):=by omega
    have hst:br d p (k+1)=((br d p k).1++ [(d.nx.getD k []).map fun t=>((p t.toNat:Nat):Int)],(br d p k).2++ [d.mr.getD k []]):=by rw[br,if_neg (by rw[<-HPK.out, <-HM.out];exact Kl)]
    have HT1:B_ ((br d p (k+1)).1=(br d p k).1++ [(d.nx.getD k []).map fun t=>((p t.toNat:Nat):Int)]):=AF (by rw[hst]);have HT2:B_ ((br d p (k+1)).2=(br d p k).2++ [d.mr.getD k []]):=AF (by rw[hst]);obtain⟨b1,NZ,ad1,cp1,rfl,hb1,hc1,hsl1⟩:=GX.out k hlt;replace hc1:iW.cell? ⟨b1,NZ+k,AI⟩=As (An ad1 K cp1):=((ae.ai XO fun _ h=>h:ae (· <w.heap.size) w iW).cell (p:=⟨b1,NZ+k,AI⟩) hb1).trans hc1;have Ex:=AF hsl1;have VM:=BO.cell 1;simp only[FG,D0,D_]at VM;clear hst hsl1;go_wp2;clear VM hc1 adL o0 o1 o2;go_loopw [8,33] (fun tv jv wr=>∃ j:Nat,j<=K/\jv=Bs Bm j/\wr.ownsRow iW.heap.size 3 1 tv j (((d.nx.getD k []).take j).map fun t=>cV (p t.toNat))/\ae (fun x=>x<iW.heap.size) iW wr) (fun _ jv _=>K-(intOf jv).toNat);case atStart=>exact⟨0,A_ _,rfl,E_ _ _ _ _,ae.refl _ _⟩
    case round=>
     obtain⟨j,hj,rfl,ht,hx⟩:=hrel;obtain⟨wi,rfl⟩:=ag (wr:AS);have HT:=AF ht;have KI:=AF hx;have XI:B_ (aa w wi):=AF (XO.trans (hx.mono fun x (hx:x<w.heap.size)=>by show x<iW.heap.size;omega:ae (· <w.heap.size) iW wi).below);have aiu:iW.heap.size<=wi.heap.size:=hx.size;clear ht hx;obtain⟨ta,tc,rfl⟩:=ownsRow_form HT;by_cases DK:j<K
     ·obtain⟨x,hxj⟩:∃ x,(d.nx.getD k [])[j]? =As x:=⟨_,az (by rw[RT.len k (by rw[<-HN.out];exact hlt), <-HK.out];exact DK)⟩
      have UY:=RT.iV k (by rw[<-HN.out];exact hlt) x (aw hxj);obtain⟨t,rfl⟩:∃ t:Nat,x=(t:Int):=⟨x.toNat,by omega⟩;have tq:t<n:=by have:=HN.out;omega
      obtain⟨b',off',rfl,hb',hc'⟩:=(Ex.below XI).elem hxj;replace hc':wi.cell? ⟨b',off'+j,AI⟩=As (Bs Bm (t:Int)):=hc';obtain⟨b6,o6,e6,uX,hc6⟩:=HPV.out t tq;cases e6;have hc7:wi.cell? ⟨bp,op+t,AI⟩=As (Bs Bm (p t)):=((ae.ai XI fun _ h=>h:ae (· <w.heap.size) w wi).cell (p:=⟨bp,op+t,AI⟩) hbp).trans hc6;have ku:(j:Int)<K:=by omega
      have hti:(t:Int)<n:=by omega
      have adM:B_ (((d.nx.getD k []).take (j+1)).map (fun t=>cV (p t.toNat))=(((d.nx.getD k []).take j).map fun t=>cV (p t.toNat))++ [cV (p t)]):=AF (by rw[GO,hxj,Dm];rfl);obtain⟨ix,Vy⟩:=ag (p t);rw[<-Vy]at hc7 adM;clear hxj UY hc6 uX Vy;go_wp2_with (at_builtin;refine DE _ rfl (G_ 37) (G_ 42) 39 rfl iW.heap.size 3 iI (Bs Bm 0) 1 8 By y8 kP kQ kR rfl (by decide) _ _ _ rfl (HT.alloc _) ⟨wi.heap.size,0,AI⟩ 1 1 [cV ix] rfl rfl (eF _ _ _) (by simp[GG,cV]) (by unfold maxLen;omega) (by omega) (by simp;omega) ?_;intro v' w6 hown' hgrow hh hat;have jH:=AF hown';have HG:=AF hgrow;clear hown' hgrow hh hat);go_roundw;case rel=>
       have AY:∀ x,(An ta j tc).ownBlock=As x->iW.heap.size<=x:=fun x hx=>(HT.lt x hx).1
       refine⟨j+1,by omega,by go_num,by rw[adM.out];exact jH,?_⟩;exact(KI.tr (ae.ai ((Ext.refl _).alloc _).below fun x (hx:x<iW.heap.size)=>by show x<wi.heap.size;omega)).tr (ae.bB HG fun x (hx:x<iW.heap.size)=>⟨by simp;omega,fun e=>by have:=AY x e.symm;omega⟩)
      case measure=>simp[intOf];omega
     ·obtain rfl:j=K:=by omega
      have ku:¬ ((j:Int)<j):=by omega
      have zv:((d.nx.getD k []).map fun t=>((p t.toNat:Nat):Int)).length=j:=by rw[aQ,RT.len k (by rw[<-HN.out];exact hlt), <-HK.out]
      have TV:B_ (wi.ownsRow iW.heap.size 3 1 (An ta j tc) j (((d.nx.getD k []).map fun t=>((p t.toNat:Nat):Int)).map aM)):=AF (by
       have h5:=HT.out;rw[C' (by rw[aQ]at zv;rw[zv];exact aG _)]at h5
       rw[DP];exact h5)
      have YN:=AF zv;clear zv HT;obtain⟨b2,fV,Xq,Xr,rfl,hb2,hc2,xI⟩:=HMK.out k hlt;have hcw:wi.cell? ⟨b2,fV+k,AI⟩=As (An Xq (d.mr.getD k []).length Xr):=((ae.ai XI fun _ h=>h:ae (· <w.heap.size) w wi).cell (p:=⟨b2,fV+k,AI⟩) hb2).trans hc2;have Tc:(d.mr.getD k []).length<=1000000:=by
       by_cases h5:k<d.mr.length
       ·exact SM.Yw _ (aw (by rw[bu,az h5];rfl:d.mr[k]? =As _))
       ·rw[bu,aS (by omega)];exact A_ _
      obtain⟨ml,pd⟩:=ag ((d.mr.getD k []).length);obtain⟨mx,hmx⟩:=ag ((d.mr.getD k []).map aM);have KN:B_ (∀ W,aa w W->ah 22 #[An Xq ml Xr] W fun e w'=>∃ u,e=Dn u/\w'.ownsRow W.heap.size 3 1 u ml mx/\aa W w'):=AF fun W hW=>by
       rw[pd,hmx];exact kO _ (d.mr.getD k []) W (xI.below hW) Tc
      rw[<-pd]at hcw;have NXI:=zi.keeps KI fun x _ h2=>h2
      have MKI:=zj.keeps KI fun x _ h2=>h2
      obtain⟨us,u1,u2,u3⟩:=NXI;obtain⟨ms,m1,m2,m3⟩:=MKI;have RB:us.length=m:=by rw[u1, <-HM.out]
      have Jg:ms.length=m:=by rw[m1,qM, <-HM.out]
      rw[RB]at u2;rw[Jg]at m2;have Jy:=AF (Xo.keeps KI (by show ob<iW.heap.size;omega));have BI:=AF (BO.keeps KI (by show w.heap.size<iW.heap.size;omega));have L1':B_ (∀ x,(An na m nc).ownBlock=As x->x<iW.heap.size/\V6.heap.size<=x):=AF (by obtain⟨VN,h0,h2,_⟩:=zi.out;exact fun x e=>⟨(h2.lt x e).2,(h2.lt x e).1⟩);have VO:B_ (∀ x,(An ma m mc).ownBlock=As x->x<iW.heap.size/\V6.heap.size<=x):=AF (by obtain⟨VN,h0,h2,_⟩:=zj.out;exact fun x e=>⟨(h2.lt x e).2,(h2.lt x e).1⟩);have U1:=AF u1;have U2:=AF u2;have U3:=AF u3;have M1:=AF m1;have M2:=AF m2;have M3:=AF m3;have HUS:=AF RB;have Xs:=AF Jg;have vr:=AF pd;have ZE:=AF hmx;have HCW:=AF hcw;clear u1 u2 u3 m1 m2 m3 RB Jg pd hmx zi zj hc2 xI hcw Tc;have HL9:B_ (m+1=(br d p (k+1)).1.length):=AF (by rw[HT1.out,aJ, <-HM.out];rfl);obtain⟨PL,vv⟩:=ag ([(jh wi.heap.size (An na m nc) m us (An ta j tc)),(mkApp wi.heap.size (An ma m mc) m ms ml mx)]:List ij.App);have pB:PL[0]? =As (jh wi.heap.size (An na m nc) m us (An ta j tc)):=by rw[vv];rfl
      have xB:PL[1]? =As (mkApp wi.heap.size (An ma m mc) m ms ml mx):=by rw[vv];rfl
      have hall:∀ q∈PL,q=(jh wi.heap.size (An na m nc) m us (An ta j tc))\/q=(mkApp wi.heap.size (An ma m mc) m ms ml mx):=fun q hq=>by rw[vv]at hq;simpa using hq
      have Dd:B_ (ij.ky wi PL):=AF ⟨fun q hq=>by rcases hall q hq with rfl | rfl<;>exact aG _,fun q hq x e=>by
       rcases hall q hq with rfl | rfl
       ·have:=L1'.out x e;omega
       ·have:=VO.out x e;omega,fun i j q q' hi hj mF=>by
       have hl:PL.length=2:=by rw[vv];rfl
       have h1:=(AM.1 hi).1;have h2:=(AM.1 hj).1;rcases(show i=0\/i=1 by omega)with rfl | rfl<;>rcases(show j=0\/j=1 by omega)with rfl | rfl<;>(first | (exact absurd rfl mF) | skip)<;>(first | rw[pB]at hi | rw[xB]at hi)<;>(first | rw[pB]at hj | rw[xB]at hj)<;>cases hi<;>cases hj
       ·exact Xp
       ·exact Xp.symm⟩
      have Jm:∀ x,(x<V6.heap.size\/iW.heap.size<=x)->¬ ∃ q∈PL,q.v.ownBlock=As x:=fun x hx ⟨q,hq,e⟩=>by
       rcases hall q hq with rfl | rfl
       ·have:=L1'.out x e;omega
       ·have:=VO.out x e;omega
      have Cy:=AF hall;have Gd:=AF Jm;have zb:B_ (∀ W',ij.bZ V6.heap.size wi PL wi W'->aa w W'):=AF fun W' h=>XI.trans (h.keeps.mono fun x hx=>⟨by have:x<w.heap.size:=hx;omega,Jm x (by have:x<w.heap.size:=hx;omega)⟩:ae (· <w.heap.size) wi W').below
      clear vv hall Jm;go_upto_region 12 with fail
      have HST:B_ (∀ W W' u,ij.bZ V6.heap.size wi PL W W'->(u.oneCell'=GW/\W.ownsRow wi.heap.size 3 1 u ml mx)->(u.oneCell'=GW/\W'.ownsRow wi.heap.size 3 1 u ml mx)):=AF fun W W' u hm h=>⟨h.1,aj h.2 hm.keeps fun x hx=>⟨(h.2.lt x hx).2,Gd x (.inr (by have:=(h.2.lt x hx).1;omega))⟩⟩
      refine RegG.bL (ij.bZ V6.heap.size wi PL) (ij.bZ.drew) (fun _ _ _ h k=>h.trans k) (by kernel_rfl) 16 [0,1,0,4,15,0,32,0,128,0,896,1920,3999,8095,16383,127,65535,131071,262143] (fun i=>i==3 || i==4 || i==12 || i==13 || i==14) (by kernel_rfl) (fun j=>if j=14 then As 49 else AI) (fun j hj=>(by first | rfl | (have kX:19<=j:=hj;first | exact if_neg (by omega) | (split<;>first | omega | rfl)))) (by kernel_rfl) (fun i=>if i=3 then ij.ie.vX V6.heap.size wi PL 1 #[An ta j tc] 39 else if i=4 then ij.ie.app V6.heap.size wi PL (jh wi.heap.size (An na m nc) m us (An ta j tc)) (aw pB)else if i=12 then ij.ie.row V6.heap.size wi PL Dd wi.heap.size (aG _) 3 1 ml mx else if i=13 then ij.ie.UN V6.heap.size wi PL 39 (fun W u=>u.oneCell'=GW/\W.ownsRow wi.heap.size 3 1 u ml mx) HST else if i=14 then ij.ie.Bo V6.heap.size wi PL (mkApp wi.heap.size (An ma m mc) m ms ml mx) (aw xB)else RegG.aX.any _) ?_;intro C hC hne;have HC:=AF hC;have j7:∀ {x:Nat},x<wi.heap.size->(¬ ∃ q∈PL,q.v.ownBlock=As x)->∀ W: {W//C W},W.1.heap[x]? =wi.heap[x]? :=fun {x} h1 h2 W=>((hC W.1).1 W.2).keeps.keep x ⟨h1,h2⟩
      have o1:∀ W: {W//C W},W.1.cell? ⟨ob,1,AI⟩=As (An na m nc):=fun W=>(Jy.same (j7 Jy.lt (Gd _ (by omega)) W)).cell 1
      have o2:∀ W: {W//C W},W.1.cell? ⟨ob,2,AI⟩=As (An ma m mc):=fun W=>(Jy.same (j7 Jy.lt (Gd _ (by omega)) W)).cell 2
      have o3:∀ W: {W//C W},W.1.cell? ⟨w.heap.size,2,AI⟩=As (An (As ⟨b2,fV,AI⟩) n c2):=fun W=>(BI.same (j7 BI.lt (Gd _ (by omega)) W)).cell 2
      have o4:∀ W: {W//C W},W.1.cell? ⟨b2,fV+k,AI⟩=As (An Xq ml Xr):=fun W=>by
       have e:W.1.cell? ⟨b2,fV+k,AI⟩=wi.cell? ⟨b2,fV+k,AI⟩:=by unfold J_;rw[j7 (x:=b2) (by have:=XI.size;omega) (Gd.out b2 (by omega)) W]
       exact e.trans HCW
      clear hC j7
      repeat (refine RegG.au (fun K hK=>?_);first | (refine RegG.cg rfl ?_;try go_simp;refine hK _ _ ?_;clear hK K) | (refine RegG.bV rfl rfl ?_;unfold aF;go_simp;refine hK _ _ ?_;clear hK K))
      refine RegG.au (fun K hK=>?_);refine RegG.ct rfl rfl (ij.ie.vX V6.heap.size wi PL 1 #[An ta j tc] 39) rfl (fun W hW hN=>?_) (fun v hv=>?_)
      ·have hM:=(HC.out W).1 hW
       clear hW hK K
       (go_simp;exact⟨.below ((Ext.refl _).alloc _).below,⟨_,rfl⟩,fun b hb=>by cases hb;exact⟨ar.new _ _ _,Dd.fresh hM.size⟩⟩)
      obtain⟨x3,rfl⟩:=hv;go_simp;refine hK _ _ ?_;clear hK K;refine RegG.au (fun K hK=>?_);refine RegG.ct rfl rfl (ij.ie.app V6.heap.size wi PL (jh wi.heap.size (An na m nc) m us (An ta j tc)) (aw pB)) rfl (fun W hW hN=>?_) (fun v hv=>?_)
      ·have hM:=(HC.out W).1 hW
       clear hW hK K;refine ij.dN (w0:=wi) (PL:=PL) (p:=(jh wi.heap.size (An na m nc) m us (An ta j tc))) (G_ 46) (G_ 48) 27 rfl iL (An AI 0 0) 24 Ft zY mR mS mU rfl (show(0:Nat)<1 from by decide) Dd pB rfl (hM.old _ (aw pB) U2) ⟨x3,0,AI⟩ 1 rfl [An ta j tc] rfl rfl (cO (hN.at 0 rfl (by kernel_rfl) x3 rfl).1) (by intro u hu;simp at hu;rw[hu];rfl) (by show m+1<=maxLen;unfold maxLen;omega) (by show(m+1)*24<=_;omega) (EV (by omega) hM.size) (show(0:Nat)<1 from by decide) hM.size (fun v W2 g1 g2 g3 _=>⟨g1,g2,g3⟩)
      obtain⟨yg,yh,hv2⟩:=hv;replace hv2:v=An yg (m+1) yh:=hv2;subst hv2;go_simp;refine hK _ _ ?_;clear hK K
      repeat (refine RegG.au (fun K hK=>?_);first | (refine RegG.cg rfl ?_;try go_simp;refine hK _ _ ?_;clear hK K) | (refine RegG.bV rfl rfl ?_;unfold aF;go_simp;refine hK _ _ ?_;clear hK K))
      refine RegG.au (fun K hK=>?_);refine RegG.ct rfl rfl (ij.ie.row V6.heap.size wi PL Dd wi.heap.size (aG _) 3 1 ml mx) rfl (fun W hW hN=>?_) (fun v hv=>?_)
      ·have hM:=(HC.out W).1 hW
       clear hW hK K
       (go_simp;refine bI ((KN W (zb _ hM)).mono ?_);rintro e w2 ⟨um,rfl,ho,hx⟩;exact⟨_,rfl,.below hx,ownsRow_form ho,aH ho hM.size⟩)
      obtain⟨a9,c9,rfl⟩:=hv;go_simp;refine hK _ _ ?_;clear hK K;refine RegG.au (fun K hK=>?_);refine RegG.ct rfl rfl (ij.ie.UN V6.heap.size wi PL 39 (fun W u=>u.oneCell'=GW/\W.ownsRow wi.heap.size 3 1 u ml mx) HST) rfl (fun W hW hN=>?_) (fun v hv=>?_)
      ·have hM:=(HC.out W).1 hW
       clear hW hK K
       (go_simp;exact⟨.below ((Ext.refl _).alloc _).below,⟨_,rfl⟩,fun b hb=>by cases hb;exact⟨⟨_,ar.new _ _ _,rfl,(show W.ownsRow wi.heap.size 3 1 (An a9 ml c9) ml mx from hN.at 0 rfl (by kernel_rfl)).alloc _⟩,Dd.fresh hM.size⟩⟩)
      obtain⟨Xl,rfl⟩:=hv;go_simp;refine hK _ _ ?_;clear hK K;refine RegG.au (fun K hK=>?_);refine RegG.ct rfl rfl (ij.ie.Bo V6.heap.size wi PL (mkApp wi.heap.size (An ma m mc) m ms ml mx) (aw xB)) rfl (fun W hW hN=>?_) (fun v hv=>?_)
      ·have hM:=(HC.out W).1 hW
       have hq:ij.After V6.heap.size wi (jh wi.heap.size (An na m nc) m us (An ta j tc)) W (An yg (m+1) yh):=hN.at 2 rfl (by kernel_rfl);obtain⟨⟨ub,hb1,hb2,hb3⟩,_⟩:=hN.at 0 rfl (by kernel_rfl) Xl rfl;clear hW hK K;refine ij.dN (w0:=wi) (PL:=PL) (p:=(mkApp wi.heap.size (An ma m mc) m ms ml mx)) (G_ 51) (G_ 58) 27 rfl iL (An AI 0 0) 24 Ft zY mR mS mU rfl (show(0:Nat)<1 from by decide) Dd xB rfl (hM.old _ (aw xB) M2) ⟨Xl,0,AI⟩ 1 rfl [ub] ⟨ub,rfl,hb2,hb3⟩ rfl (cO hb1) (by intro u hu;simp at hu;rw[hu];exact hb2) (by show m+1<=maxLen;unfold maxLen;omega) (by show(m+1)*24<=_;omega) (EV (by omega) hM.size) (show(0:Nat)<1 from by decide) hM.size (fun v W2 g1 g2 g3 g4=>⟨g1,g2,g3,?_⟩);rcases g4 with g4 | g4
       ·exact .inl g4
       ·refine .inr (.inr fun e=>?_)
        rw[g4]at e;obtain⟨⟨ns,h5,_⟩,_⟩:=hq;have:=(h5.lt _ e.symm).2;omega
      obtain⟨Jz,JA,hv2⟩:=hv;replace hv2:v=An Jz (m+1) JA:=hv2;subst hv2;go_simp;refine hK _ _ ?_;clear hK K
      repeat (refine RegG.au (fun K hK=>?_);first | (refine RegG.cg rfl ?_;try go_simp;refine hK _ _ ?_;clear hK K) | (refine RegG.bV rfl rfl ?_;unfold aF;go_simp;refine hK _ _ ?_;clear hK K))
      refine RegG.bM (fun W7 hW hH=>?_);have hM:=(HC.out W7).1 hW;have Q0:B_ (ij.After V6.heap.size wi (jh wi.heap.size (An na m nc) m us (An ta j tc)) W7 (An yg (m+1) yh)):=AF (hH _ (aw (show _=As _ from rfl:_[3]? =As _)));have Q1:B_ (ij.After V6.heap.size wi (mkApp wi.heap.size (An ma m mc) m ms ml mx) W7 (An Jz (m+1) JA)/\((An Jz (m+1) JA).ownBlock=(An ma m mc).ownBlock\/pK (An Jz (m+1) JA) (An yg (m+1) yh))):=AF (hH _ (aw (show _=As _ from rfl:_[0]? =As _)));have K7:B_ (ae (fun x=>x<wi.heap.size/\¬ ∃ q∈PL,q.v.ownBlock=As x) wi W7):=AF hM.keeps
      have KR:B_ (∀ (e:J') (bs sz m:Nat) (u:Value) (ys:List Value),e≠39->wi.ownsRow bs e sz u m ys->W7.ownsRow bs e sz u m ys):=AF (by
       intro e bs sz m u ys he ho;refine aj ho K7 fun x hx=>⟨(ho.lt x hx).2,?_⟩
       rintro⟨q,hq,Mo⟩;rcases Cy.out q hq with rfl | rfl
       ·rcases ownBlock_ne he ho U2.out with h5 | h5
        ·rw[h5]at hx;cases hx
        ·exact h5 (hx.trans Mo.symm)
       ·rcases ownBlock_ne he ho M2.out with h5 | h5
        ·rw[h5]at hx;cases hx
        ·exact h5 (hx.trans Mo.symm))
      have B7:=AF (Jy.keeps K7 ⟨Jy.lt,Gd _ (.inl (by omega))⟩);have K8:B_ (ae (fun x=>x<V6.heap.size/\x≠ob) V6 W7):=AF ((HX.tr (KI.mono fun x hx=>by have:=hx.1;show x<iW.heap.size;omega)).tr (K7.mono fun x hx=>⟨by have:=hx.1;omega,Gd x (.inl hx.1)⟩))
      have O7:B_ (bw V6.heap.size W7 (An yg (m+1) yh) (br d p (k+1)).1):=AF (by
       obtain⟨⟨ns,h5,h6⟩,_⟩:=Q0.out;have h6:ns=[An ta j tc]:=h6;subst h6;rw[HT1.out];refine bw.more U1 HUS h5 (fun i u l hu hl=>KR _ _ _ _ _ _ (by decide) (U3 i u l hu hl)) ?_;rw[YN.out]
       exact aH (KR _ _ _ _ _ _ (by decide) TV) (by omega))
      have P7:B_ (bw V6.heap.size W7 (An Jz (m+1) JA) (br d p (k+1)).2):=AF (by
       obtain⟨⟨⟨ns,h5,u,h6,_,h7⟩,_⟩,_⟩:=Q1.out;have h6:ns=[u]:=h6;subst h6;rw[HT2.out];refine bw.more M1 Xs h5 (fun i u l hu hl=>KR _ _ _ _ _ _ (by decide) (M3 i u l hu hl)) ?_;rw[<-vr.out, <-ZE.out]
       exact aH h7 (by omega))
      have FR:B_ (pK (An yg (m+1) yh) (An Jz (m+1) JA)):=AF (by
       rcases Q1.2 with h | h
       ·rcases Q0.2 with h' | h'
        ·rcases Xp.out with h3 | h3
         ·exact .inl (h'.trans h3)
         ·exact .inr (by rw[h',h];exact h3)
        ·by_cases e:(An yg (m+1) yh).ownBlock=AI
         ·exact .inl e
         ·right
          intro e2;rw[h]at e2;cases e3:(An ma m mc).ownBlock with
          | none=>rw[e3]at e2;exact e e2
          | some x=>rw[e3]at e2;have:=h' x e2;have:=(VO.out x e3).1;omega
       ·exact h.symm)
      clear hM hW hH HC o1 o2 o3 o4 pB xB Dd Cy Gd zb HST K7 KR Jy BI TV Q0 Q1 L1' VO U1 U2 U3 M1 M2 M3 HUS Xs vr ZE KN HT1 HT2 hne;obtain⟨⟨k0,k1,k2⟩,z0,z1,z2⟩:=B7.three;go_wp2;go_roundw;case rel=>
       have kg:ae (· ≠ob) W7 ((W7.setCell ⟨ob,1,AI⟩ (An yg (m+1) yh)).setCell ⟨ob,2,AI⟩ (An Jz (m+1) JA)):=
        ((ae.refl _ _).setCell (p:=⟨ob,1,AI⟩) (fun h=>h rfl) _).setCell (p:=⟨ob,2,AI⟩) (fun h=>h rfl) _
       exact⟨k+1,m+1,_,_,by omega,by go_num,HL9,(B7.set 1 _).set 2 _,O7.keeps kg (fun x h1 _ e=>by omega),P7.keeps kg (fun x h1 _ e=>by omega),FR,K8.tr (kg.mono fun x hx=>hx.2)⟩
      case measure=>simp[intOf];omega
  ·obtain rfl:k=n:=by omega
   have eE:¬ ((k:Int)<k):=by omega
   have NXF:=AF zi.out;have MKF:=AF zj.out;obtain⟨⟨k0,k1,k2⟩,_⟩:=Xo.three;obtain⟨⟨l0,l1,l2⟩,z0,z1,z2⟩:=RO.three;go_wp2;refine bA ?_;intro W9 gj;have E9:B_ (ar W9 (w.heap.size+1) #[An ca K cc,An na m nc,An ma m mc] 29/\ae (· ≠w.heap.size+1) iW W9):=by rw[gj];exact AF ⟨RO.yU,fE _ _ _ _ _⟩
   clear gj z0 z1 z2 k0 k1 k2 l0 l1 l2;obtain⟨⟨m0,m1,m2⟩,_⟩:=E9.1.three;refine Iv (v:=.agg #[An ca K cc,An na m nc,An ma m mc]) (by simp[results,Tryz.results81,go_sem,m0,m1,m2]) rfl ⟨_,rfl,⟨_,_,_,rfl,?_,?_,?_⟩,XO.trans (E9.2.mono fun x (hx:x<w.heap.size)=>by show x≠w.heap.size+1;omega:ae (· <w.heap.size) iW W9).below⟩
   ·have h5:=aH (base':=w.heap.size) (aj CO E9.2 fun x e=>by have:=(CO.lt x e).1;show x≠_;omega) (by omega)
    show W9.ownsRow w.heap.size 56 4 _ d.cl.length _;rw[<-HK.out];exact h5
   ·show bw _ _ _ (br d p d.nx.length).1
    rw[<-HN.out];exact(NXF.keeps E9.2 fun x h1 _=>by show x≠_;omega).base (by omega)
   ·show bw _ _ _ (br d p d.nx.length).2
    rw[<-HN.out];exact(MKF.keeps E9.2 fun x h1 _=>by show x≠_;omega).base (by omega)
end
section
open Go Go.RowKit Go.Shelf Go.Maps
structure dD (W:AS) (base n:Nat) (us:List Value) (ll:List (List Int)):Prop where
 l1:us.length=n
 l2:ll.length=n
 rows:RowsIn W base us ll
 far:∀ (i j:Nat) (u v:Value),us[i]? =As u->us[j]? =As v->i≠j->pK u v
theorem dD.start (W:AS) (base n:Nat):dD W base n (GH n (An AI 0 0)) (GH n []) where
 l1:=Is
 l2:=Is
 rows:=fun i u l hu hl=>by
  rw[DQ]at hu hl;split at hu
  ·rename_i h
   rw[if_pos h]at hl;cases hu;cases hl;exact E_ _ _ _ _
  ·cases hu
 far:=fun i j u v hu _ _=>by
  rw[DQ]at hu;split at hu
  ·cases hu;exact .inl rfl
  ·cases hu
theorem dD.keeps {W W':AS} {base n:Nat} {us:List Value} {ll:List (List Int)} (h:dD W base n us ll) {R:Nat->Prop} (hk:ae R W W') (hr:∀ u x,u∈us->u.ownBlock=As x->x<W.heap.size->R x):dD W' base n us ll:=⟨h.l1,h.l2,h.rows.keeps hk hr,h.far⟩
theorem dD.below {W W':AS} {base n:Nat} {us:List Value} {ll:List (List Int)} (h:dD W base n us ll) (hk:aa W W'):dD W' base n us ll:=⟨h.l1,h.l2,h.rows.below hk,h.far⟩
theorem dD.more {W W':AS} {base n i:Nat} {us:List Value} {ll:List (List Int)} {u v:Value} {l m:List Int} (h:dD W base n us ll) (hu:us[i]? =As u) (hl:ll[i]? =As l) (hk:ae (fun x=>x<W.heap.size/\u.ownBlock≠As x) W W') (ho:W'.ownsRow base 3 1 v m.length (m.map aM)) (hv:v.ownBlock=u.ownBlock\/∀ x,v.ownBlock=As x->W.heap.size<=x):dD W' base n (us.set i v) (ll.set i m):=by
 have hlt:=fun {j:Nat} {x:Value} (hj:us[j]? =As x)=>h.rows.lt h.l1 h.l2 (aw hj)
 refine⟨by rw[JY];exact h.l1,by rw[JY];exact h.l2,fun j x y hx hy=>?_,fun j k x y hx hy hne=>?_⟩
 ·by_cases e:j=i
  ·subst e
   have h1:=(AM.1 hu).1;have h2:=(AM.1 hl).1;rw[Dl h1]at hx;rw[Dl h2]at hy;cases hx;cases hy;exact ho
  ·rw[DH (Ne.symm e)]at hx hy
   have hr:=h.rows j x y hx hy;refine aj hr hk fun b hb=>⟨(hr.lt b hb).2,fun e2=>?_⟩
   rcases h.far j i x u hx hu e with h3 | h3
   ·rw[h3]at hb;cases hb
   ·exact h3 (hb.trans e2.symm)
 ·have hi:=(AM.1 hu).1
  by_cases e:j=i
  ·subst e
   rw[Dl hi]at hx;cases hx;rw[DH (fun e=>hne (by omega))]at hy;exact((h.far k j y u hy hu (Ne.symm hne)).step hv fun b e=>(hlt hy b e).2).symm
  ·rw[DH (Ne.symm e)]at hx
   by_cases e2:k=i
   ·subst e2
    rw[Dl hi]at hy;cases hy;exact(h.far j k x u hx hu e).step hv fun b e=>(hlt hx b e).2
   ·rw[DH (Ne.symm e2)]at hy
    exact h.far j k x y hx hy hne
theorem VP {p:Nat->Nat} {n:Nat} (h:NP p n) {b:Nat} (hb:b<fj p n):∃ s,s<n/\p s=b:=by obtain⟨s,h1,h2,_⟩:=j3 (d:=⟨[],[],[]⟩) h b hb;exact⟨s,h1,h2⟩
theorem Ge {cl:List BS} {p:Nat->Nat} {b:Nat} :∀ {k:Nat},k<=cl.length->(∀ x∈cl,x≠0)->(tD cl p b k=0↔ ∀ j,j<k->p j≠b)
 | 0,_,_=>⟨fun _ j hj=>absurd hj (H_ _),fun _=>rfl⟩
 | k+1,hk,hz=>by
  have ih:=Ge (cl:=cl) (p:=p) (b:=b) (k:=k) (by omega) hz;rw[tD];split
  ·rename_i e
   constructor
   ·intro h0
    have h1:cl.getD k 0=0:=by
     apply BitVec.eq_of_getLsbD_eq;intro i hi;have h2:(tD cl p b k ||| cl.getD k 0).getLsbD i=false:=by rw[h0];exact BitVec.getLsbD_zero
     simp only[BitVec.getLsbD_or,Bool.or_eq_false_iff]at h2;rw[h2.2];exact BitVec.getLsbD_zero.symm
    exact absurd h1 (hz _ (by rw[bu,az (by omega)];exact List.getElem_mem _))
   ·intro h
    exact absurd e (h k (IT k))
  ·rename_i e
   rw[ih];constructor
   ·intro h j hj
    by_cases ej:j=k
    ·subst ej;exact e
    ·exact h j (by omega)
   ·exact fun h j hj=>h j (by omega)
theorem VQ {p:Nat->Nat} {n k:Nat} (hp:NP p n) (hk:k<n):p k<(dh p k).length↔ ∃ j,j<k/\p j=p k:=by
 have UA:NP p k:=fun s hs=>hp s (by omega)
 rw[sA UA];constructor
 ·exact fun h=>VP UA h
 ·rintro⟨j,hj,e⟩
  rw[<-e];exact iM hj
theorem Td (p:Nat->Nat):∀ k,(dh p k).length<=k
 | 0=>aG _
 | k+1=>by
  have:=Td p k;rw[dh];split
  ·omega
  ·rw[aJ,If];omega
def j4 (d:DF) (k:Nat):List (List Int):=d.nx.map fun row=>(dh (cA d) k).map fun j=>row.getD j 0
def mN (d:DF) (k s:Nat):List (List Int):=(AN d.nx.length).map fun i=>((dh (cA d) k).map fun j=>(d.nx.getD i []).getD j 0)++if i<s then [(d.nx.getD i []).getD k 0]else []
theorem JE (d:DF) (k:Nat):mN d k 0=j4 d k:=by
 unfold mN j4;refine FF fun i=>?_
 rw[aO,aO];by_cases h:i<d.nx.length
 ·rw[AT h,az h]
  show As (_++if i<0 then _ else _)=_;rw[if_neg (H_ i),JZ,bu,az h];rfl
 ·rw[aS (by simpa using h),aS (by omega)];rfl
theorem N4 {d:DF} {k:Nat} (hk:¬cA d k<(dh (cA d) k).length):mN d k d.nx.length=j4 d (k+1):=by
 unfold mN j4;refine FF fun i=>?_
 rw[aO,aO];by_cases h:i<d.nx.length
 ·rw[AT h,az h]
  have e:d.nx.getD i []=d.nx[i]:=by rw[bu,az h];rfl
  show As (_++if i<d.nx.length then _ else _)=As ((dh (cA d) (k+1)).map fun j=>(d.nx[i]).getD j 0);rw[e,if_pos h,dh,if_neg hk,Dm];rfl
 ·rw[aS (by simpa using h),aS (by omega)];rfl
theorem N7 (d:DF) (k:Nat) {s:Nat} (hs:s<d.nx.length):(mN d k s).set s (((dh (cA d) k).map fun j=>(d.nx.getD s []).getD j 0)++ [(d.nx.getD s []).getD k 0])=mN d k (s+1):=by
 unfold mN;refine FF fun i=>?_
 rw[IF];by_cases h:i<d.nx.length
 ·rw[aO,aO,AT h]
  by_cases e:s=i
  ·subst e
   rw[if_pos rfl,if_pos (by simpa using h)];show _=As (_++if s<s+1 then _ else _);rw[if_pos (IT s)]
  ·rw[if_neg e]
   show As (_++if i<s then _ else _)=As (_++if i<s+1 then _ else _);by_cases h2:i<s
   ·rw[if_pos h2,if_pos (by omega)]
   ·rw[if_neg h2,if_neg (by omega)]
 ·rw[aS (by simpa using h),aS (by simpa using h),if_neg (by omega)]
theorem N8 (d:DF) (k:Nat) {s:Nat} (hs:s<d.nx.length):(mN d k s)[s]? =As ((dh (cA d) k).map fun j=>(d.nx.getD s []).getD j 0):=by unfold mN;rw[aO,AT hs];show As (_++if s<s then _ else _)=_;rw[if_neg (Nat.lt_irrefl s),JZ]
theorem N9 {d:DF} {k:Nat} (hk:cA d k<(dh (cA d) k).length):j4 d (k+1)=j4 d k:=by unfold j4;rw[dh,if_pos hk]
theorem Oa (d:DF):j4 d d.cl.length=(ic d).nx:=rfl
theorem JF (d:DF):j4 d 0=GH d.nx.length []:=by unfold j4;rw[show(fun row:List Int=>(dh (cA d) 0).map fun j=>row.getD j 0)=fun _=>[] from rfl,J1]
def kV (d:DF) (N k:Nat):List BS:=(AN N).map fun b=>tD d.cl (cA d) b k
theorem Ob (d:DF) (N:Nat):kV d N 0=GH N 0:=by unfold kV;rw[show(fun b:Nat=>tD d.cl (cA d) b 0)=fun _=>(0:BS) from rfl,J1,D']
theorem Te (d:DF) {N k:Nat} (hk:cA d k<N):(kV d N k).set (cA d k) (tD d.cl (cA d) (cA d k) k ||| d.cl.getD k 0)=kV d N (k+1):=by
 unfold kV;refine FF fun b=>?_
 rw[IF];by_cases h:b<N
 ·rw[aO,aO,AT h]
  by_cases e:cA d k=b
  ·subst e
   rw[if_pos rfl,if_pos (by simpa using h)];show _=As (tD d.cl (cA d) (cA d k) (k+1));rw[tD,if_pos rfl]
  ·rw[if_neg e]
   show As (tD d.cl (cA d) b k)=As (tD d.cl (cA d) b (k+1));rw[tD,if_neg e]
 ·rw[aS (by simpa using h),aS (by simpa using h),if_neg (by omega)]
theorem Tf (d:DF):kV d (fj (cA d) d.cl.length) d.cl.length=(ic d).cl:=rfl
theorem yi (d:DF) {N k b:Nat} (hb:b<N):(kV d N k)[b]? =As (tD d.cl (cA d) b k):=by unfold kV;rw[aO,AT hb];rfl
theorem tG {d:DF} (rt:Rt d) {s k:Nat} (hs:s<d.nx.length) (hk:k<d.cl.length):en d s k<d.nx.length/\(d.nx.getD s [])[k]? =As (en d s k:Int):=by
 have h5:(d.nx.getD s [])[k]? =As ((d.nx.getD s []).getD k 0):=by rw[bu (i:=k),az (by rw[rt.len s hs];exact hk)];rfl
 have h6:=rt.iV s hs _ (aw h5);have h7:((en d s k:Nat):Int)=(d.nx.getD s []).getD k 0:=by unfold en;omega
 exact⟨by omega,by rw[h7];exact h5⟩
theorem Gf (k db:Nat) (d:DF) (rt:Rt d) (hk:k<d.cl.length) (v1:Value) (W:AS) (hd:W.cell? ⟨db,1,AI⟩=As v1) (h1:iZ W v1 d.nx): ah 174 #[Bs Bm k,GS (As ⟨db,0,AI⟩)] W fun e w'=>e=Dn (ja (kU (xU d k)))/\aa W w':=by
 obtain⟨iI,y8,kP,kQ,kR⟩:=GF Tryz.mH;obtain⟨a1,c1,rfl⟩:=h1.form;obtain⟨n,hn⟩:=ag d.nx.length;obtain⟨K,hK⟩:=ag d.cl.length;have RA:n<=4000:=by have:=rt.le;omega
 rw[<-hn]at hd h1;rw[<-hK]at hk;have GX:B_ (∀ s,s<n->∃ (b:Nat) (off:Nat) (ad:Option Addr) (cp:Nat),a1=As ⟨b,off,AI⟩/\b<W.heap.size/\W.cell? ⟨b,off+s,AI⟩=As (An ad K cp)/\∃ (b':Nat) (off':Nat),ad=As ⟨b',off',AI⟩/\b'<W.heap.size/\W.cell? ⟨b',off'+k,AI⟩=As (Bs Bm (en d s k))):=AF fun s hs=>by
  have hrow:d.nx[s]? =As (d.nx.getD s []):=by rw[bu,az (by rw[<-hn];exact hs)];rfl
  obtain⟨b,off,a',c',e1,e2,e3,e4⟩:=h1.elem hrow;rw[rt.len s (by rw[<-hn];exact hs), <-hK]at e3 e4;have hx:(d.nx.getD s [])[k]? =As ((en d s k:Nat):Int):=(tG rt (by rw[<-hn];exact hs) (by rw[<-hK];exact hk)).2;obtain⟨b',o',e5,e6,e7⟩:=e4.elem hx;exact⟨b,off,a',c',e1,e2,e3,b',o',e5,e6,e7⟩
 obtain⟨R,hR⟩:=ag (ja (kU (xU d k)));rw[<-hR];have HR:=AF hR;have HN:=AF hn;have HNT:B_ (∀ s,s<n->en d s k<n):=AF fun s hs=>by
  rw[hn];exact(tG rt (by rw[<-hn];exact hs) (by rw[<-hK];exact hk)).1
 have adB:db<W.heap.size:=World.block_lt_of_cell? _ _ hd;clear h1 hR hn hK rt;have eE:(k:Int)<K:=by omega
 go_enter Tryz.func174,Tryz.ntmps174
 go_wp2;go_loopw [4,10] (fun ov iv wr=>∃ s:Nat,s<=n/\iv=Bs Bm s/\wr.ownsRow W.heap.size 3 1 ov s ((AN s).map fun i=>cV (en d i k))/\aa W wr) (fun _ iv _=>n-(intOf iv).toNat);case atStart=>exact⟨0,A_ _,rfl,E_ _ _ _ _,Below.refl _ _⟩
 case round=>
  obtain⟨s,hs,rfl,ho,hx⟩:=hrel;obtain⟨wo,rfl⟩:=ag (wr:AS);have HO:=AF ho;have HX:=AF hx;obtain⟨oa,oc,rfl⟩:=ownsRow_form ho;have Bd:W.heap.size<=wo.heap.size:=hx.size;clear ho hx;by_cases hlt:s<n
  ·have GI:(s:Int)<n:=by omega
   obtain⟨b1,o1,ad,cp,rfl,hb1,hc1,b2,o2,rfl,hb2,hc2⟩:=GX.out s hlt;have uz:∀ b o u,b<W.heap.size->W.cell? ⟨b,o,AI⟩=As u->wo.cell? ⟨b,o,AI⟩=As u:=fun b o u hb h=>((ae.ai HX fun _ h=>h:ae (· <W.heap.size) W wo).cell (p:=⟨b,o,AI⟩) hb).trans h
   replace hc1:=uz _ _ _ hb1 hc1;replace hc2:=uz _ _ _ hb2 hc2;have HT:B_ ((AN (s+1)).map (fun i=>cV (en d i k))=((AN s).map fun i=>cV (en d i k))++ [Bs Bm (en d s k)]):=AF (by rw[List.range_succ,Dm];rfl);obtain⟨t,ht⟩:=ag (en d s k);rw[<-ht]at hc2 HT;clear uz ht;go_wp2_with (at_builtin;refine Hid.out ?_);refine AF ?_;refine DE _ rfl (G_ 14) (G_ 19) 39 rfl W.heap.size 3 iI (Bs Bm 0) 1 8 By y8 kP kQ kR rfl (by decide) (An oa s oc) s _ rfl (HO.alloc _) ⟨wo.heap.size,0,AI⟩ 1 1 [Bs Bm t] rfl rfl (eF _ _ _) (by simp[GG]) (by unfold maxLen;omega) (by omega) (by simp;omega) ?_;intro v' w5 hown' hgrow hh hat;have Jk:=AF hown';have lJ:=AF hgrow;clear hown' hgrow hh hat;go_wp2;go_roundw;case rel=>
    refine⟨s+1,by omega,by go_num,?_,?_⟩
    ·rw[HT.out]
     exact Jk
    ·exact(HX.trans (((Ext.refl wo).alloc _).below.mono Bd)).trans (((Below.refl _ _).grown lJ (by simp;omega) fun x e=>(HO.lt x e).1))
   case measure=>simp[intOf];omega
  ·obtain rfl:s=n:=by omega
   have GI:¬ ((s:Int)<s):=by omega
   have HE:B_ ((AN s).map (fun i=>cV (en d i k))=((AN s).map fun i=>((en d i k:Nat):Int)).map aM):=AF (by rw[DP];rfl);have xI:bQ aM wo (An oa s oc) ((AN s).map fun i=>((en d i k:Nat):Int)):=by have h5:=HO.out;rw[HE.out]at h5;exact cZ h5 (by simp)
   have CN:=AF (qF _ _ (fun x hx=>by
    obtain⟨i,hi,rfl⟩:=Cd.1 hx;have:=HNT.out i (B'.1 hi)
    omega) (by simp;omega) wo xI)
   have HV:B_ (ja (kU (((AN s).map fun i=>((en d i k:Nat):Int)).map GB))=R):=AF (by
    rw[HR.out,DP];unfold xU;rw[<-HN.out]
    rfl)
   rw[HV.out]at CN;clear xI;go_wp2_with fail
   refine CN.mono ?_;rintro e w2 ⟨rfl,hx⟩;go_wp2;go_ret;exact⟨rfl,HX.trans (hx.mono Bd)⟩
def Oc (d:DF) (k:Nat):List UInt8:=kU (xU d k)
theorem Tg {d:DF} (rt:Rt d):dR (Oc d) d.cl.length=fj (cA d) d.cl.length/\∀ k,k<d.cl.length->dL (Oc d) d.cl.length k=cA d k:=by
 have h0:∀ k,k<d.cl.length->∀ x∈xU d k,x<4294967296:=fun k hk x hx=>by
  have hle:=rt.le;unfold xU at hx;obtain⟨s,hs,rfl⟩:=Cd.1 hx;have:=(tG rt (B'.1 hs) hk).1;omega
 obtain⟨h1,h2⟩:=oY (k:=Oc d) (k':=xU d) (n:=d.cl.length) (fun s t hs ht=>⟨fun h=>xG (h0 s hs) (h0 t ht) h,fun h=>congrArg kU h⟩) _ (aG _);exact⟨h1.trans (CX (xU d) d.cl.length _ (aG _)).symm,h2⟩
end
end Go.Proofs.YtjgccapbphadjaaGreatDoor
namespace Go.Proofs.YtjgccapbphadjaaGreatDoor.RegF
open Go Go.RowKit
section
variable {P:J2} {ops:Array J4} {eff:Nat→Bool} {cE:Nat→Nat} {M:AS→AS→Prop} {EP:Nat→aX M} {C:AS→Prop} {al:Nat→Bool} {Fin:List J4→Lo→AS→Prop} {eM:Bool} {m:Nat} {E:aX M} {o:J4} {k:Nat} {aR:List (Nat× (AS→Prop))} {a:Lo} {K:List (Nat× (AS→Prop))→Lo→Prop} {l:List J4}
def fS (P:J2) (ops:Array J4) (eff:Nat->Bool) (cE:Nat->Nat) (EP:Nat->aX M) (C:AS->Prop) (al:Nat->Bool) (Fin:List J4->Lo->AS->Prop) (n:Nat) (l:List J4) (k:Nat) (aR:List (Nat× (AS->Prop))) (a:Lo):Prop:=
 fR.fS P (Kx P) gz ops eff cE (fun _=>AI) (fun i=>RegQ.up (EP i)) C (fun _ _=>True) al Fin n l k aR a
def cN (P:J2) (ops:Array J4) (eM:Bool) (m:Nat) (E:aX M) (C:AS->Prop) (al:Nat->Bool) (o:J4) (k:Nat) (aR:List (Nat× (AS->Prop))) (a:Lo) (K:List (Nat× (AS->Prop))->Lo->Prop):Prop:=
 fR.cN P (Kx P) gz ops eM m AI (RegQ.up E) C (fun _ _=>True) al o k aR a K
theorem au (h:∀ K:List (Nat× (AS->Prop))->Lo->Prop,(∀ hi a,er (fS P ops eff cE EP C al Fin m l (k+1) hi a)->K hi a)->cN P ops (eff k) (cE k) (EP k) C al o k aR a K):er (fS P ops eff cE EP C al Fin (m+1) (o::l) k aR a):=
 ⟨(fR.au (D:=(fun _ _=>True)) (al:=al) (on:=(fun _=>AI)) fun K hK=>h K fun hi a hl=>hK hi a ⟨hl.out⟩).out⟩
theorem bM (h:∀ W,C W->(∀ x∈aR,x.2 W)->Fin l a W):er (fS P ops eff cE EP C al Fin 0 l k aR a):=⟨h⟩
theorem bV (he:eM=J6) (hw:Region.wanted o (yielded ops a.tmps)=GW) (h:∃ v,(∀ W: {W//C W},aF P o a v W.1)/\K aR (a.put o.dst v)):cN P ops eM m E C al o k aR a K:=fR.bV he hw h
theorem ct (he:eM=GW) (hw:Region.wanted o (yielded ops a.tmps)=GW) (ha:al k=J6) (E':aX M) (hE:E=E') (h1:∀ W,C W->needs m aR W->jD (Kx P) gz (fun v W'=>M W W'/\E'.P v/\E'.H v W') ((execOp a.eval o).run P W)) (h2:∀ v,E'.P v->K ((k,E'.H v)::aR) (a.put o.dst v)):cN P ops eM m E C al o k aR a K:=
 fR.ct he hw (RegQ.up E') (by rw[hE]) (fun W hW _ hN=>ox (fun _ _ ⟨h1,h2⟩=>by rw[ha];exact⟨⟨h1,fun _ _ _ _=>trivial⟩,h2⟩) (h1 W hW hN)) h2
theorem adN (he:eM=GW) (hw:Region.wanted o (yielded ops a.tmps)=GW) (ha:al k=GW) (E':aX M) (hE:E=E') (h1:∀ W,C W->needs m aR W->jD (Kx P) gz (fun v W'=>fR.DN W v W'/\M W W'/\E'.P v/\E'.H v W') ((execOp a.eval o).run P W)) (h2:∀ v,E'.P v->K ((k,E'.H v)::aR) (a.put o.dst v)):cN P ops eM m E C al o k aR a K:=
 fR.ct he hw (RegQ.up E') (by rw[hE]) (fun W hW _ hN=>ox (fun _ _ ⟨h0,h1,h2⟩=>by rw[ha];exact⟨h0,⟨h1,fun _ _ _ _=>trivial⟩,h2⟩) (h1 W hW hN)) h2
end
theorem uZ {P:J2} {id:Nat} {Q:Exit->Lo->AS->Prop} {a:Lo} {w:AS} {l:List J4} (T:Nat->Prop) (hm:P.follows .mixedOrders=GW) (m:Nat) (cE:List Nat) (eff:Nat->Bool) (hB:ng .any l.toArray cE m=GW) (al:List Nat) (hA:fR.Pq l.toArray eff al m=GW) (EP:Nat->aX (Move J6 T)) (h:∀ C:AS->Prop,(∀ W,C W↔Move J6 T w W)->Nonempty {W//C W} ->er (fS P l.toArray eff (fun i=>cE.getD i 0) EP C (fun j=>al.contains j) (fun r a W=>fR.A0 l.toArray al a->wpList P l.toArray Q r a W) m l 0 [] a)):(Code.region id l.toArray GW).wp P Q a w:=
 fR.jF (Move J6 T) (Move.ext (Ext.refl w).drew) (fun _ _ _ h k=>h.trans k) hm m cE eff hB (fun _=>AI) (fun _ _=>rfl) (I_.2 fun _ _=>I_.2 fun _ _=>rfl) (fun i=>RegQ.up (EP i)) (fun _ _=>True) (fun _ _=>trivial) al (fun j=>al.contains j) hA (fun _=>rfl) (fun _ _ _ h=>h.size) _ (fun _ _ _ h1 h2=>h2 h1) fun C hC hne=>⟨(h C hC hne).out⟩
end Go.Proofs.YtjgccapbphadjaaGreatDoor.RegF
namespace Go.Proofs.YtjgccapbphadjaaGreatDoor
open Go Go.RowKit
theorem fR.A0.ne {ops:Array J4} {al:List Nat} {a:Lo} (h:fR.A0 ops al a) (i j s t:Nat) {x y:Value} (hi:al.contains i=GW) (hj:al.contains j=GW) (mF:i≠j) (hs:dM ops i=As s) (ht:dM ops j=As t) (h1:a.tmps[s]? =As x) (h2:a.tmps[t]? =As y):fR.LS x≠fR.LS y:=
 h i j s t x y hi hj mF hs ht (A'.1 h1).1 (A'.1 h2).1 h1 h2
theorem AE {P:J2} {o:J4} {a:Lo} {W:AS} {post:Value->AS->Prop} (l c:Operand) (t:J') (hop:o.op=Op.makeSlice t l c) (e:J') (i:TypeInfo) (z:Value) (size:Nat) (h1:P.underlying t=As (.slice e)) (h2:P.info? e=As i) (h3:i.zero=As z) (h4:i.size=size) (kl kc:IntKind) (L C:Int) (n:Nat) (hl:a.eval l=.int kl L) (hc:a.eval c=.int kc C) (hL:L=(n:Int)) (hC:C=(n:Int)) (b2:i.bytes*n<=281474976710656) (b3:n<=maxLen) (hK:∀ w',w'.ownsRow W.heap.size e size (An (As ⟨W.heap.size,0,AI⟩) n n) n (madeCells z.cells (n*size)).toList->W.grownBy w' AI->post (An (As ⟨W.heap.size,0,AI⟩) n n) w'):jD (Kx P) gz post ((execOp a.eval o).run P W):=by obtain⟨w',hrun,r1,r2⟩:=run_make_full (P:=P) W W.heap.size t e i z size h1 h2 h3 h4 kl kc n b2 b3 (aG _);subst hL;subst hC;unfold execOp;simp[hop,hl,hc,hrun,Result.andThen];exact hK w' r1 r2
end Go.Proofs.YtjgccapbphadjaaGreatDoor
