/- The law MinimalGrown at any small one, any two bytes and any bytes. -/
import Derived.Test.YtjgccapbphadjaaGreatDoorOT01
set_option maxRecDepth 100000
set_option maxHeartbeats 16000000
open Go.Lib (hid)
open Go.Value renaming slice->An,int->As,pointer->A_,agg->B_,bool->D0,oneCell'->D',tuple->G',string->Ly
open Option renaming none->AF,some->AM
open Go.Lib renaming hid->AI,bytesWorld->EV
open Go.IntKind renaming i64->AN,u64->AT,u8->F_
open Go.Ending renaming returned->AS
open Go.RowKit renaming Hid->A'
open Go renaming World->Bm,Value->Bs,bodyPost_ret->DE,wpList_append_own_at->Ft,info_parts->If,TypeId->It,Addr->MY
open BitVec renaming allOnes->By,getLsbD_of_ge->FF
open List renaming getElem?_eq_some_iff->B',range->C_,getElem?_cons_zero->C',getElem?_toArray->DH,contains_eq_any_beq->G_,getElem?_cons_succ->H',map_append->Is,mem_range->IF,getElem?_range->IN,mem_singleton->I',take_add_one->J',length_range->Kx,mem_map->M_
open Bool renaming true->Cd,false->GS,and_eq_true->H_
open Array renaming getElem?_eq_some_iff->DS,length_toList->IT
open Nat renaming le_trans->D_,zero_le->Iv,le_of_lt->J_,mod_lt->NX
open Go.IntWalk renaming wrap64_in->E_,i64_in->L_
open Go.Proofs.Tryz renaming prog->FG,underlying44->GB,underlying26->GO,underlying206->I_,underlying27->K_,underlying9->Lo,underlying5->Lw,results68->L7
namespace Go.Proofs.YtjgccapbphadjaaGreatDoor
section
open Go Go.RowKit Go.Shelf Go.Maps
theorem Tryz.aaj:(FG.info? 133).map (fun i=>(i.zero,i.size,i.bytes))=AM (AM (B_ #[As AN 0,As AN 0]),2,16):=by kernel_rfl
theorem cQ.box {w:Bm} {base b:Nat} {v:Bs} {p:List BS} {cs:Array Bs} (h:cQ w base v p) (hb:ar w b cs 190) (x:Bs):cQ (w.setCell ⟨b,0,AF⟩ x) base v p:=by
 have hk:ae (· ≠b) w (w.setCell ⟨b,0,AF⟩ x):=(ae.refl _ _).setCell (p:=⟨b,0,AF⟩) (fun h=>h rfl) _;rcases h with h | ⟨g,sl,h1,h2,h3,h4,h5⟩
 ·exact .inl h
 ·refine .inr ⟨g,sl,h1,h2,h3.keeps hk fun e=>?_,ak h4 hk fun k e=>bZ hb h4 (by decide) k e,h5⟩
  subst e;unfold ar at h3 hb;rw[h3]at hb;injection hb with hb
  injection hb with _ hb
  exact absurd hb (by decide)
def PartsAt (a b:DF) (p:Nat×Nat) (W:Bm) (e:Ending) (w':Bm):Prop:=∃ v,e=AS (G' #[v,D0 (jW a b p).isSome])/\bw en w' v ((jW a b p).getD [])/\aa W w'
theorem SK (w:Bm) (x y:Bs) (t:It):∀ j v,[x,y][j]? =AM v->(w.alloc (.cells #[x,y] t)).cell? ((⟨w.heap.size,0,AF⟩:MY).add j)=AM v:=by
 intro j v hj;match j,hj with
 | 0,hj=>simp at hj;subst hj;simp[Addr.add]
 | 1,hj=>simp at hj;subst hj;simp[Addr.add]
theorem Jf {a b:DF} (ra:Rt a) (rb:Rt b) (p:Nat×Nat) (hp:gK a b p) (hM:a.nx.length*b.nx.length<=900000) (w:Bm) (v v':Bs) (h:bV w v a) (h':bV w v' b): ah 68 #[v,v',B_ #[As AN p.1,As AN p.2]] w (PartsAt a b p w):=by
 obtain⟨iP,hiP,Vv,Vw,aaa⟩:=If Tryz.aaj;obtain⟨iB,YH,Hu,Hv,Hw⟩:=If Tryz.RP;obtain⟨F,hF⟩:=ag (vu a b);obtain⟨pj,Nu⟩:=ag (partsOf (a.cl++b.cl));obtain⟨K,hK⟩:=ag pj.length;have WJ:K<=256:=by rw[hK,Nu,(eZ _).length_eq];exact eo _
 have CA:A' (∀ W v,cU W v a.cl->ah 110 #[v] W fun e w'=>∃ b,e=AS (A_ (AM ⟨b,0,AF⟩))/\cQ w' W.heap.size (A_ (AM ⟨b,0,AF⟩)) a.cl/\aa W w'):=AI fun W v h=>by
  have:=lI a.cl v W h (by have:=ra.Av;omega);rwa[ra.cl]at this
 have CB:A' (∀ W v,cU W v b.cl->ah 110 #[v] W fun e w'=>∃ x,e=AS (A_ (AM ⟨x,0,AF⟩))/\cQ w' W.heap.size (A_ (AM ⟨x,0,AF⟩)) b.cl/\aa W w'):=AI fun W v h=>by
  have:=lI b.cl v W h (by have:=rb.Av;omega);rwa[rb.cl]at this
 have CJ:A' (∀ W x y bx bY,cQ W bx (A_ (AM ⟨x,0,AF⟩)) a.cl->cQ W bY (A_ (AM ⟨y,0,AF⟩)) b.cl->ah 121 #[A_ (AM ⟨x,0,AF⟩),A_ (AM ⟨y,0,AF⟩)] W fun e w'=>∃ b,e=AS (A_ (AM ⟨b,0,AF⟩))/\cQ w' W.heap.size (A_ (AM ⟨b,0,AF⟩)) pj/\aa W w'):=AI fun W x y bx bY hx hy=>by
  refine(Pf _ _ _ _ _ _ W hx hy).mono fun e w' hj=>?_
  unfold Ar at hj;have e1:a.cl.isEmpty=false:=by have:=ra.Dz;cases h:a.cl with | nil=>rw[h]at this;simp at this | cons _ _=>rfl
  have e2:b.cl.isEmpty=false:=by have:=rb.Dz;cases h:b.cl with | nil=>rw[h]at this;simp at this | cons _ _=>rfl
  rw[e1,e2,if_neg (by decide)]at hj;rw[Nu];exact hj
 have CL:A' (∀ W x bx,cQ W bx (A_ (AM ⟨x,0,AF⟩)) pj->ah 111 #[A_ (AM ⟨x,0,AF⟩)] W fun e w'=>e=AS (As AN K)/\w'=W):=AI fun W x bx h=>by rw[hK];exact Jt _ _ _ _ h
 have CM:A' (∀ W x bx (k:Nat),k<K->cQ W bx (A_ (AM ⟨x,0,AF⟩)) pj->ah 113 #[A_ (AM ⟨x,0,AF⟩),As AN k] W fun e w'=>e=AS (G' #[As F_ (lb pj k),D0 Cd])/\Ext W w'):=AI fun W x bx k hk h=>by
  have:=yQ _ bx pj k W h;rw[Nu,vz (by rw[<-Nu, <-hK];exact hk), <-Nu]at this;exact this
 have ZE:A' (∀ k,k<K->lb pj k<256):=AI fun k hk=>by rw[Nu];exact JE (by rw[<-Nu, <-hK];exact hk)
 have CN:A' (∀ (q:Nat×Nat) (k ab xb bb yb xa ya base base':Nat) (va vb:Bs) (W:Bm),gK a b q->k<K->W.cell? ⟨ab,1,AF⟩=AM va->fy W va a.nx->W.cell? ⟨bb,1,AF⟩=AM vb->fy W vb b.nx->W.cell? ⟨xb,0,AF⟩=AM (A_ (AM ⟨xa,0,AF⟩))->cQ W base (A_ (AM ⟨xa,0,AF⟩)) a.cl->W.cell? ⟨yb,0,AF⟩=AM (A_ (AM ⟨ya,0,AF⟩))->cQ W base' (A_ (AM ⟨ya,0,AF⟩)) b.cl->
   ah 122 #[B_ #[As AN q.1,As AN q.2],As F_ (lb pj k),A_ (AM ⟨ab,0,AF⟩),A_ (AM ⟨xb,0,AF⟩),A_ (AM ⟨bb,0,AF⟩),A_ (AM ⟨yb,0,AF⟩)] W fun e w'=>e=AS (B_ #[As AN (F q k).1,As AN (F q k).2])/\aa W w'):=AI fun q k ab xb bb yb xa ya base base' va vb W hq hk h1 h2 h3 h4 h5 h6 h7 h8=>by
  have:=Jd ra rb q.1 q.2 (lb pj k) hq.1 hq.2 (ZE k hk) ab xb bb yb xa ya base base' va vb W h1 h2 h3 h4 h5 h6 h7 h8;rw[hF,Nu]at*;exact this
 have PI:A' (∀ n,((dc a b p n).map Prod.fst).Nodup/\∀ y∈dc a b p n,gK a b y.1):=AI fun n=>Fh ra rb hp n
 have PL:A' (∀ n,(dc a b p n).length<=a.nx.length*b.nx.length):=AI fun n=>MX ra rb hp n
 have PS:A' (∀ n x,(dc a b p n)[n]? =AM x->dc a b p (n+1)=iu F (lb pj) x (dc a b p n) K):=AI fun n x hx=>by
  have hx2:(iG (vu a b) (lb (partsOf (a.cl++b.cl))) (partsOf (a.cl++b.cl)).length p n)[n]? =AM x:=hx;show iG (vu a b) (lb (partsOf (a.cl++b.cl))) (partsOf (a.cl++b.cl)).length p (n+1)=_;rw[iG,hx2,hF,hK,Nu];rfl
 have RI:A' (∀ n x k,(dc a b p n)[n]? =AM x->k<=K->((iu F (lb pj) x (dc a b p n) k).map Prod.fst).Nodup/\∀ y∈iu F (lb pj) x (dc a b p n) k,gK a b y.1):=AI fun n x k hx hk=>by
  refine Bz (PI n).1 (PI n).2 k fun j hj=>?_
  rw[hF];exact vv ra rb x.1 j ((PI n).2 x (ax hx)) (by rw[<-Nu, <-hK];omega)
 have WL:A' (∀ n,∀ y∈dc a b p n,y.2.length<=n):=AI fun n y hy=>oK n y hy
 have FI:A' (∀ q k,gK a b q->k<K->gK a b (F q k)):=AI fun q k hq hk=>by rw[hF];exact vv ra rb q k hq (by rw[<-Nu, <-hK];exact hk)
 have L4:A' (∀ q:Nat×Nat,gK a b q->q.1<=4000/\q.2<=4000):=AI fun q hq=>⟨J_ (ay hq.1 ra.le),J_ (ay hq.2 rb.le)⟩
 obtain⟨M,hMe⟩:=ag (a.nx.length*b.nx.length);have PD:A' (jW a b p=kJ a b p (M+1) 0):=AI (by rw[hMe];rfl);have PR:A' (∀ f n,kJ a b p (f+1) n=match(dc a b p n)[n]? with | none=>AF | some x=>if Ff a b x.1 then AM x.2 else kJ a b p f (n+1)):=AI fun f n=>rfl
 rw[<-hMe]at PL hM;have CE:A' (∀ (s t:Nat) (u u':Bs) (W:Bm),s<a.nx.length->t<b.nx.length->bw aG W u (a.mr.getD s [])->bw aG W u' (b.mr.getD t [])->ah 33 #[u,u'] W fun e w'=>e=AS (D0 (!Ff a b (s,t)))/\Ext W w'):=AI fun s t u u' W hs ht h1 h2=>by
  have h3:=zV u u' _ _ W (.inl h1) (.inl h2) (ra.Rh.Ug _ (ax (bn [] (by rw[ra.mr];exact hs))));have e:(a.mr.getD s []==b.mr.getD t [])= !Ff a b (s,t):=by unfold Ff;show _= !decide (a.mr.getD s []≠b.mr.getD t []);rw[Bool.eq_iff_iff];simp
  rw[e]at h3;exact h3
 have HMA:A' (∀ s W u,s<a.nx.length->fy W u a.mr->∀ ad n cp,u=An ad n cp->∃ g o a' l c',ad=AM ⟨g,o,AF⟩/\g<W.heap.size/\W.cell? ⟨g,o+s,AF⟩=AM (An a' l c')/\bw aG W (An a' l c') (a.mr.getD s [])):=AI fun s W u hs hu ad n cp e=>by
  subst e;obtain⟨g,o,a',c',e1,e2,e3,e4⟩:=hu.elem (i:=s) (l:=a.mr.getD s []) (bn [] (by rw[ra.mr];exact hs));exact⟨g,o,a',_,c',e1,e2,e3,e4⟩
 have Tv:A' (∀ s W u,s<b.nx.length->fy W u b.mr->∀ ad n cp,u=An ad n cp->∃ g o a' l c',ad=AM ⟨g,o,AF⟩/\g<W.heap.size/\W.cell? ⟨g,o+s,AF⟩=AM (An a' l c')/\bw aG W (An a' l c') (b.mr.getD s [])):=AI fun s W u hs hu ad n cp e=>by
  subst e;obtain⟨g,o,a',c',e1,e2,e3,e4⟩:=hu.elem (i:=s) (l:=b.mr.getD s []) (bn [] (by rw[rb.mr];exact hs));exact⟨g,o,a',_,c',e1,e2,e3,e4⟩
 obtain⟨v0,v1,v2,rfl,h0,h1,h2⟩:=h;obtain⟨u0,u1,u2,rfl,g0,g1,g2⟩:=h';obtain⟨a0,c0,rfl⟩:=h0.1.form;obtain⟨a1,c1,rfl⟩:=h1.form;obtain⟨a2,c2,rfl⟩:=h2.form;obtain⟨b0,d0,rfl⟩:=g0.1.form;obtain⟨b1,d1,rfl⟩:=g1.form;obtain⟨b2,d2,rfl⟩:=g2.form;have adU:=ra.mr;have adV:=rb.mr;rw[adU]at h2 ⊢;rw[adV]at g2 ⊢;obtain⟨n0,bX⟩:=ag a.cl.length;obtain⟨n1,cM⟩:=ag a.nx.length;obtain⟨m0,nZ⟩:=ag b.cl.length;obtain⟨m1,lA⟩:=ag b.nx.length;rw[<-cM]at HMA;rw[<-lA]at Tv;rw[<-cM, <-lA]at CE;rw[<-bX]at h0;rw[<-cM]at h1 h2;rw[<-nZ]at g0;rw[<-lA]at g1 g2;rw[<-bX, <-cM, <-nZ, <-lA];have PII:A' (∀ q,gK a b q->q.1<n1/\q.2<m1):=AI fun q hq=>by rw[cM,lA];exact hq
 have H0:=AI h0.1;have H1:=AI h1;have H2:=AI h2;have G0:=AI g0.1;have G1:=AI g1;have G2:=AI g2;have HP:=AI hp;have HPJ:=AI Nu;clear h0 h1 h2 g0 g1 g2 Nu hK ra rb bX cM nZ lA adU adV hF hMe hp;obtain⟨N9,aak⟩:=ag p.1;obtain⟨Oa,aal⟩:=ag p.2;have NY:p=(N9,Oa):=Prod.ext aak.symm aal.symm;rw[<-aak, <-aal];have WV:=AI NY;clear aak aal NY;have tX:= @run_makeMap FG;go_enter Tryz.func68,Tryz.ntmps68;go_upto_region 1 with fail
 refine aw ?_;intro V hV;have B3:A' (ar V w.heap.size #[An a0 n0 c0,An a1 n1 c1,An a2 n1 c2] 29):=AI (by rw[hV];exact((ar.new w _ _).alloc _).alloc _);have B4:A' (ar V (w.heap.size+1) #[An b0 m0 d0,An b1 m1 d1,An b2 m1 d2] 29):=AI (by rw[hV];exact((ar.new (w.alloc _) _ _).at (by simp)).alloc _);have B5:A' (ar V (w.heap.size+1+1) #[As AN N9,As AN Oa] 133):=AI (by rw[hV];exact(ar.new ((w.alloc _).alloc _) _ _).at (by simp));have X1:A' (aa w V):=AI (by rw[hV];exact((((Ext.refl w).alloc _).alloc _).alloc _).below);clear hV;refine RegF.uu (fun _=>False) (by kernel_rfl) 8 [0,1,3,0,8,31,0,0,255,511] (fun i=>i==2 || i==5 || i==6 || i==7 || i==8 || i==9) (by kernel_rfl) [6,7] (by kernel_rfl) (fun i=>if i=2 then aU.Um V.heap.size a.cl else if i=5 then aU.Um V.heap.size b.cl else if i=6 then aU.ue V.heap.size #[A_ AF] 190 else if i=7 then aU.ue V.heap.size #[A_ AF] 190 else aU.any _) ?_;intro C hC hne;have HC:=AI hC;have f0:=aD hC (p:=⟨w.heap.size,0,AF⟩) (by have:=B3.lt;exact this) (fun h=>h) (B3.cell 0);have f1:=aD hC (p:=⟨w.heap.size+1,0,AF⟩) (by have:=B4.lt;exact this) (fun h=>h) (B4.cell 0);clear hC
 repeat (refine RegF.au (fun K hK=>?_);first | (refine RegF.bL rfl ?_;try go_simp;refine hK _ _ ?_;clear hK K) | (refine RegF.bJ rfl rfl ?_;unfold az;go_simp;refine hK _ _ ?_;clear hK K))
 refine RegF.au (fun K hK=>?_);refine RegF.bS rfl rfl rfl (aU.Um V.heap.size a.cl) rfl (fun W hW hN=>?_) (fun v hv=>?_)
 ·have hM:=(HC.out W).1 hW
  clear hW;go_simp;refine bA ((CA _ _ ((H0.below X1).below hM.below)).mono ?_);rintro e w2 ⟨b,rfl,ha,hx⟩;exact⟨_,rfl,Move.aj hx,⟨b,rfl⟩,ha.base hM.size⟩
 obtain⟨bx,rfl⟩:=hv;go_simp;refine hK _ _ ?_;clear hK K
 repeat (refine RegF.au (fun K hK=>?_);first | (refine RegF.bL rfl ?_;try go_simp;refine hK _ _ ?_;clear hK K) | (refine RegF.bJ rfl rfl ?_;unfold az;go_simp;refine hK _ _ ?_;clear hK K))
 refine RegF.au (fun K hK=>?_);refine RegF.bS rfl rfl rfl (aU.Um V.heap.size b.cl) rfl (fun W hW hN=>?_) (fun v hv=>?_)
 ·have hM:=(HC.out W).1 hW
  clear hW;go_simp;refine bA ((CB _ _ ((G0.below X1).below hM.below)).mono ?_);rintro e w2 ⟨b,rfl,ha,hx⟩;exact⟨_,rfl,Move.aj hx,⟨b,rfl⟩,ha.base hM.size⟩
 obtain⟨bY,rfl⟩:=hv;go_simp;refine hK _ _ ?_;clear hK K;refine RegF.au (fun K hK=>?_);refine RegF.adF rfl rfl rfl (aU.ue V.heap.size #[A_ AF] 190) rfl (fun W hW hN=>?_) (fun v hv=>?_)
 ·have hM:=(HC.out W).1 hW
  clear hW hK K
  (have nI:=hM.size;go_simp;exact⟨⟨_,rfl,aF _,by simp⟩,Move.aj ((Ext.refl _).alloc _).below,⟨_,rfl⟩,fun b hb=>by cases hb;exact⟨ar.new _ _ _,nI⟩⟩)
 obtain⟨xb,rfl⟩:=hv;go_simp;refine hK _ _ ?_;clear hK K;refine RegF.au (fun K hK=>?_);refine RegF.adF rfl rfl rfl (aU.ue V.heap.size #[A_ AF] 190) rfl (fun W hW hN=>?_) (fun v hv=>?_)
 ·have hM:=(HC.out W).1 hW
  clear hW hK K
  (have nI:=hM.size;go_simp;exact⟨⟨_,rfl,aF _,by simp⟩,Move.aj ((Ext.refl _).alloc _).below,⟨_,rfl⟩,fun b hb=>by cases hb;exact⟨ar.new _ _ _,nI⟩⟩)
 obtain⟨yb,rfl⟩:=hv;go_simp;refine hK _ _ ?_;clear hK K;refine RegF.bC (fun W hW hH hap=>?_);have Tq:=(HC.out W).1 hW;have hne:fI.KU (A_ (AM ⟨xb,0,AF⟩))≠fI.KU (A_ (AM ⟨yb,0,AF⟩)):=hap.ne 6 7 8 9 rfl rfl (by decide) rfl rfl rfl rfl;have NM:xb≠yb:=fun e=>hne (by rw[e])
 have A1:A' (cQ W V.heap.size (A_ (AM ⟨bx,0,AF⟩)) a.cl):=AI (hH _ (ax (show _=AM _ from rfl:_[3]? =AM _)));have A2:A' (cQ W V.heap.size (A_ (AM ⟨bY,0,AF⟩)) b.cl):=AI (hH _ (ax (show _=AM _ from rfl:_[2]? =AM _)));have hzx:(aU.ue V.heap.size #[A_ AF] 190).H (A_ (AM ⟨xb,0,AF⟩)) W:=hH _ (ax (show _=AM _ from rfl:_[1]? =AM _));have hzy:(aU.ue V.heap.size #[A_ AF] 190).H (A_ (AM ⟨yb,0,AF⟩)) W:=hH _ (ax (show _=AM _ from rfl:_[0]? =AM _));have BX:=AI (hzx xb rfl);have BY:=AI (hzy yb rfl);have C3:=AI (B3.below Tq.below B3.lt);have C4:=AI (B4.below Tq.below B4.lt);have C5:=AI (B5.below Tq.below B5.lt);have X2:=AI (X1.trans (Tq.below.mono X1.size));have yg:w.heap.size+2<V.heap.size:=B5.lt;have hVW:V.heap.size<=W.heap.size:=Tq.size;clear Tq hW hH HC f0 f1 B3 B4 B5 X1 hap hne hzx hzy CA CB H0 G0;have x0:=BX.1.cell 0;have y0:=BY.1.cell 0;have zx:=BX.1.frozen 0;have zy:=BY.1.frozen 0;simp only[DH,C']at x0 y0;have hyx:¬ (yb=xb):=fun e=>NM e.symm
 go_upto_region 2 with fail
 refine aw ?_;intro V2 hV;have KV:A' (ae (fun x=>x≠xb/\x≠yb) W V2):=AI (by rw[hV];exact((ae.refl _ _).setCell (p:=⟨xb,0,AF⟩) (fun h=>h.1 rfl) _).setCell (p:=⟨yb,0,AF⟩) (fun h=>h.2 rfl) _);have BX2:A' (ar V2 xb #[A_ (AM ⟨bx,0,AF⟩)] 190):=AI (by rw[hV];exact(BX.1.set 0 _).other (p:=⟨yb,0,AF⟩) hyx _);have BY2:A' (ar V2 yb #[A_ (AM ⟨bY,0,AF⟩)] 190):=AI (by rw[hV];exact(BY.1.other (p:=⟨xb,0,AF⟩) NM _).set 0 _);have A1b:A' (cQ V2 V.heap.size (A_ (AM ⟨bx,0,AF⟩)) a.cl):=AI (by rw[hV];exact(A1.box BX.1 _).box (BY.1.other (p:=⟨xb,0,AF⟩) NM _) _);have A2b:A' (cQ V2 V.heap.size (A_ (AM ⟨bY,0,AF⟩)) b.cl):=AI (by rw[hV];exact(A2.box BX.1 _).box (BY.1.other (p:=⟨xb,0,AF⟩) NM _) _);have yL:=BX.2;have hby:=BY.2;have D3:=AI (C3.keeps KV ⟨by omega,by omega⟩);have D4:=AI (C4.keeps KV ⟨by omega,by omega⟩);have D5:=AI (C5.keeps KV ⟨by omega,by omega⟩);have X3:A' (aa w V2):=AI (X2.trans (KV.mono fun x (hx:x<w.heap.size)=>⟨by omega,by omega⟩:ae (· <w.heap.size) W V2).below);clear hV x0 y0 zx zy KV BX BY A1 A2 C3 C4 C5 X2;have x0:=BX2.cell 0;have y0:=BY2.cell 0;simp only[DH,C']at x0 y0;go_wp2_with fail
 refine(CJ V2 bx bY _ _ A1b A2b).mono ?_;rintro e w3 ⟨bj,rfl,hj,hx⟩;have AJ:=AI hj;have A1c:=AI (A1b.below hx);have A2c:=AI (A2b.below hx);have BX3:=AI (BX2.below hx BX2.lt);have BY3:=AI (BY2.below hx BY2.lt);have E3:=AI (D3.below hx D3.lt);have E4:=AI (D4.below hx D4.lt);have E5:=AI (D5.below hx D5.lt);have X4:=AI (X3.trans (hx.mono X3.size));clear hj hx x0 y0 A1b A2b BX2 BY2 D3 D4 D5 X3 CJ NM hyx;obtain⟨e0,e1⟩:w3.cell? ⟨w.heap.size+1+1,0,AF⟩=AM (As AN N9)/\w3.cell? ⟨w.heap.size+1+1,1,AF⟩=AM (As AN Oa):=⟨E5.cell 0,E5.cell 1⟩;obtain⟨w4,hp4,tG,hk4,Hq⟩:=SH Tryz.uI I_ (w:=w3.alloc (.map #[] 0)) (b:=w3.heap.size) (l:=[]) (World.alloc_heap_new w3 _) (fun p hp=>by cases hp) (ei (N9,Oa)) (FJ (N9,Oa) (by rw[<-WV.out];exact(L4 p HP).1) (by rw[<-WV.out];exact(L4 p HP).2)) (fun p hp=>by cases hp) (An AF 0 0);replace hp4:(Instr.mapUpdate 206 (.map (AM w3.heap.size)) (B_ #[As AN N9,As AN Oa]) (An AF 0 0)).run FG (w3.alloc (.map #[] 0))=.ok () w4:=hp4;have PE4:A' (yx w4 w3.heap.size w3.heap.size [((N9,Oa),[])] [(ei (N9,Oa),An AF 0 0)]):=AI (yx.one tG);have K4:A' (ae (· <w3.heap.size) w3 w4):=AI ((ae.aj ((Ext.refl w3).alloc _).below fun _ h=>h:ae (· <w3.heap.size) w3 (w3.alloc (.map #[] 0))).tr (hk4.mono fun x (hx:x<w3.heap.size)=>by show x≠w3.heap.size;omega));have hs5:w4.heap.size=w3.heap.size+1:=by rw[Hq,World.size_alloc]
 have HS5:=AI hs5;clear tG hk4 Hq hs5;have e0':w4.cell? ⟨w.heap.size+1+1,0,AF⟩=AM (As AN N9):=(K4.cell (p:=⟨w.heap.size+1+1,0,AF⟩) E5.lt).trans e0;have e1':w4.cell? ⟨w.heap.size+1+1,1,AF⟩=AM (As AN Oa):=(K4.cell (p:=⟨w.heap.size+1+1,1,AF⟩) E5.lt).trans e1;go_upto_region 3 with fail
 have e0a:(w3.alloc (.map #[] 0)).cell? ⟨w.heap.size+1+1,0,AF⟩=AM (As AN N9):=((ae.aj ((Ext.refl w3).alloc _).below fun _ h=>h:ae (· <w3.heap.size) w3 (w3.alloc (.map #[] 0))).cell (p:=⟨w.heap.size+1+1,0,AF⟩) E5.lt).trans e0;have e1a:(w3.alloc (.map #[] 0)).cell? ⟨w.heap.size+1+1,1,AF⟩=AM (As AN Oa):=((ae.aj ((Ext.refl w3).alloc _).below fun _ h=>h:ae (· <w3.heap.size) w3 (w3.alloc (.map #[] 0))).cell (p:=⟨w.heap.size+1+1,1,AF⟩) E5.lt).trans e1;go_upto_region 5 with fail
 refine aw ?_;intro V5 hV
 have FV:A' (V5.ownsRow w3.heap.size 133 2 (An (AM ⟨w4.heap.size,0,AF⟩) 1 1) 1 (nt [(N9,Oa)])):=AI (by
  rw[hV]
  exact⟨rfl,.inr ⟨_,1, #[As AN N9,As AN Oa],rfl,by rw[HS5.out];omega,World.alloc_heap_new w4 _,aF _,by unfold maxLen;omega,rfl,rfl⟩⟩)
 have Gb:aa w4 V5:=by rw[hV];exact((Ext.refl _).alloc _).below
 have PE5:=AI (PE4.below Gb);have K5:A' (ae (· <w3.heap.size) w3 V5):=AI (K4.tr (ae.aj Gb fun x (hx:x<w3.heap.size)=>by have:=HS5.out;omega:ae (· <w3.heap.size) w4 V5));obtain⟨fg,hfg⟩:=ag w4.heap.size;obtain⟨g0,hg0⟩:=ag w3.heap.size;rw[<-hfg]at FV ⊢;rw[<-hg0]at FV PE5 ⊢;have hwg:w.heap.size+2<g0:=by rw[hg0];exact E5.lt
 have Kw:=AI hg0;clear hV Gb PE4 K4 HS5 e0 e1 e0' e1' e0a e1a hp4 hfg hg0;go_wp2_with fail
 go_loopw [12,14] (fun fv iv wr=>∃ (n L:Nat) (es:List (Bs×Bs)),L=(dc a b p n).length/\n<=L/\iv=As AN n/\wr.ownsRow g0 133 2 fv L (nt ((dc a b p n).map Prod.fst))/\yx wr g0 g0 (dc a b p n) es/\jW a b p=kJ a b p (M+1-n) n/\ae (· <w3.heap.size) w3 wr) (fun _ iv _=>M+1-(intOf iv).toNat)
 case atStart=>exact⟨0,1,_,rfl,by omega,rfl,by rw[WV.out];exact FV,by rw[WV.out];exact PE5,PD,K5⟩
 case round=>
  obtain⟨n,L,es,hL,hn,rfl,hfv,NY,hpd,hx⟩:=hrel;obtain⟨wo,rfl⟩:=ag (wr:Bm);have hLM:L<=M:=by rw[hL];exact PL n
  obtain⟨fa,fc,rfl⟩:=ownsRow_form hfv;have HL:=AI hL;have HFV:=AI hfv;have VB:=AI NY;have HPD:=AI hpd;have HX:=AI hx;clear hL hfv NY hpd hx FV PE5 K5;by_cases hlt:n<L
  ·have hni:(n:Int)<L:=by omega
   obtain⟨x,WW⟩:∃ x,(dc a b p n)[n]? =AM x:=⟨_,aB (by rw[<-HL.out];exact hlt)⟩;have aam:=(PI.out n).2 x (ax WW);obtain⟨hx1,hx2⟩:=PII.out x.1 aam;have hxm:((dc a b p n).map Prod.fst)[n]? =AM x.1:=by rw[aN,WW];rfl
   obtain⟨q0,q1⟩:=yZ _ _ _ hxm;obtain⟨fgg,rfl,hfgg⟩:∃ g,fa=AM ⟨g,0,AF⟩/\g<wo.heap.size:=by
    rcases HFV.2 with⟨h5,_⟩ | ⟨g,c,cur,h5,_,h6,_⟩
    ·cases h5;omega
    ·cases h5;exact⟨g,rfl,(DS.1 h6).1⟩
   have c0':=HFV.cells (g:=fgg) rfl _ _ q0;have c1':=HFV.cells (g:=fgg) rfl _ _ q1;rw[Addr.add_mid]at c0' c1';simp only[Nat.zero_add]at c0' c1';have wl:=WL.out n x (ax WW);obtain⟨xa,xc,adX,SN⟩:=VB.val (fun y hy=>L4 _ ((PI n).2 y hy)) (PI n).1 WW;have adY:=AI aam;have HXN:=AI WW;have SP:=AI SN;have XWO:A' (aa w wo):=AI (X4.trans (HX.mono fun z (hz:z<w.heap.size)=>by show z<w3.heap.size;have:=Kw.out;omega:ae (· <w.heap.size) w3 wo).below);obtain⟨s1,hs1⟩:=ag x.1.1;obtain⟨s2,hs2⟩:=ag x.1.2;have hxe:x.1=(s1,s2):=Prod.ext hs1.symm hs2.symm;rw[<-hs1]at c0' hx1;rw[<-hs2]at c1' hx2;have Tz:=AI hxe;clear WW aam hxm q0 q1 SN hs1 hs2 hxe adX;go_upto_region 10 with fail
   refine aw ?_;intro V6 hV;obtain⟨pb,lG⟩:=ag wo.heap.size;have P6:A' (ar V6 pb #[As AN s1,As AN s2] 133):=AI (by rw[hV,lG];exact ar.new wo _ _);have uq:aa wo V6:=by rw[hV];exact((Ext.refl _).alloc _).below
   have X6:=AI uq;have hgo:g0<=wo.heap.size:=by rw[Kw.out];exact HX.size
   have Tf:g0<pb:=by rw[lG];exact VB.map.lt
   have hfp:(An (AM ⟨fgg,0,AF⟩) L fc).ownBlock≠AM pb:=fun e=>by
    have e2:fgg=pb:=by simpa[Value.ownBlock]using e
    omega
   rw[<-lG];clear hV uq c0' c1' lG;have KV6:A' (ae (· <w3.heap.size) w3 V6):=AI (HX.tr (ae.aj X6 fun z (hz:z<w3.heap.size)=>by have:=Kw.out;omega:ae (· <w3.heap.size) wo V6));have B3:=AI (E3.keeps KV6 E3.lt);have B4:=AI (E4.keeps KV6 E4.lt);have FV6:=AI (ai HFV X6);have PE6:=AI (VB.below X6);have XV6:=AI (XWO.trans (X6.mono XWO.size));obtain⟨mg,mo,ma,ml,mc,e5,hmg,Ts,Im⟩:=HMA.out s1 V6 _ hx1 (H2.below XV6) a2 n1 c2 rfl;obtain⟨kg,ko,ka,kl,kc,e6,VV,xN,Tc⟩:=Tv.out s2 V6 _ hx2 (G2.below XV6) b2 m1 d2 rfl;have WT:=AI Im;have HKS:=AI Tc;have b32:V6.cell? ⟨w.heap.size,2,AF⟩=AM (An (AM ⟨mg,mo,AF⟩) n1 c2):=by rw[<-e5];exact B3.cell 2
   have b42:V6.cell? ⟨w.heap.size+1,2,AF⟩=AM (An (AM ⟨kg,ko,AF⟩) m1 d2):=by rw[<-e6];exact B4.cell 2
   have p0:V6.cell? ⟨pb,0,AF⟩=AM (As AN s1):=P6.cell 0;have p1:V6.cell? ⟨pb,1,AF⟩=AM (As AN s2):=P6.cell 1;have aqo:(s1:Int)<n1:=by omega
   have aqp:(s2:Int)<m1:=by omega
   have l1:=B3.lt;have l2:=B4.lt;clear e5 e6 Im Tc;refine aI GS (fun _=>False) (by kernel_rfl) 12 [0,1,0,4,15,31,0,64,0,256,960,1984,4095,8191] (fun i=>i==12) (by kernel_rfl) (fun _=>aU.any _) ?_;intro C hC hne;have HC:=AI hC;have f0:=aD hC (p:=⟨w.heap.size,2,AF⟩) l1 (fun h=>h) b32;have f1:=aD hC (p:=⟨mg,mo+s1,AF⟩) hmg (fun h=>h) Ts;have f2:=aD hC (p:=⟨w.heap.size+1,2,AF⟩) l2 (fun h=>h) b42;have f3:=aD hC (p:=⟨kg,ko+s2,AF⟩) VV (fun h=>h) xN;have f4:=aD hC (p:=⟨pb,0,AF⟩) P6.lt (fun h=>h) p0;have f5:=aD hC (p:=⟨pb,1,AF⟩) P6.lt (fun h=>h) p1;clear hC b32 b42 p0 p1 Ts xN
   repeat (refine au (fun K hK=>?_);first | (refine bL rfl ?_;try go_simp;refine hK _ _ ?_;clear hK K) | (refine bJ rfl rfl ?_;unfold az;go_simp;refine hK _ _ ?_;clear hK K))
   refine bC (fun W6 hW hH=>?_);have hM6:=(HC.out W6).1 hW;have Y6:=AI hM6.below;clear hM6 hW hH HC hne f0 f1 f2 f3 f4 f5;go_wp2_with fail
   refine(CE s1 s2 _ _ W6 hx1 hx2 (WT.below Y6) (HKS.below Y6)).mono ?_;rintro e w7 ⟨rfl,hx⟩;have Z7:A' (aa V6 w7):=AI (Y6.trans (hx.below.mono Y6.size));have FV7:=AI (ai FV6 Z7);have PE7:=AI (PE6.below Z7);have P7:=AI (P6.below Z7 P6.lt);have KV7:A' (ae (· <w3.heap.size) w3 w7):=AI (KV6.tr (ae.aj Z7 fun z (hz:z<w3.heap.size)=>by have:=Kw.out;have:=X6.size;omega:ae (· <w3.heap.size) V6 w7));clear hx WT HKS B3 B4 FV6 PE6 P6 KV6 X6 XV6 Z7 Y6 HFV VB XWO;have hlk:=SP.out w7 PE7.map;rw[Tz.out]at hlk;replace hlk:(Instr.lookup 206 (.map (AM g0)) (B_ #[As AN s1,As AN s2]) GS).run FG w7=.ok (An xa x.2.length xc) w7:=hlk;have XW7:A' (aa w w7):=AI (X4.trans (KV7.mono fun z (hz:z<w.heap.size)=>by show z<w3.heap.size;have:=Kw.out;omega:ae (· <w.heap.size) w3 w7).below);have p0:w7.cell? ⟨pb,0,AF⟩=AM (As AN s1):=P7.cell 0;have p1:w7.cell? ⟨pb,1,AF⟩=AM (As AN s2):=P7.cell 1;obtain⟨bd,Tt⟩:=ag (Ff a b (s1,s2));rw[<-Tt];have HBD:=AI Tt
   have Ky:A' (jW a b p=if bd=Cd then AM x.2 else kJ a b p (M+1-(n+1)) (n+1)):=AI (by
    rw[HPD.out,show M+1-n=(M-n)+1 by omega,PR.out,HXN.out,show M+1-(n+1)=M-n by omega];show(if Ff a b x.1=Cd then _ else _)=_
    rw[Tz.out, <-HBD.out])
   obtain⟨xl,yR⟩:=ag x.2.length;rw[<-yR]at hlk;have NL:=AI yR;clear Tt yR;cases bd with
   | true=>
    have aiQ:A' (bw en w7 (An xa xl xc) x.2):=AI (by
     obtain⟨xa',xc',h5,h6⟩:=PE7.val (fun y hy=>L4 _ ((PI n).2 y hy)) (PI n).1 HXN;have h7:=h6 w7 PE7.map;have h8:=SP.out w7 PE7.map;rw[h7]at h8;injection h8 with h8
     rw[NL.out, <-h8]
     exact bU h5 rfl)
    go_wp2;refine DE (v:=G' #[An xa xl xc,D0 Cd]) (by simp[results,L7,go_sem]) rfl ⟨An xa xl xc,?_,?_,XW7⟩
    ·rw[Ky.out];rfl
    ·rw[Ky.out];exact aiQ
   | false=>
    have aiR:A' (jW a b p=kJ a b p (M+1-(n+1)) (n+1)):=AI (by rw[Ky.out];rfl);clear hlk Ky;have AJ7:=AI (AJ.keeps KV7 fun _ _ h=>h);go_wp2_with fail
    refine(CL w7 bj _ AJ7).mono ?_;rintro e w8 ⟨rfl,hw⟩;replace hw:=hw.symm;subst hw;clear p0 p1;go_wp2_with fail
    go_loopw [12,66] (fun fv kv wr=>∃ (k L:Nat) (es:List (Bs×Bs)),k<=K/\kv=As AN k/\L=(iu F (lb pj) x (dc a b p n) k).length/\wr.ownsRow g0 133 2 fv L (nt ((iu F (lb pj) x (dc a b p n) k).map Prod.fst))/\yx wr g0 g0 (iu F (lb pj) x (dc a b p n) k) es/\ar wr pb #[As AN s1,As AN s2] 133/\fv.ownBlock≠AM pb/\ae (· <w3.heap.size) w3 wr) (fun _ kv _=>K-(intOf kv).toNat)
    case atStart=>exact⟨0,L,es,Iv _,rfl,HL,FV7,PE7,P7,hfp,KV7⟩
    case round=>
     obtain⟨k,L2,es2,hk,rfl,hL2,hfv,NY,lG,Iy,hx⟩:=hrel;obtain⟨wi,rfl⟩:=ag (wr:Bm);obtain⟨fa2,fc2,rfl⟩:=ownsRow_form hfv;have aqv:L2<=M:=by rw[hL2];have h5:=PL.out (n+1);rw[PS.out n x HXN.out]at h5;exact D_ (FM hk) h5
     have VO:=AI hL2;have IFV:=AI hfv;have IPE:=AI NY;have IPB:=AI lG;have IX:=AI hx;clear hL2 hfv NY lG hx FV7 PE7 P7 KV7;by_cases WU:k<K
     ·have ed:(k:Int)<K:=by omega
      have RK:=AI (RI.out n x k HXN (by omega));have AJI:=AI (AJ.keeps IX fun _ _ h=>h);go_wp2_with fail
      refine(CM wi bj _ k WU AJI).mono ?_;rintro e w9 ⟨rfl,hx⟩;have Y9:=AI hx.below;have hgi:g0<wi.heap.size:=IPE.map.lt;have hi9:wi.heap.size<=w9.heap.size:=Y9.size;have TB:A' (ae (· <w3.heap.size) w3 w9):=AI (IX.tr (ae.aj Y9 fun z (hz:z<w3.heap.size)=>by have:=IX.size;omega:ae (· <w3.heap.size) wi w9));have FV9:=AI (ai IFV Y9);have PE9:=AI (IPE.below Y9);have P9:=AI (IPB.below Y9 IPB.lt);clear hx Y9 IFV IPE IPB IX AJI;obtain⟨c,hc⟩:=ag (lb pj k);have kP:c<256:=by rw[hc];exact ZE k WU
      obtain⟨q,hq⟩:=ag (F x.1 k);have ad0:gK a b q:=by rw[hq];exact FI _ _ adY WU
      have XW9:A' (aa w w9):=AI (X4.trans (TB.mono fun z (hz:z<w.heap.size)=>by show z<w3.heap.size;have:=Kw.out;omega:ae (· <w.heap.size) w3 w9).below);have B3:=AI (E3.keeps TB E3.lt);have B4:=AI (E4.keeps TB E4.lt);have CN9:=AI (CN.out x.1 k w.heap.size xb (w.heap.size+1) yb bx bY V.heap.size V.heap.size _ _ w9 adY WU (B3.cell 1) (H1.below XW9) (B4.cell 1) (G1.below XW9) ((BX3.keeps TB BX3.lt).cell 0) (A1c.keeps TB fun _ _ h=>h) ((BY3.keeps TB BY3.lt).cell 0) (A2c.keeps TB fun _ _ h=>h));rw[<-hc, <-hq]at CN9;rw[show(B_ #[As AN x.1.1,As AN x.1.2]:Bs)=B_ #[As AN s1,As AN s2] by rw[Tz.out]]at CN9;rw[<-hc];obtain⟨t1,ht1⟩:=ag q.1;obtain⟨t2,ht2⟩:=ag q.2;have hqe:q=(t1,t2):=Prod.ext ht1.symm ht2.symm;rw[<-ht1, <-ht2]at CN9;have HC9:=AI hc;have HQ:=AI hq;have HQE:=AI hqe;have VC:=AI ad0;obtain⟨p0,p1⟩:w9.cell? ⟨pb,0,AF⟩=AM (As AN s1)/\w9.cell? ⟨pb,1,AF⟩=AM (As AN s2):=⟨P9.cell 0,P9.cell 1⟩;clear hc hq hqe ht1 ht2 ad0 B3 B4 XW9;go_wp2_with fail
      refine CN9.mono ?_;rintro e oU ⟨rfl,hx⟩;have Y10:=AI hx;have aqx:w9.heap.size<=oU.heap.size:=Y10.size;clear hx p0 p1 CN9;go_upto_region 17 with fail
      refine aw ?_;intro VA hV;obtain⟨qb,Lr⟩:=ag oU.heap.size;have QA:A' (ar VA qb #[As AN t1,As AN t2] 133):=AI (by rw[hV,Lr];exact ar.new oU _ _);have hbA:aa w9 VA:=by rw[hV];exact Y10.trans (((Ext.refl oU).alloc _).below.mono Y10.size)
      have FVA:=AI (ai FV9 hbA);have PEA:=AI (PE9.below hbA);have PA:=AI (P9.below hbA P9.lt);have KVA:A' (ae (· <w3.heap.size) w3 VA):=AI (TB.tr (ae.aj hbA fun z (hz:z<w3.heap.size)=>by have:=TB.size;omega:ae (· <w3.heap.size) w9 VA));have hgA:g0<=VA.heap.size:=by rw[Kw.out];exact KVA.size
      have hqg:g0<qb:=by omega
      rw[<-Lr];clear hV hbA Lr Y10 FV9 PE9 P9 TB;obtain⟨t0,t1'⟩:VA.cell? ⟨qb,0,AF⟩=AM (As AN t1)/\VA.cell? ⟨qb,1,AF⟩=AM (As AN t2):=⟨QA.cell 0,QA.cell 1⟩;have oV:=PEA.look (fun y hy=>L4 _ (RK.2 y hy)) q (L4 q VC).1 (L4 q VC).2;have Vm:ei q=B_ #[As AN t1,As AN t2]:=by rw[HQE.out];rfl
      rw[Vm]at oV;have HPV:=AI Vm;clear Vm;rcases oV with⟨NT,VQ,hlk⟩ | ⟨i,wd,v,hi,_,hlk,_⟩
      ·have aao:A' (iu F (lb pj) x (dc a b p n) (k+1)=iu F (lb pj) x (dc a b p n) k++ [(q,x.2++ [c])]):=AI (by rw[iu,Bx,if_neg (by rw[<-HQ.out];exact NT), <-HQ.out, <-HC9.out])
       have HQ2:=AI VQ;clear NT VQ;go_upto_region 19 with fail
       have aiX:A' ((iu F (lb pj) x (dc a b p n) k)[n]? =AM x):=AI (Fe _ _ _ _ HXN k);obtain⟨ya,yc,SQ,Cf⟩:=PEA.val (fun y hy=>L4 _ (RK.2 y hy)) RK.1 aiX;rw[<-NL.out]at SQ Cf;have SR:=AI SQ;have ad8:ei x.1=B_ #[As AN s1,As AN s2]:=by rw[Tz.out];rfl
       rw[ad8]at Cf;have HYL:=AI Cf;obtain⟨p0,p1⟩:VA.cell? ⟨pb,0,AF⟩=AM (As AN s1)/\VA.cell? ⟨pb,1,AF⟩=AM (As AN s2):=⟨PA.cell 0,PA.cell 1⟩;have aqA:xl<=900000:=by rw[NL.out];omega
       have ad9:=QA.lt;have aea:=PA.lt;have aeb:=PEA.map.lt;clear SQ Cf ad8 hlk;refine br (fC VA.heap.size (xr VA.heap.size xl (x.2.map en) (As F_ c))) (fC.below (oJ _ _ _ _) (Ext.refl VA).drew.below) (fun _ _ _ h k=>h.trans k) (by kernel_rfl) 9 [0,0,0,0,12,28,0,64,252,511] (fun i=>i==5 || i==7 || i==8) (by kernel_rfl) (fun i=>if i=5 then aU.fact _ _ 0 (fun v=>∃ a c,v=An a xl c) (An AF xl 0) ⟨AF,0,rfl⟩else if i=7 then aU.fact _ _ 2 (fun v=>∃ b,v=An (AM ⟨b,0,AF⟩) 1 1) (An (AM ⟨0,0,AF⟩) 1 1) ⟨0,rfl⟩else if i=8 then aU.fact _ _ 1 (fun v=>∃ a c,v=An a (xl+1) c) (An AF (xl+1) 0) ⟨AF,0,rfl⟩else aU.any _) ?_;intro C hC hne;have HC:=AI hC;have od:∀ (b o:Nat) (u:Bs),b<VA.heap.size->VA.cell? ⟨b,o,AF⟩=AM u->∀ W: {W//C W},W.1.cell? ⟨b,o,AF⟩=AM u:=fun b o u hb hu W=>(((hC W.1).1 W.2).1.cell (p:=⟨b,o,AF⟩) ⟨hb,hb⟩).trans hu
       have f0:=od _ _ _ ad9 t0;have f1:=od _ _ _ ad9 t1';have f2:=od _ _ _ aea p0;have f3:=od _ _ _ aea p1;have f4:∀ W: {W//C W},(Instr.lookup 206 (.map (AM g0)) (B_ #[As AN s1,As AN s2]) GS).run FG W.1=.ok (An ya xl yc) W.1:=fun W=>HYL W.1 (PEA.map.keeps ((hC W.1).1 W.2).1 ⟨aeb,aeb⟩)
       clear hC od t0 t1' p0 p1
       repeat (refine au (fun K hK=>?_);first | (refine bL rfl ?_;try go_simp;refine hK _ _ ?_;clear hK K) | (refine bJ rfl rfl ?_;unfold az;go_simp;refine hK _ _ ?_;clear hK K))
       refine au (fun K0 hK=>?_);refine bS rfl rfl (aU.fact _ _ 0 (fun v=>∃ a c,v=An a xl c) (An AF xl 0) ⟨AF,0,rfl⟩) rfl (fun W hW hN=>?_) (fun v hv=>?_)
       ·have tT:=(HC.out W).1 hW
        have nI:=tT.1.size;have hr9:=ak SR tT.1 fun z e=>⟨(SR.lt z e).2,(SR.lt z e).2⟩
        clear hW hK K0 hN tT;go_simp;refine bA ((vw _ x.2 W (bU hr9 NL) (by rw[<-NL.out];omega)).mono ?_);rintro e w2 ⟨u,rfl,ho,hx⟩;rw[<-NL.out]at ho;have GG:w2.ownsRow VA.heap.size 5 1 u xl (x.2.map en):=aC ho nI;exact⟨_,rfl,fC.below (oJ _ _ _ _) hx,ownsRow_form GG,GG⟩
       obtain⟨a5,c5,rfl⟩:=hv;go_simp;refine hK _ _ ?_;clear hK K0
       repeat (refine au (fun K hK=>?_);first | (refine bL rfl ?_;try go_simp;refine hK _ _ ?_;clear hK K) | (refine bJ rfl rfl ?_;unfold az;go_simp;refine hK _ _ ?_;clear hK K))
       refine au (fun K0 hK=>?_);refine bS rfl rfl (aU.fact _ _ 2 (fun v=>∃ b,v=An (AM ⟨b,0,AF⟩) 1 1) (An (AM ⟨0,0,AF⟩) 1 1) ⟨0,rfl⟩) rfl (fun W hW hN=>?_) (fun v hv=>?_)
       ·clear hW hK K0 hN
        go_simp;exact⟨fC.below (oJ _ _ _ _) ((Ext.refl _).alloc _).below,⟨_,rfl⟩,fun b hb=>by cases hb;exact ar.new _ _ _⟩
       obtain⟨b7,rfl⟩:=hv;go_simp;refine hK _ _ ?_;clear hK K0;refine au (fun K0 hK=>?_);refine bS rfl rfl (aU.fact _ _ 1 (fun v=>∃ a c,v=An a (xl+1) c) (An AF (xl+1) 0) ⟨AF,0,rfl⟩) rfl (fun W hW hN=>?_) (fun v hv=>?_)
       ·have tT:=(HC.out W).1 hW
        have nI:=tT.1.size;have h0:W.ownsRow VA.heap.size 5 1 (An a5 xl c5) xl (x.2.map en):=hN.at 1 rfl (by kernel_rfl);have Pt:∀ b,(An (AM ⟨b7,0,AF⟩) 1 1:Bs)=An (AM ⟨b,0,AF⟩) 1 1->ar W b #[As F_ c] 5:=hN.at 0 rfl (by kernel_rfl);clear hW hK K0 hN tT;refine qP (.tmp 92) (.tmp 94) 44 rfl VA.heap.size 5 iB (As F_ 0) 1 1 GB YH Hu Hv Hw rfl (by decide) (An a5 xl c5) xl (x.2.map en) rfl h0 (An (AM ⟨b7,0,AF⟩) 1 1) 1 [As F_ c] rfl (.inr ⟨⟨b7,0,AF⟩,1,rfl,cC (Pt b7 rfl)⟩) rfl (by simp[D']) (by unfold maxLen;omega) (by omega) nI ?_;intro v' w' ho hg halt;rcases halt with hb | ⟨g,cap,y1,y2,y3⟩
        ·exact⟨fC.below (oJ _ _ _ _) hb,ownsRow_form ho,ho⟩
        ·subst y2
         rw[y1]at h0 hg;exact⟨⟨ae.aZ hg fun x hx=>⟨hx.2,fun e=>by cases e;have:=(h0.lt _ rfl).1;have:=hx.1;omega⟩,Ce h0 ho hg⟩,⟨_,_,rfl⟩,ho⟩
       obtain⟨a8,c8,rfl⟩:=hv;go_simp;refine hK _ _ ?_;clear hK K0;refine bC (fun W hW hH=>?_);have tT:=(HC.out W).1 hW;have RO:A' (W.ownsRow g0 5 1 (An a8 (xl+1) c8) (xl+1) (x.2.map en++ [As F_ c])):=AI (aC (hH _ (ax (show _=AM _ from rfl:_[0]? =AM _))) hgA);have YW:A' (aa VA W):=AI (tT.1.mono fun z (hz:z<VA.heap.size)=>⟨hz,hz⟩:ae (· <VA.heap.size) VA W).below;have FVW:=AI (ai FVA YW);have PEW:=AI (PEA.below YW);have PW:=AI (PA.below YW PA.lt);have QW:=AI (QA.below YW QA.lt);have KVW:A' (ae (· <w3.heap.size) w3 W):=AI (KVA.tr (ae.aj YW fun z (hz:z<w3.heap.size)=>by have:=Kw.out;omega:ae (· <w3.heap.size) VA W));clear tT hW hH HC hne f0 f1 f2 f3 f4 YW FVA PEA PA QA KVA;obtain⟨WB,hput,hmB,hkB,hsB⟩:=SH Tryz.uI I_ PEW.map (PEW.keys fun y hy=>L4 _ (RK.2 y hy)) (ei q) (FJ q (L4 q VC).1 (L4 q VC).2) (by rw[HPV.out];exact HQ2) (An a8 (xl+1) c8);have RO2:W.ownsRow g0 5 1 (An a8 (xl+1) c8) (x.2++ [c]).length ((x.2++ [c]).map en):=by
        have e:(x.2++ [c]).map en=x.2.map en++ [As F_ c]:=by rw[Is];rfl
        rw[e,aJ,List.length_singleton, <-NL.out];exact RO
       have PEB:=AI (PEW.put RO2 hmB hkB);have FVB:=AI (ak FVW hkB fun z e=>lS FVW PEW.map (fun c fz e=>by cases e) z e);have PB:=AI (PW.keeps hkB (by show pb≠g0;omega));have QB:=AI (QW.keeps hkB (by show qb≠g0;omega));have KVB:A' (ae (· <w3.heap.size) w3 WB):=AI (KVW.tr (hkB.mono fun z (hz:z<w3.heap.size)=>by show z≠g0;have:=Kw.out;omega));have hgB:g0<=WB.heap.size:=by rw[Kw.out];exact KVB.size
       rw[HPV.out]at hput;obtain⟨t0,t1'⟩:WB.cell? ⟨qb,0,AF⟩=AM (As AN t1)/\WB.cell? ⟨qb,1,AF⟩=AM (As AN t2):=⟨QB.cell 0,QB.cell 1⟩;obtain⟨w0',w1'⟩:W.cell? ⟨qb,0,AF⟩=AM (As AN t1)/\W.cell? ⟨qb,1,AF⟩=AM (As AN t2):=⟨QW.cell 0,QW.cell 1⟩;clear hmB hkB hsB RO RO2 PEW FVW PW QW KVW;go_wp2_with (at_builtin;refine Hid.out ?_);refine AI ?_;refine Ft _ rfl (.tmp 96) (.tmp 98) 207 rfl g0 133 iP (B_ #[As AN 0,As AN 0]) 2 16 Tryz.underlying207 hiP Vv Vw aaa rfl (by decide) (An fa2 L2 fc2) L2 _ rfl (FVB.alloc _) ⟨WB.heap.size,0,AF⟩ 1 1 [As AN t1,As AN t2] rfl rfl (SK _ _ _ _) (by simp[D']) (by unfold maxLen;omega) (by omega) (by simp;omega) ?_;intro v' w5 hown' hgrow hh hat;have Iw:=AI hown';have lB:=AI hgrow;have Ld:=AI hat;clear hown' hgrow hh hat hput t0 t1' w0' w1';go_wp2;go_roundw;case rel=>
        refine⟨k+1,L2+1,es2++ [(ei q,An a8 (xl+1) c8)],by omega,by go_num,?_,?_,?_,?_,?_,?_⟩
        ·rw[aao.out,aJ, <-VO.out];rfl
        ·rw[aao.out,Is]
         show w5.ownsRow g0 _ _ _ _ (nt (_++ [q]));rw[Ay,HQE.out];exact Iw
        ·rw[aao.out]
         exact(PEB.below ((Ext.refl WB).alloc _).below).kept (FVB.alloc _) (by decide) lB
        ·exact(PB.alloc _).grown lB (Ne.symm Iy)
        ·rcases Ld.out with h5 | h5
         ·rw[h5];exact Iy
         ·rw[h5]
          intro e;have e2:(WB.alloc (.cells #[As AN t1,As AN t2] 133)).heap.size=pb:=by simpa using e
          have h6:=PB.lt;rw[World.size_alloc]at e2;omega
        ·exact(KVB.tr (ae.aj ((Ext.refl WB).alloc _).below fun z (hz:z<w3.heap.size)=>by have:=Kw.out;omega:ae (· <w3.heap.size) WB _)).tr (ae.aZ lB fun z (hz:z<w3.heap.size)=>⟨by have:=Kw.out;simp;omega,fun e=>by have:=(FVB.lt z e.symm).1;have:=Kw.out;omega⟩)
       case measure=>simp[intOf];omega
      ·have HOLD:A' (iu F (lb pj) x (dc a b p n) (k+1)=iu F (lb pj) x (dc a b p n) k):=AI (by rw[iu,Bx,if_pos (by rw[<-HQ.out];exact M_.2 ⟨_,ax hi,rfl⟩)])
       clear hi;go_wp2_with fail
       go_roundw
       case rel=>exact⟨k+1,L2,es2,by omega,by go_num,by rw[HOLD.out];exact VO,by rw[HOLD.out];exact FVA,by rw[HOLD.out];exact PEA,PA,Iy,KVA⟩
       case measure=>simp[intOf];omega
     ·obtain rfl:k=K:=by omega
      have ed:¬ ((k:Int)<k):=by omega
      have HSE:A' (dc a b p (n+1)=iu F (lb pj) x (dc a b p n) k):=AI (PS.out n x HXN);have hnL:n+1<=L2:=by have h5:=FK (F:=F) (lt:=lb pj) (x:=x) (E:=dc a b p n) k;have:=VO.out;have:=HL.out;omega
      go_wp2_with fail
      go_roundw
      case rel=>exact⟨n+1,L2,es2,by rw[HSE.out];exact VO,hnL,by go_num,by rw[HSE.out];exact IFV,by rw[HSE.out];exact IPE,aiR,IX⟩
      case measure=>simp[intOf];omega
  ·have hni:¬ ((n:Int)<L):=by omega
   have aed:A' (jW a b p=AF):=AI (by
    rw[HPD.out];by_cases h5:M+1-n=0
    ·rw[h5];rfl
    ·obtain⟨f,hf⟩:∃ f,M+1-n=f+1:=⟨M-n,by omega⟩
     rw[hf,PR.out,aT (by rw[<-HL.out];omega)])
   have XWO:A' (aa w wo):=AI (X4.trans (HX.mono fun z (hz:z<w.heap.size)=>by show z<w3.heap.size;have:=Kw.out;omega:ae (· <w.heap.size) w3 wo).below);go_wp2;refine DE (v:=G' #[An AF 0 0,D0 GS]) (by simp[results,L7,go_sem]) rfl ⟨An AF 0 0,?_,?_,XWO⟩
   ·rw[aed.out];rfl
   ·rw[aed.out];exact .inl ⟨rfl,rfl⟩
def SS (r:Option (List Nat)) (W:Bm) (e:Ending) (w':Bm):Prop:=∃ a c,e=AS (G' #[An a (r.getD []).length c,D0 (!r.isSome),As AN 0])/\bw en w' (An a (r.getD []).length c) (r.getD [])/\aa W w'
theorem Nw {a b:DF} (ra:Rt a) (rb:Rt b) (hM:a.nx.length*b.nx.length<=900000) (w:Bm) (v v':Bs) (h:bV w v a) (h':bV w v' b): ah 32 #[v,v'] w (SS (jW a b (0,0)) w):=by
 have CA:A' (∀ W,aa w W->ah 16 #[v] W fun e w'=>e=AS (D0 Cd)/\aa W w'):=AI fun W hW=>eW ra v W (h.below hW)
 have CB:A' (∀ W,aa w W->ah 16 #[v'] W fun e w'=>e=AS (D0 Cd)/\aa W w'):=AI fun W hW=>eW rb v' W (h'.below hW)
 have CL:A' (∀ W,aa w W->ah 68 #[v,v',B_ #[As AN (0:Nat),As AN (0:Nat)]] W (PartsAt a b (0,0) W)):=AI fun W hW=>Jf ra rb (0,0) ⟨ra.pos,rb.pos⟩ hM W v v' (h.below hW) (h'.below hW)
 obtain⟨n0,bX⟩:=ag a.cl.length;obtain⟨n1,cM⟩:=ag a.nx.length;obtain⟨n2,dP⟩:=ag a.mr.length;obtain⟨m0,nZ⟩:=ag b.cl.length;obtain⟨m1,lA⟩:=ag b.nx.length;obtain⟨m2,mE⟩:=ag b.mr.length;obtain⟨a0,c0,a1,c1,a2,c2,rfl⟩:=h.form;obtain⟨b0,d0,b1,d1,b2,d2,rfl⟩:=h'.form;rw[<-bX, <-cM, <-dP]at CA CL ⊢;rw[<-nZ, <-lA, <-mE]at CB CL ⊢;obtain⟨r,hr⟩:=ag (jW a b (0,0));unfold PartsAt at CL;rw[<-hr]at CL ⊢;clear hr;clear h h' bX cM dP nZ lA mE;go_enter Tryz.func32,Tryz.ntmps32;go_upto_region 1 with fail
 refine aw ?_;intro V hV;have B0:A' (ar V w.heap.size #[An a0 n0 c0,An a1 n1 c1,An a2 n2 c2] 29):=AI (by rw[hV];exact(ar.new w _ _).alloc _);have R0:A' (ar V (w.heap.size+1) #[An b0 m0 d0,An b1 m1 d1,An b2 m2 d2] 29):=AI (by rw[hV];exact(ar.new (w.alloc _) _ _).at (by simp));have X0:A' (aa w V):=AI (by rw[hV];exact(((Ext.refl w).alloc _).alloc _).below);clear hV;obtain⟨p0,p1,p2⟩:=aM.fj B0;go_wp2_with fail
 refine(CA V X0).mono ?_;rintro e w1 ⟨rfl,hx⟩;have B1:=AI (B0.below hx B0.lt);have R1:=AI (R0.below hx R0.lt);have X1:=AI (X0.trans (hx.mono X0.size));clear hx p0 p1 p2 B0 R0 X0 CA;obtain⟨r0,r1,r2⟩:=aM.fj R1;go_wp2_with fail
 refine(CB w1 X1).mono ?_;rintro e w2 ⟨rfl,hx⟩;have B2:=AI (B1.below hx B1.lt);have R2:=AI (R1.below hx R1.lt);have X2:=AI (X1.trans (hx.mono X1.size));clear hx r0 r1 r2 B1 R1 X1 CB;obtain⟨p0,p1,p2⟩:=aM.fj B2;obtain⟨r0,r1,r2⟩:=aM.fj R2;go_wp2_with fail
 refine(CL w2 X2).mono ?_;rintro e w3 ⟨u,rfl,hu,hx⟩;obtain⟨ua,uc,rfl⟩:=hu.form;have HU:=AI hu;have X3:=AI (X2.trans (hx.mono X2.size));obtain⟨ln,Cr⟩:=ag ((r.getD []).length);rw[<-Cr]at HU ⊢;obtain⟨q,hq⟩:=ag r.isSome;rw[<-hq];have QF:=AI Cr;have HQ:=AI hq;clear hu hx Cr hq p0 p1 p2 r0 r1 r2 CL;go_wp2;exact DE (v:=G' #[An ua ln uc,D0 (!q),As AN 0]) (by simp[results,Tryz.results32,go_sem]) rfl ⟨ua,uc,by rw[<-QF.out, <-HQ.out],by rw[<-QF.out];exact HU,X3⟩
end
section
open Go Go.RowKit
set_option maxRecDepth 100000
def xq (a b:DF) (P:List BS) (p:Nat×Nat) (k:Nat):Nat×Nat:=(eH a p.1 (cls a.cl (lb P k)),eH b p.2 (cls b.cl (lb P k)))
def uH (a b:DF) (P:List BS) (p:Nat×Nat):Nat->Nat->Option (List Nat)
 | 0,_=>AF
 | f+1,i=>match(iG (xq a b P) (lb P) P.length p i)[i]? with
  | none=>AF
  | some x=>if Ff a b x.1 then AM x.2 else uH a b P p f (i+1)
theorem zW {a b:DF} {P:List BS} (hP:partsOf (a.cl++b.cl)=P) (p:Nat×Nat):∀ f i,kJ a b p f i=uH a b P p f i
 | 0,_=>rfl
 | f+1,i=>by
  have ih:=zW hP p f (i+1);have e:dc a b p i=iG (xq a b P) (lb P) P.length p i:=by
   unfold dc;have e2:vu a b=xq a b P:=by
    funext p k
    unfold vu xq;rw[hP]
   rw[e2,hP]
  rw[kJ,uH,e,ih];cases (iG (xq a b P) (lb P) P.length p i)[i]? <;>rfl
theorem Nq {a b:DF} {P:List BS} (hP:partsOf (a.cl++b.cl)=P) (p:Nat×Nat):jW a b p=uH a b P p (a.nx.length*b.nx.length+1) 0:=zW hP p _ _
def ky:DF:=⟨[By 256],[[1],[0],[3],[2]],[[],[0],[],[0]]⟩
theorem SG:(C_ 4).map (fS ky)=[0,1,0,1]:=by kernel_rfl
end
section
open Go Go.RowKit Go.Shelf Go.Maps
theorem SU (a b c:BS) (h:(!ltOf aW b a)=Cd) (k:(!ltOf aW c b)=Cd):(!ltOf aW c a)=true:=by
 simp only[Bool.not_eq_true']at*;cases Yb:ltOf aW c a with
 | false=>rfl
 | true=>
  exfalso;rw[<-Bool.not_eq_true,eN]at h k;rw[eN]at Yb;rcases nY a b with e | e | e
  ·subst e;exact k Yb
  ·exact k (ig Yb e)
  ·exact h e
theorem SV (a b:BS):((!ltOf aW b a) || (!ltOf aW a b))=true:=by
 cases XZ:ltOf aW b a with
 | false=>rfl
 | true=>
  cases hab:ltOf aW a b with
  | false=>rfl
  | true=>
   rw[eN]at XZ hab;exact absurd (ig XZ hab) (jE b)
theorem fF {l L:List BS} (hp:(bc l).isPerm L=Cd) (hs:decide (L.Pairwise fun x y=>(!ltOf aW y x)=Cd)=Cd):partsOf l=L:=
 List.Perm.eq_of_pairwise (fun a b _ _ h k=>abJ a b (by simpa using k) (by simpa using h)) (List.pairwise_mergeSort SU SV _) (of_decide_eq_true hs) ((List.mergeSort_perm _ _).trans (List.isPerm_iff.1 hp))
def yy (l:List Nat):BS:=pK fun c=>l.contains c
theorem Cg {ps:List PT} {P:List BS} {f:Nat} {st:List (List (List Int))×List (List Nat)} (hP:partsOf (cw ps)=P) (hl:¬64<ps.length) (ho:ps.all PT.ok=Cd) (h1:1<=f) (h2:f<=4000) (hst:ji f (fun row k=>eQ ps row (lb P k)) P.length (lK ps) f=AM st):kR ps f=(⟨P,st.2.map fun r=>r.map Int.ofNat,st.1.map (dH ps)⟩,0):=by subst hP;unfold kR si;rw[if_neg hl,if_neg (by rw[ho];decide),if_neg (by omega),Int.toNat_natCast,if_neg (by omega),hst]
def uw (l:List Nat):RX:=.nd 2 (yy l) 0 0 []
def VD (l:List Nat):RX:=.nd 3 0 0 0 (l.map fun c=>uw [c])
def pI (t:RX):RX:=.nd 5 0 0 (-1) [t]
def Kz (t:RX) (b:Bool):PT:=⟨t.nf,b,0⟩
end
section
open Go Go.RowKit
set_option maxRecDepth 100000
def aee (l:List RX):RX:=.nd 4 0 0 0 l
def FP:RX:=aee [uw [97],uw [98]]
def VE:RX:=aee [pI FP,pI (uw [97])]
def tAA:RX:=pI (VD [97,97])
def cl3:List BS:=[~~~(yy [97,98]),yy [97],yy [98]]
def DW:List BS:=[~~~(yy [97]),yy [97]]
def Nx:DF:=⟨cl3,[[1,2,3],[1,1,1],[1,1,1],[1,1,1]],[[],[],[0],[0]]⟩
def FQ:DF:=⟨cl3,[[0,1,2],[0,1,2],[0,1,2]],[[0],[0],[0]]⟩
def SY:DF:=⟨DW,[[1,2],[1,1],[1,2]],[[0],[],[0]]⟩
def FT:DF:=⟨DW,[[1,2],[1,1],[1,3],[1,2]],[[0],[],[],[0]]⟩
theorem aef:kR [Kz FP Cd] 9=(Nx,0):=
 (Cg (P:=cl3) (f:=9) (st:=([[[-1]],[[]],[[0]],[[1]]],[[1,2,3],[1,1,1],[1,1,1],[1,1,1]])) (fF (by kernel_rfl) (by kernel_rfl)) (by decide) (by kernel_rfl) (by decide) (by decide) (by kernel_rfl)).trans (by kernel_rfl)
theorem aeg:kR [Kz VE GS] 99=(FQ,0):=
 (Cg (P:=cl3) (f:=99) (st:=([[[-1]],[[-1,0,2]],[[-1,1]]],[[0,1,2],[0,1,2],[0,1,2]])) (fF (by kernel_rfl) (by kernel_rfl)) (by decide) (by kernel_rfl) (by decide) (by decide) (by kernel_rfl)).trans (by kernel_rfl)
theorem aeh:kR [Kz (pI (uw [97])) Cd] 9=(SY,0):=
 (Cg (P:=DW) (f:=9) (st:=([[[-1]],[[]],[[0]]],[[1,2],[1,1],[1,2]])) (fF (by kernel_rfl) (by kernel_rfl)) (by decide) (by kernel_rfl) (by decide) (by decide) (by kernel_rfl)).trans (by kernel_rfl)
theorem aap:kR [Kz tAA Cd] 9=(FT,0):=
 (Cg (P:=DW) (f:=9) (st:=([[[-1]],[[]],[[0]],[[1]]],[[1,2],[1,1],[1,3],[1,2]])) (fF (by kernel_rfl) (by kernel_rfl)) (by decide) (by kernel_rfl) (by decide) (by decide) (by kernel_rfl)).trans (by kernel_rfl)
theorem Xa:(dJ Nx).nx.length=3/\(dJ Nx).cl.length=2:=by constructor<;>kernel_rfl
theorem Xb:(dJ FQ).nx.length=1/\(dJ FQ).cl.length=1:=by constructor<;>kernel_rfl
theorem p_a:jW SY FT (0,0)=AM [97]:=(Nq (P:=DW) (fF (by kernel_rfl) (by kernel_rfl)) (0,0)).trans (by kernel_rfl)
theorem aei:Nx.right=true:=((cX _).2 ⟨by decide,by decide,by decide,fF (by kernel_rfl) (by kernel_rfl),by decide,by decide,by decide⟩)
theorem aej:FQ.right=true:=((cX _).2 ⟨by decide,by decide,by decide,fF (by kernel_rfl) (by kernel_rfl),by decide,by decide,by decide⟩)
theorem aek:SY.right=true:=((cX _).2 ⟨by decide,by decide,by decide,fF (by kernel_rfl) (by kernel_rfl),by decide,by decide,by decide⟩)
theorem aaq:FT.right=true:=((cX _).2 ⟨by decide,by decide,by decide,fF (by kernel_rfl) (by kernel_rfl),by decide,by decide,by decide⟩)
theorem aar:ky.right=true:=((cX _).2 ⟨by decide,by decide,by decide,fF (by kernel_rfl) (by kernel_rfl),by decide,by decide,by decide⟩)
end
section
open Go Go.RowKit Go.Shelf Go.Maps
theorem yz (W:Bm) (e:It) (s:ByteArray):aa W (EV W e s):=by refine⟨?_,?_,?_,by rw[Lib.bytesWorld_size];omega,fun k hk=>Lib.bytesWorld_at_old W e s k hk⟩<;>(unfold EV World.freeze;split<;>rfl)
theorem Ny (k:Nat) (s:BS) (mn mx:Int) (a:Bs) {i:Nat} (hi:i<4):(aq k s mn mx a)[1+i]? =AM (As AT (wd s i).toNat):=by
 match i,hi with
 | 0,_=>rfl
 | 1,_=>rfl
 | 2,_=>rfl
 | 3,_=>rfl
theorem Ji {s t:BS} {q:Nat} {x:Bs} (hq4:q<4) (h:(encS s).setIfInBounds q x=encS t) (k:Nat) (mn mx:Int) (a:Bs):(aq k s mn mx a).setIfInBounds (1+q) x=aq k t mn mx a:=by unfold encS at h;unfold aq;have h0:=congrArg (·[0]?) h;have h1:=congrArg (·[1]?) h;have h2:=congrArg (·[2]?) h;have h3:=congrArg (·[3]?) h;clear h;rcases(show q=0\/q=1\/q=2\/q=3 by omega)with rfl | rfl | rfl | rfl<;>(simp at h0 h1 h2 h3;simp[h0,h1,h2,h3])
theorem FU (k:Nat) (s:BS) (mn mx:Int) (a:Bs) {c:Nat} (hc:c<256):(aq k s mn mx a).setIfInBounds (1+c/64) (As AT (bits .or AT (wd s (c/64)).toNat (AT.wrap (2^ (c%64)))))=aq k (mP s c) mn mx a:=Ji (by omega) (uU s hc) k mn mx a
theorem tU (s:ByteArray) (l:List Nat) (mm:s.data.toList.map (·.toNat)=l) (hn:l.length<=1000000) (w:Bm): ah 55 #[Ly s] w fun e w'=>e=AS (B_ (aq 2 (pK fun c=>l.contains c) 0 0 (An AF 0 0)))/\aa w w':=by
 obtain⟨u,hu⟩:=ag (pK fun c=>l.contains c);rw[<-hu];have HU:=AI hu;have hcv:∀ W:Bm,(convert 9 44 (Ly s)).run FG W=.ok (An (AM ⟨W.heap.size,0,AF⟩) s.size (grownCap W s.size 0 5)) (EV W 5 s):=fun W=>Lib.run_convert_string_bytes W 9 44 5 s Lo GB Lw
 have hsz:s.size=l.length:=by rw[<-mm];simp
 have HCE:A' (∀ (W:Bm) (i x:Nat),l[i]? =AM x->(EV W 5 s).cell? ⟨W.heap.size,i,AF⟩=AM (As F_ x)):=AI fun W i x h=>by
  have hi:i<s.size:=by rw[hsz];exact(B'.1 h).1
  rw[Lib.bytesWorld_cell W 5 s i hi];rw[<-mm,aN]at h;cases hq:s.data.toList[i]? with
  | none=>rw[hq]at h;cases h
  | some b=>rw[hq]at h;cases h;rw[bB,hq];rfl
 have HL:A' (∀ c∈l,c<256):=AI fun c hc=>by
  rw[<-mm]at hc;obtain⟨b,_,rfl⟩:=M_.1 hc;exact b.toNat_lt
 rw[hsz]at hcv;have Ur:A' (∀ W:Bm,aa W (EV W 5 s)):=AI fun W=>yz W _ s
 clear hu mm hsz;go_enter Tryz.func55,Tryz.ntmps55;go_upto_region 2 with fail
 refine aw ?_;intro V hV;have R0:A' (ar V w.heap.size eG 97):=by rw[hV];exact AI ((ar.new _ _ _).alloc _)
 have B0:A' (ar V (w.heap.size+1) (aq 2 0 0 0 (An AF 0 0)) 97):=by rw[hV,bP];exact AI ((ar.new _ _ _).at (by simp))
 have X0:A' (aa w V):=by rw[hV];exact AI (((Ext.refl w).alloc _).alloc _).below
 have yg:V.heap.size=w.heap.size+2:=by rw[hV];simp
 have qu:=AI yg;clear hV yg;go_wp2;go_loopw [10] (fun i wr=>∃ (k:Nat) (s':BS),k<=l.length/\i=As AN k/\(∀ c,c<256->s'.getLsbD c=(l.take k).contains c)/\ar wr (w.heap.size+1) (aq 2 s' 0 0 (An AF 0 0)) 97/\ar wr w.heap.size eG 97/\(∀ i x:Nat,l[i]? =AM x->wr.cell? ⟨V.heap.size,i,AF⟩=AM (As F_ x))/\aa w wr) (fun i _=>l.length-(intOf i).toNat);case atStart=>
  have hb:=Ur.out V;exact⟨0,0,by omega,rfl,fun c hc=>by simp,B0.below hb B0.lt,R0.below hb R0.lt,fun i x h=>HCE V i x h,X0.trans (hb.mono X0.size)⟩
 case round=>
  obtain⟨k,s',hk,rfl,hs,hB,hR,hce,hx⟩:=hrel;obtain⟨wo,rfl⟩:=ag (wr:Bm);have HS:=AI hs;have HCR:=AI hce;clear hs hce;by_cases hlt:k<l.length
  ·obtain⟨c,od⟩:∃ c,l[k]? =AM c:=⟨l[k],aB hlt⟩
   have kP:c<256:=HL.out c (ax od);have hcc:wo.cell? ⟨V.heap.size,k,AF⟩=AM (As F_ c):=HCR.out k c od;have hw:(aq 2 s' 0 0 (An AF 0 0))[1+c/64]? =AM (As AT (wd s' (c/64)).toNat):=Ny _ _ _ _ _ (by omega);have hc1:wo.cell? ⟨w.heap.size+1,1+c/64,AF⟩=AM (As AT (wd s' (c/64)).toNat):=(hB.cell _).trans hw;have hf:=hB.frozen (1+c/64);have er:l.take (k+1)=l.take k++ [c]:=by rw[J',od];rfl
   have HT:=AI er;have HB:=AI hB;have HR:=AI hR;have HX:=AI hx;have ed:(k:Int)<l.length:=by omega
   clear hB hR hx hw er od Ur hcv;go_wp2;go_roundw;case rel=>
    refine⟨k+1,mP s' c,by omega,by go_num,fun d hd=>?_,?_,?_,fun i x h=>?_,?_⟩
    ·rw[kO s' kP,HS.out d hd,HT.out,G_,G_,List.any_append]
     simp
    ·rw[<-FU 2 s' 0 0 _ kP];exact HB.set _ _
    ·exact HR.other (by simp) _
    ·rw[cell_far _ _ _ _ (by have:=qu.out;simp;omega)];exact HCR i x h
    ·exact HX.trans (((ae.refl (· <w.heap.size) _).setCell (p:=⟨w.heap.size+1,1+c/64,AF⟩) (fun h=>by have h':w.heap.size+1<w.heap.size:=h;omega) _).below)
   case measure=>simp[intOf];omega
  ·have QT:s'=u:=by rw[HU.out];exact BS.Jq fun c hc=>by rw[HS.out c hc,List.take_of_length_le (by omega)]
   subst QT;obtain rfl:k=l.length:=by omega
   have HR:=AI hR;have HX:=AI hx;have ed:¬ ((l.length:Int)<l.length):=by omega
   obtain⟨c0,c1,c2,c3,c4,c5,c6,c7⟩:=hB.eight;clear hB hR hx hcv Ur;go_wp2_with (refine wpList_store_row rfl 97 (.tmp 2) (.tmp 26) rfl w.heap.size (aq 2 s' 0 0 (An AF 0 0)) rfl rfl 97 eG HR (cW _ _ _ _ _) rfl (kq _ _ _ _ _ _ _) ?_;refine Hid.out ?_);refine AI ?_;obtain⟨V3,cP⟩:=ag (wo.setRow w.heap.size (aq 2 s' 0 0 (An AF 0 0)));rw[<-cP];have R9:A' (ar V3 w.heap.size (aq 2 s' 0 0 (An AF 0 0)) 97):=by rw[cP];exact AI HR.setRow
   have X9:aa w V3:=by rw[cP];exact HX.trans ((bG wo w.heap.size _).mono fun x (hx:x<w.heap.size)=>by show x≠_;omega:ae (· <w.heap.size) wo _).below
   clear cP;go_wp2;obtain⟨m0,m1,m2,m3,m4,m5,m6,m7⟩:=R9.eight;exact DE (v:=B_ (aq 2 s' 0 0 (An AF 0 0))) (by simp[results,Tryz.results55,aq,go_sem,m0,m1,m2,m3,m4,m5,m6,m7]) rfl ⟨rfl,X9⟩
theorem Nz (p:Option MY) (n c:Nat) (w:Bm): ah 54 #[An p n c] w fun e w'=>e=AS (B_ (aq 4 0 0 0 (An p n c)))/\aa w w':=by
 rw[bP];go_enter Tryz.func54,Tryz.ntmps54;go_wp2;refine aQ ?_;intro V hV;have R1:A' (ar V w.heap.size #[As F_ 4,As AT 0,As AT 0,As AT 0,As AT 0,As AN 0,As AN 0,An p n c] 97):=by rw[hV];exact AI (ar.new _ _ _)
 have X1:A' (aa w V):=by rw[hV];exact AI ((Ext.refl w).alloc _).below
 clear hV;obtain⟨m0,m1,m2,m3,m4,m5,m6,m7⟩:=R1.eight;exact DE (v:=B_ #[As F_ 4,As AT 0,As AT 0,As AT 0,As AT 0,As AN 0,As AN 0,An p n c]) (by simp[results,Tryz.results54,go_sem,m0,m1,m2,m3,m4,m5,m6,m7]) rfl ⟨rfl,X1⟩
theorem NA (p:Option MY) (n c:Nat) (w:Bm): ah 58 #[An p n c] w fun e w'=>e=AS (B_ (aq 3 0 0 0 (An p n c)))/\aa w w':=by
 rw[bP];go_enter Tryz.func58,Tryz.ntmps58;go_wp2;refine aQ ?_;intro V hV;have R1:A' (ar V w.heap.size #[As F_ 3,As AT 0,As AT 0,As AT 0,As AT 0,As AN 0,As AN 0,An p n c] 97):=by rw[hV];exact AI (ar.new _ _ _)
 have X1:A' (aa w V):=by rw[hV];exact AI ((Ext.refl w).alloc _).below
 clear hV;obtain⟨m0,m1,m2,m3,m4,m5,m6,m7⟩:=R1.eight;exact DE (v:=B_ #[As F_ 3,As AT 0,As AT 0,As AT 0,As AT 0,As AN 0,As AN 0,An p n c]) (by simp[results,Tryz.results58,go_sem,m0,m1,m2,m3,m4,m5,m6,m7]) rfl ⟨rfl,X1⟩
theorem l6 (v:Bs) (t:RX) (F:Nat->Prop) (w:Bm) (hF:∀ x,F x->x<w.heap.size) (h:aH F w v t): ah 56 #[v] w fun e w'=>∃ b,e=AS (B_ #[As F_ 5,As AT 0,As AT 0,As AT 0,As AT 0,As AN 0,As AN (-1),An (AM ⟨b,0,AF⟩) 1 1])/\aH (fun x=>x<w'.heap.size/\(F x\/w.heap.size<=x)) w' (B_ #[As F_ 5,As AT 0,As AT 0,As AT 0,As AT 0,As AN 0,As AN (-1),An (AM ⟨b,0,AF⟩) 1 1]) (pI t)/\aa w w':=by
 obtain⟨p,c,rfl⟩:=h.form;have H:=AI h;obtain⟨k,hk⟩:=ag t.kind;obtain⟨nl,qE⟩:=ag t.subs.length;obtain⟨st,hst⟩:=ag t.set;obtain⟨tn,sK⟩:=ag t.mn;obtain⟨tx,J3⟩:=ag t.mx;rw[<-hk, <-qE, <-hst, <-sK, <-J3]at H ⊢;clear h hk qE hst sK J3;unfold aq;go_enter Tryz.func56,Tryz.ntmps56;go_wp2;refine aQ ?_;intro V hV;have B2:A' (ar V (w.heap.size+1+1) (aq k st tn tx (An p nl c)) 97):=by rw[hV];exact AI ((ar.new _ _ _).at (by simp))
 have R1:A' (ar V (w.heap.size+1) #[As F_ 5,As AT 0,As AT 0,As AT 0,As AT 0,As AN 0,As AN (-1),An (AM ⟨w.heap.size+1+1,0,AF⟩) 1 1] 97):=by rw[hV];exact AI (((ar.new _ _ _).at (by simp)).alloc _)
 have X1:A' (aa w V):=by rw[hV];exact AI ((((Ext.refl w).alloc _).alloc _).alloc _).below
 clear hV;obtain⟨m0,m1,m2,m3,m4,m5,m6,m7⟩:=R1.eight;refine DE (v:=B_ #[As F_ 5,As AT 0,As AT 0,As AT 0,As AT 0,As AN 0,As AN (-1),An (AM ⟨w.heap.size+1+1,0,AF⟩) 1 1]) (by simp[results,Tryz.results56,go_sem,m0,m1,m2,m3,m4,m5,m6,m7]) rfl ⟨_,rfl,?_,X1⟩;have e:=aH.one hF H X1 B2 (by omega) 5 0 0 (-1);rw[bP]at e;exact e
def kz (w:Bm):List Bs->List (List Int)->Prop
 | [],[]=>True
 | u::us,l::ll=>bw aG w u l/\kz w us ll
 | _,_=>False
theorem kz.len {w:Bm} :∀ {us:List Bs} {ll:List (List Int)},kz w us ll->us.length=ll.length
 | [],[],_=>rfl
 | u::us,l::ll,h=>by simp only[List.length_cons];rw[kz.len h.2]
 | [],_::_,h=>h.elim
 | _::_,[],h=>h.elim
theorem kz.at {w:Bm} :∀ {us:List Bs} {ll:List (List Int)},kz w us ll->∀ (i:Nat) (u:Bs) (l:List Int),us[i]? =AM u->ll[i]? =AM l->bw aG w u l
 | [],[],_,i,u,l,hu,_=>by simp at hu
 | x::us,y::ll,h,i,u,l,hu,hl=>by
  cases i with
  | zero=>
   simp at hu hl;subst hu hl;exact h.1
  | succ i=>exact kz.at h.2 i u l (by simpa using hu) (by simpa using hl)
 | [],_::_,h,_,_,_,_,_=>h.elim
 | _::_,[],h,_,_,_,_,_=>h.elim
theorem KC {w:Bm} {B n:Nat} {c:Array Bs} {t:It} (us:List Bs) {ll:List (List Int)} (h:ar w B c t) (hc:c.toList=us) (hn:n=us.length) (hr:kz w us ll):fy w (An (AM ⟨B,0,AF⟩) n n) ll:=by subst hn;exact⟨us,hr.len,Dv us h (by rw[hc];simp) rfl (aF _),hr.at⟩
theorem Jj {w:Bm} {B n:Nat} {c:Array Bs} {t:It} (l:List BS) (h:ar w B c t) (hc:c.toList=aL l) (hn:n=l.length):gF w (An (AM ⟨B,0,AF⟩) n n) l:=⟨GR l h hc hn,fun a n cap e=>by cases e;exact aF _⟩
theorem qs {w:Bm} {B n:Nat} {c:Array Bs} {t:It} (l:List Int) (h:ar w B c t) (hc:c.toList=l.map aG) (hn:n=l.length):bw aG w (An (AM ⟨B,0,AF⟩) n n) l:=by subst hn;exact Dv l h hc rfl (aF _)
theorem KD {w:Bm} :bw aG w (An AF 0 0) []:=.inl ⟨rfl,rfl⟩
theorem uJ (i:Nat) (hi:i<4):(wd (By 256) i).toNat=18446744073709551615:=by
 have h0:(wd (By 256) 0).toNat=18446744073709551615:=by kernel_rfl
 have h1:(wd (By 256) 1).toNat=18446744073709551615:=by kernel_rfl
 have h2:(wd (By 256) 2).toNat=18446744073709551615:=by kernel_rfl
 have h3:(wd (By 256) 3).toNat=18446744073709551615:=by kernel_rfl
 rcases(show i=0\/i=1\/i=2\/i=3 by omega)with rfl | rfl | rfl | rfl<;>assumption
theorem aH.grow {w W:Bm} {v:Bs} {t:RX} (h:aH (· <w.heap.size) w v t) (hk:aa w W):aH (· <W.heap.size) W v t:=(h.mF hk).mono fun _ hb=>ay hb hk.size
theorem aH.two {V:Bm} {b k1 n1 c1 k2 n2 c2:Nat} {s1 s2:BS} {a1 d1 a2 d2:Int} {p1 p2:Option MY} {t1 t2:RX} {ty:It} {C:Array Bs} (h1:aH (· <V.heap.size) V (B_ (aq k1 s1 a1 d1 (An p1 n1 c1))) t1) (h2:aH (· <V.heap.size) V (B_ (aq k2 s2 a2 d2 (An p2 n2 c2))) t2) (hB:ar V b C ty) (hC:C=aq k1 s1 a1 d1 (An p1 n1 c1)++aq k2 s2 a2 d2 (An p2 n2 c2)) (k:Nat): aH (· <V.heap.size) V (B_ (aq k 0 0 0 (An (AM ⟨b,0,AF⟩) 2 2))) (.nd k 0 0 0 [t1,t2]):=by
 have hz1:(aq k1 s1 a1 d1 (An p1 n1 c1)).size=8:=rfl;refine .mk k 0 0 0 [t1,t2] _ b 0 2 (fun i=>if i=0 then B_ (aq k1 s1 a1 d1 (An p1 n1 c1))else B_ (aq k2 s2 a2 d2 (An p2 n2 c2))) (fun e=>by cases e) (fun _=>⟨rfl,hB.lt,hB.lt,by simp⟩) (fun i x hi=>?_) (fun i x hi=>?_)
 ·match i,hi with
  | 0, hi => exact ⟨_, rfl, fun j u hj => by
    have hj8 : j < 8 := by rw [<- hz1]; exact (DS.1 hj).1
    have h5 := hB.cell j;rw [hC, Array.getElem?_append_left (by omega)] at h5
    simpa using h5.trans hj⟩
  | 1, hi => exact ⟨_, rfl, fun j u hj => by
    have h5 := hB.cell (8 + j);rw [hC, Array.getElem?_append_right (by omega), hz1, Nat.add_sub_cancel_left] at h5
    simpa using h5.trans hj⟩
  | i+2,hi=>simp at hi
 ·match i,hi with
  | 0,hi=>cases hi;exact h1
  | 1,hi=>cases hi;exact h2
  | i+2,hi=>simp at hi
theorem Jk (w:Bm): ah 57 #[] w fun e w'=>∃ a0 a1 a2,e=AS (B_ #[An a0 1 1,An a1 4 4,An a2 4 4])/\bV w' (B_ #[An a0 1 1,An a1 4 4,An a2 4 4]) ky/\aa w w':=by
 have o0:=uJ 0 (by decide);have o1:=uJ 1 (by decide);have o2:=uJ 2 (by decide);have o3:=uJ 3 (by decide);have HW:=AI (And.intro o0 (And.intro o1 (And.intro o2 o3)));clear o0 o1 o2 o3;go_enter Tryz.func57,Tryz.ntmps57;go_wp2;refine aQ ?_;intro V hV;have k0:ar V (w.heap.size) #[An (AM ⟨w.heap.size+1,0,AF⟩) 1 1,An (AM ⟨w.heap.size+1+1+1+1+1+1,0,AF⟩) 4 4,An (AM ⟨w.heap.size+1+1+1+1+1+1+1+1+1,0,AF⟩) 4 4] 29:=by rw[hV];exact(((((((((ar.new _ _ _).alloc _).alloc _).alloc _).alloc _).alloc _).alloc _).alloc _).alloc _).alloc _
 have k1:ar V (w.heap.size+1) #[As AT 18446744073709551615,As AT 18446744073709551615,As AT 18446744073709551615,As AT 18446744073709551615] 56:=by rw[hV];exact(((((((((ar.new _ _ _).at (by simp)).alloc _).alloc _).alloc _).alloc _).alloc _).alloc _).alloc _).alloc _
 have k2:ar V (w.heap.size+1+1) #[As AN 1] 3:=by rw[hV];exact((((((((ar.new _ _ _).at (by simp)).alloc _).alloc _).alloc _).alloc _).alloc _).alloc _).alloc _
 have k3:ar V (w.heap.size+1+1+1) #[As AN 0] 3:=by rw[hV];exact(((((((ar.new _ _ _).at (by simp)).alloc _).alloc _).alloc _).alloc _).alloc _).alloc _
 have k4:ar V (w.heap.size+1+1+1+1) #[As AN 3] 3:=by rw[hV];exact((((((ar.new _ _ _).at (by simp)).alloc _).alloc _).alloc _).alloc _).alloc _
 have k5:ar V (w.heap.size+1+1+1+1+1) #[As AN 2] 3:=by rw[hV];exact(((((ar.new _ _ _).at (by simp)).alloc _).alloc _).alloc _).alloc _
 have k6:ar V (w.heap.size+1+1+1+1+1+1) #[An (AM ⟨w.heap.size+1+1,0,AF⟩) 1 1,An (AM ⟨w.heap.size+1+1+1,0,AF⟩) 1 1,An (AM ⟨w.heap.size+1+1+1+1,0,AF⟩) 1 1,An (AM ⟨w.heap.size+1+1+1+1+1,0,AF⟩) 1 1] 39:=by rw[hV];exact((((ar.new _ _ _).at (by simp)).alloc _).alloc _).alloc _
 have k7:ar V (w.heap.size+1+1+1+1+1+1+1) #[As AN 0] 3:=by rw[hV];exact(((ar.new _ _ _).at (by simp)).alloc _).alloc _
 have k8:ar V (w.heap.size+1+1+1+1+1+1+1+1) #[As AN 0] 3:=by rw[hV];exact((ar.new _ _ _).at (by simp)).alloc _
 have k9:ar V (w.heap.size+1+1+1+1+1+1+1+1+1) #[An AF 0 0,An (AM ⟨w.heap.size+1+1+1+1+1+1+1,0,AF⟩) 1 1,An AF 0 0,An (AM ⟨w.heap.size+1+1+1+1+1+1+1+1,0,AF⟩) 1 1] 39:=by rw[hV];exact(ar.new _ _ _).at (by simp)
 have X1:A' (aa w V):=by rw[hV];exact AI (((((((((((Ext.refl w).alloc _).alloc _).alloc _).alloc _).alloc _).alloc _).alloc _).alloc _).alloc _).alloc _).below
 clear hV;obtain⟨o0,o1,o2,o3⟩:=HW.out
 have hdf:bV V (B_ #[An (AM ⟨w.heap.size+1,0,AF⟩) 1 1,An (AM ⟨w.heap.size+1+1+1+1+1+1,0,AF⟩) 4 4,An (AM ⟨w.heap.size+1+1+1+1+1+1+1+1+1,0,AF⟩) 4 4]) ky:=⟨_,_,_,rfl,Jj [By 256] k1 (by
   show _=[As AT (wd (By 256) 0).toNat,As AT (wd (By 256) 1).toNat,As AT (wd (By 256) 2).toNat,As AT (wd (By 256) 3).toNat]
   rw[o0,o1,o2,o3];rfl) rfl,
  KC [An (AM ⟨w.heap.size+1+1,0,AF⟩) 1 1,An (AM ⟨w.heap.size+1+1+1,0,AF⟩) 1 1,An (AM ⟨w.heap.size+1+1+1+1,0,AF⟩) 1 1,An (AM ⟨w.heap.size+1+1+1+1+1,0,AF⟩) 1 1] k6 rfl rfl ⟨qs [1] k2 rfl rfl,qs [0] k3 rfl rfl,qs [3] k4 rfl rfl,qs [2] k5 rfl rfl,trivial⟩,
  KC [An AF 0 0,An (AM ⟨w.heap.size+1+1+1+1+1+1+1,0,AF⟩) 1 1,An AF 0 0,An (AM ⟨w.heap.size+1+1+1+1+1+1+1+1,0,AF⟩) 1 1] k9 rfl rfl ⟨KD,qs [0] k7 rfl rfl,KD,qs [0] k8 rfl rfl,trivial⟩⟩
 obtain⟨⟨m0,m1,m2⟩,_⟩:=k0.three;exact DE (v:=B_ #[An (AM ⟨w.heap.size+1,0,AF⟩) 1 1,An (AM ⟨w.heap.size+1+1+1+1+1+1,0,AF⟩) 4 4,An (AM ⟨w.heap.size+1+1+1+1+1+1+1+1+1,0,AF⟩) 4 4]) (by simp[results,Tryz.results57,go_sem,m0,m1,m2]) rfl ⟨_,_,_,rfl,hdf,X1⟩
theorem Ch {w:Bm} {p:MY} {v:Bs} (h:w.cell? p=AM v):p.block<w.heap.size:=by
 unfold World.cell? at h;split at h
 ·rename_i hb;exact(DS.1 hb).1
 ·cases h
theorem uK {t:RX} (h:(t.pre.all fun x=>x.cZ)=Cd):t.fine:=fun x hx=>List.all_eq_true.1 h x hx
theorem SZ:((C_ ky.nx.length).map fun s=>cK (fS ky s))=[0,1,0,1].map aG:=by have h:(C_ ky.nx.length).map (fS ky)=[0,1,0,1]:=SG;rw[show((C_ ky.nx.length).map fun s=>cK (fS ky s))=((C_ ky.nx.length).map (fS ky)).map cK by rw[List.map_map];rfl,h];rfl
theorem zY {W:Bm} {a:Option MY} {c:Nat} (h:bw en W (An a 1 c) [97]):(convert 44 9 (An a 1 c)).run FG W=.ok (Ly ⟨#[97]⟩) W:=by
 rcases h with⟨e,h⟩ | ⟨g,off,cap,e,hg,mD,hc⟩
 ·cases h
 ·cases e
  exact Lib.run_convert_whole W 44 5 9 GB Lw Lo g off ⟨#[97]⟩ (fun i hi=>by
   obtain rfl:i=0:=by have:i<1:=hi;omega
   exact hc 0 97 rfl) c
theorem Jl {l:List Int} (hn:l.length<=1000000) (W:Bm) (u v:Bs) (h:bw aG W u l) (h':bw aG W v l):ah 33 #[u,v] W fun e w'=>e=AS (D0 Cd)/\aa W w':=(s6 u v l l W h h' hn).mono fun e w' ⟨he,hx⟩=>by
 rw[beq_self_eq_true]at he;exact⟨he,hx.below⟩
theorem jY {w W:Bm} {p:MY} {v:Bs} (hb:aa w W) (h:w.cell? p=AM v):W.cell? p=AM v:=((ae.aj hb fun _ h=>h:ae (· <w.heap.size) w W).cell (Ch h)).trans h
theorem FX (w:Bm) (hT:∀ W,aa w W->nB W): ah 10 #[] w fun e w'=>e=AS (D0 Cd)/\aa w w':=by
 have TT:A' (∀ A,aa w A->∀ V,aa A V->nB V):=AI fun A hA V hV=>hT V (hA.trans (hV.mono hA.size))
 obtain⟨sa,Jw⟩:=ag (yy [97]);obtain⟨sb,mi⟩:=ag (yy [98]);obtain⟨l2,hl2⟩:=ag ((dJ FQ).mr.length);have CA:A' (∀ W,ah 55 #[Ly ⟨#[97]⟩] W fun e w'=>e=AS (B_ #[As F_ 2,As AT (wd sa 0).toNat,As AT (wd sa 1).toNat,As AT (wd sa 2).toNat,As AT (wd sa 3).toNat,As AN 0,As AN 0,An AF 0 0])/\aa W w'):=AI fun W=>by rw[Jw];exact tU ⟨#[97]⟩ [97] rfl (by decide) W
 have CB:A' (∀ W,ah 55 #[Ly ⟨#[98]⟩] W fun e w'=>e=AS (B_ #[As F_ 2,As AT (wd sb 0).toNat,As AT (wd sb 1).toNat,As AT (wd sb 2).toNat,As AT (wd sb 3).toNat,As AN 0,As AN 0,An AF 0 0])/\aa W w'):=AI fun W=>by rw[mi];exact tU ⟨#[98]⟩ [98] rfl (by decide) W
 have LFA:A' (∀ W,aH (· <W.heap.size) W (B_ (aq 2 sa 0 0 (An AF 0 0))) (uw [97])):=AI fun W=>by rw[Jw];exact aH.leaf (· <W.heap.size) W 2 (yy [97]) 0 0 AF 0
 have LFB:A' (∀ W,aH (· <W.heap.size) W (B_ (aq 2 sb 0 0 (An AF 0 0))) (uw [98])):=AI fun W=>by rw[mi];exact aH.leaf (· <W.heap.size) W 2 (yy [98]) 0 0 AF 0
 have AL:A' (∀ (W:Bm) (b:MY),ah 54 #[An (AM b) 2 2] W fun e w'=>e=AS (B_ #[As F_ 4,As AT 0,As AT 0,As AT 0,As AT 0,As AN 0,As AN 0,An (AM b) 2 2])/\aa W w'):=AI fun W b=>by have h:=Nz (AM b) 2 2 W;rw[bP]at h;exact h
 have KT:A' (∀ (W:Bm) (b:MY),ah 58 #[An (AM b) 2 2] W fun e w'=>e=AS (B_ #[As F_ 3,As AT 0,As AT 0,As AT 0,As AT 0,As AN 0,As AN 0,An (AM b) 2 2])/\aa W w'):=AI fun W b=>by have h:=NA (AM b) 2 2 W;rw[bP]at h;exact h
 have O1:A' (∀ W v,aa w W->aH (· <W.heap.size) W v FP->ah 53 #[v,D0 Cd,As AN 9] W (rD 3 4 4 0 Nx W)):=AI fun W v hW hv=>ku v FP (uK (by kernel_rfl)) (by decide) (by decide) Cd 9 aef rfl rfl rfl W hv fun V hV=>TT W hW V hV
 have O2:A' (∀ W v,aa w W->aH (· <W.heap.size) W v VE->ah 53 #[v,D0 GS,As AN 99] W (rD 3 3 3 0 FQ W)):=AI fun W v hW hv=>ku v VE (uK (by kernel_rfl)) (by decide) (by decide) GS 99 aeg rfl rfl rfl W hv fun V hV=>TT W hW V hV
 have O3:A' (∀ W v,aa w W->aH (· <W.heap.size) W v (pI (uw [97]))->ah 53 #[v,D0 Cd,As AN 9] W (rD 2 3 3 0 SY W)):=AI fun W v hW hv=>ku v (pI (uw [97])) (uK (by kernel_rfl)) (by decide) (by decide) Cd 9 aeh rfl rfl rfl W hv fun V hV=>TT W hW V hV
 have O4:A' (∀ W v,aa w W->aH (· <W.heap.size) W v (pI (VD [97,97]))->ah 53 #[v,D0 Cd,As AN 9] W (rD 2 4 4 0 FT W)):=AI fun W v hW hv=>ku v tAA (uK (by kernel_rfl)) (by decide) (by decide) Cd 9 aap rfl rfl rfl W hv fun V hV=>TT W hW V hV
 have CS:A' (∀ W v,bV W v Nx->ah 14 #[v] W fun e w'=>e=AS (G' #[As AN 3,As AN 2,As AN 0])/\aa W w'):=AI fun W v hv=>SF ((cX _).1 aei) Xa.2.symm Xa.1.symm rfl W v hv
 have CM:A' (∀ W v,bV W v FQ->ah 12 #[v] W (rD 1 1 l2 0 (dJ FQ) W)):=AI fun W v hv=>Nn ((cX _).1 aej) Xb.2.symm Xb.1.symm hl2 W v hv
 have FO:A' (∀ W,ah 57 #[] W fun e w'=>(∃ a0 a1 a2,e=AS (B_ #[An a0 1 1,An a1 4 4,An a2 4 4])/\bV w' (B_ #[An a0 1 1,An a1 4 4,An a2 4 4]) ky)/\aa W w'):=AI fun W=>(Jk W).mono fun e w' ⟨a0,a1,a2,h1,h2,h3⟩=>⟨⟨a0,a1,a2,h1,h2⟩,h3⟩
 have BK:A' (∀ W v,bV W v ky->ah 36 #[v] W fun e w'=>∃ a c,e=AS (G' #[An a 4 c,As AN 0])/\w'.ownsRow W.heap.size 3 1 (An a 4 c) 4 ([0,1,0,1].map aG)/\aa W w'):=AI fun W v hv=>(xp ((cX _).1 aar) W v hv).mono fun e w' ⟨a,c,h1,h2,h3⟩=>⟨a,c,h1,SZ▸h2,h3⟩
 have CE:A' (∀ W v v',bV W v SY->bV W v' FT->ah 32 #[v,v'] W fun e w'=>∃ a c,e=AS (G' #[An a 1 c,D0 GS,As AN 0])/\bw en w' (An a 1 c) [97]/\aa W w'):=AI fun W v v' hv hv'=>by
  have h:=Nw ((cX _).1 aek) ((cX _).1 aaq) (by decide) W v v' hv hv';unfold SS at h;rw[p_a]at h;exact h
 have X:A' (aa w w):=AI (Below.refl _ _);clear Jw mi hl2 hT TT;go_enter Tryz.func10,Tryz.ntmps10;go_wp2_with fail
 refine(CA w).mono ?_;rintro e w1 ⟨rfl,hx⟩;replace X:=AI (X.trans (hx.mono X.size));clear hx;go_wp2_with fail
 refine(CB w1).mono ?_;rintro e w2 ⟨rfl,hx⟩;replace X:=AI (X.trans (hx.mono X.size));clear hx;go_wp2_with fail
 refine aK ?_;intro V1 hV;have hb:aa w2 V1:=by rw[hV];exact((Ext.refl w2).alloc _).below
 have kb:ar V1 w2.heap.size #[As F_ 2,As AT (wd sa 0).toNat,As AT (wd sa 1).toNat,As AT (wd sa 2).toNat,As AT (wd sa 3).toNat,As AN 0,As AN 0,An AF 0 0,As F_ 2,As AT (wd sb 0).toNat,As AT (wd sb 1).toNat,As AT (wd sb 2).toNat,As AT (wd sb 3).toNat,As AN 0,As AN 0,An AF 0 0] 97:=by rw[hV];exact ar.new _ _ _
 replace X:=AI (X.trans (hb.mono X.size));have KB:=AI kb;clear hb kb hV;have T1:A' (aH (· <V1.heap.size) V1 (B_ #[As F_ 4,As AT 0,As AT 0,As AT 0,As AT 0,As AN 0,As AN 0,An (AM ⟨w2.heap.size,0,AF⟩) 2 2]) FP):=AI (by have h5:=aH.two (LFA V1) (LFB V1) KB rfl 4;rw[bP]at h5;exact h5);clear KB;refine(AL V1 _).mono ?_;rintro e w3 ⟨rfl,hx⟩;replace X:=AI (X.trans (hx.mono X.size));replace T1:=AI (T1.grow hx);clear hx;go_wp2_with fail
 refine(O1 w3 _ X T1).mono ?_;rintro e w4 ⟨da1,dc1,db1,de1,dg1,dh1,rfl,hd,hx⟩;clear T1;replace X:=AI (X.trans (hx.mono X.size));have D1:=AI hd.df;clear hd hx;go_wp2_with fail
 refine aK ?_;intro V2 hV;have hb:aa w4 V2:=by rw[hV];exact((Ext.refl w4).alloc _).below
 have kb:ar V2 w4.heap.size #[An da1 3 dc1,An db1 4 de1,An dg1 4 dh1] 29:=by rw[hV];exact ar.new _ _ _
 replace X:=AI (X.trans (hb.mono X.size));replace D1:=AI (D1.below hb);have B1:=AI kb;clear hb kb hV;refine(CS V2 _ D1).mono ?_;rintro e w5 ⟨rfl,hx⟩;replace X:=AI (X.trans (hx.mono X.size));replace D1:=AI (D1.below hx);replace B1:=AI (B1.below hx B1.lt);clear hx;clear D1;go_wp2_with fail
 refine(CA w5).mono ?_;rintro e w6 ⟨rfl,hx⟩;replace X:=AI (X.trans (hx.mono X.size));replace B1:=AI (B1.below hx B1.lt);clear hx;go_wp2_with fail
 refine(CB w6).mono ?_;rintro e w7 ⟨rfl,hx⟩;replace X:=AI (X.trans (hx.mono X.size));replace B1:=AI (B1.below hx B1.lt);clear hx;go_wp2_with fail
 refine aK ?_;intro V3 hV;have hb:aa w7 V3:=by rw[hV];exact((Ext.refl w7).alloc _).below
 have kb:ar V3 w7.heap.size #[As F_ 2,As AT (wd sa 0).toNat,As AT (wd sa 1).toNat,As AT (wd sa 2).toNat,As AT (wd sa 3).toNat,As AN 0,As AN 0,An AF 0 0,As F_ 2,As AT (wd sb 0).toNat,As AT (wd sb 1).toNat,As AT (wd sb 2).toNat,As AT (wd sb 3).toNat,As AN 0,As AN 0,An AF 0 0] 97:=by rw[hV];exact ar.new _ _ _
 replace X:=AI (X.trans (hb.mono X.size));replace B1:=AI (B1.below hb B1.lt);have KB:=AI kb;clear hb kb hV;have T2:A' (aH (· <V3.heap.size) V3 (B_ #[As F_ 4,As AT 0,As AT 0,As AT 0,As AT 0,As AN 0,As AN 0,An (AM ⟨w7.heap.size,0,AF⟩) 2 2]) FP):=AI (by have h5:=aH.two (LFA V3) (LFB V3) KB rfl 4;rw[bP]at h5;exact h5);clear KB;refine(AL V3 _).mono ?_;rintro e w8 ⟨rfl,hx⟩;replace X:=AI (X.trans (hx.mono X.size));replace B1:=AI (B1.below hx B1.lt);replace T2:=AI (T2.grow hx);clear hx;go_wp2_with fail
 refine(l6 _ FP _ w8 (fun _ h=>h) T2).mono ?_;rintro e w9 ⟨bs1,rfl,ht,hx⟩;clear T2;replace X:=AI (X.trans (hx.mono X.size));replace B1:=AI (B1.below hx B1.lt);have T3:=AI (ht.mono fun b (hb:b<w9.heap.size/\_)=>hb.1);clear ht hx;go_wp2_with fail
 refine(CA w9).mono ?_;rintro e oU ⟨rfl,hx⟩;replace X:=AI (X.trans (hx.mono X.size));replace B1:=AI (B1.below hx B1.lt);replace T3:=AI (T3.grow hx);clear hx;go_wp2_with fail
 refine(l6 _ (uw [97]) _ oU (fun _ h=>h) (LFA oU)).mono ?_;rintro e w11 ⟨bs,rfl,ht,hx⟩;replace X:=AI (X.trans (hx.mono X.size));replace B1:=AI (B1.below hx B1.lt);replace T3:=AI (T3.grow hx);have T4:=AI (ht.mono fun b (hb:b<w11.heap.size/\_)=>hb.1);clear ht hx;go_wp2_with fail
 refine aK ?_;intro V4 hV;have hb:aa w11 V4:=by rw[hV];exact((Ext.refl w11).alloc _).below
 have kb:ar V4 w11.heap.size #[As F_ 5,As AT 0,As AT 0,As AT 0,As AT 0,As AN 0,As AN (-1),An (AM ⟨bs1,0,AF⟩) 1 1,As F_ 5,As AT 0,As AT 0,As AT 0,As AT 0,As AN 0,As AN (-1),An (AM ⟨bs,0,AF⟩) 1 1] 97:=by rw[hV];exact ar.new _ _ _
 replace X:=AI (X.trans (hb.mono X.size));replace B1:=AI (B1.below hb B1.lt);replace T3:=AI (T3.grow hb);replace T4:=AI (T4.grow hb);have KB:=AI kb;clear hb kb hV;have u1:aH (· <V4.heap.size) V4 (B_ (aq 5 0 0 (-1) (An (AM ⟨bs1,0,AF⟩) 1 1))) (pI FP):=by rw[bP];exact T3
 have u2:aH (· <V4.heap.size) V4 (B_ (aq 5 0 0 (-1) (An (AM ⟨bs,0,AF⟩) 1 1))) (pI (uw [97])):=by rw[bP];exact T4
 have T5:A' (aH (· <V4.heap.size) V4 (B_ #[As F_ 4,As AT 0,As AT 0,As AT 0,As AT 0,As AN 0,As AN 0,An (AM ⟨w11.heap.size,0,AF⟩) 2 2]) VE):=AI (by have h5:=aH.two u1 u2 KB (by rw[bP,bP];rfl) 4;rw[bP]at h5;exact h5);clear u1 u2;clear KB;refine(AL V4 _).mono ?_;rintro e w12 ⟨rfl,hx⟩;replace X:=AI (X.trans (hx.mono X.size));replace B1:=AI (B1.below hx B1.lt);replace T3:=AI (T3.grow hx);replace T4:=AI (T4.grow hx);replace T5:=AI (T5.grow hx);clear hx;clear T3;clear T4;go_wp2_with fail
 refine(O2 w12 _ X T5).mono ?_;rintro e w13 ⟨da2,dc2,db2,de2,dg2,dh2,rfl,hd,hx⟩;clear T5;replace X:=AI (X.trans (hx.mono X.size));replace B1:=AI (B1.below hx B1.lt);have D2:=AI hd.df;clear hd hx;go_wp2_with fail
 refine aK ?_;intro V5 hV;have hb:aa w13 V5:=by rw[hV];exact((Ext.refl w13).alloc _).below
 have kb:ar V5 w13.heap.size #[An da2 3 dc2,An db2 3 de2,An dg2 3 dh2] 29:=by rw[hV];exact ar.new _ _ _
 replace X:=AI (X.trans (hb.mono X.size));replace B1:=AI (B1.below hb B1.lt);replace D2:=AI (D2.below hb);have B2:=AI kb;clear hb kb hV;refine(CM V5 _ D2).mono ?_;rintro e w14 ⟨la,lc,lb,le,lg,lh,rfl,hd,hx⟩;clear D2;clear B2;replace X:=AI (X.trans (hx.mono X.size));replace B1:=AI (B1.below hx B1.lt);clear hd hx;obtain⟨⟨i0,i1,i2⟩,_⟩:=B1.three;clear B1;go_upto_region 5 with fail
 refine aw ?_;intro V5 hV;have hb:aa w14 V5:=by rw[hV];exact((Ext.refl w14).alloc _).below
 have kb:ar V5 w14.heap.size #[An la 1 lc,An lb 1 le,An lg l2 lh] 29:=by rw[hV];exact ar.new _ _ _
 replace i0:=(jY hb i0);replace i1:=(jY hb i1);replace X:=AI (X.trans (hb.mono X.size));obtain⟨⟨j0,j1,j2⟩,_⟩:=kb.three;clear hb kb hV i2 j2;go_wp2_with fail
 refine(FO V5).mono ?_;rintro e w15 ⟨⟨fa,fb,fc,rfl,hd⟩,hx⟩;replace X:=AI (X.trans (hx.mono X.size));have D3:=AI hd;clear hd;clear hx;clear i0 i1 j0 j1;go_wp2_with fail
 refine(BK w15 _ D3).mono ?_;rintro e w16 ⟨pa,pc,rfl,hp,hx⟩;clear D3;replace X:=AI (X.trans (hx.mono X.size));have PR:=AI hp;clear hp hx;go_wp2_with fail
 refine(CA w16).mono ?_;rintro e w17 ⟨rfl,hx⟩;replace X:=AI (X.trans (hx.mono X.size));replace PR:=AI (ai PR hx);clear hx;go_wp2_with fail
 refine(l6 _ (uw [97]) _ w17 (fun _ h=>h) (LFA w17)).mono ?_;rintro e w18 ⟨bs,rfl,ht,hx⟩;replace X:=AI (X.trans (hx.mono X.size));replace PR:=AI (ai PR hx);have T6:=AI (ht.mono fun b (hb:b<w18.heap.size/\_)=>hb.1);clear ht hx;go_wp2_with fail
 refine(O3 w18 _ X T6).mono ?_;rintro e w19 ⟨da4,dc4,db4,de4,dg4,dh4,rfl,hd,hx⟩;clear T6;replace X:=AI (X.trans (hx.mono X.size));replace PR:=AI (ai PR hx);have D4:=AI hd.df;clear hd hx;go_wp2_with fail
 refine aK ?_;intro V6 hV;have hb:aa w19 V6:=by rw[hV];exact((Ext.refl w19).alloc _).below
 have kb:ar V6 w19.heap.size #[An da4 2 dc4,An db4 3 de4,An dg4 3 dh4] 29:=by rw[hV];exact ar.new _ _ _
 replace X:=AI (X.trans (hb.mono X.size));replace PR:=AI (ai PR hb);replace D4:=AI (D4.below hb);have B4:=AI kb;clear hb kb hV;refine(CA V6).mono ?_;rintro e w20 ⟨rfl,hx⟩;replace X:=AI (X.trans (hx.mono X.size));replace PR:=AI (ai PR hx);replace D4:=AI (D4.below hx);replace B4:=AI (B4.below hx B4.lt);clear hx;go_wp2_with fail
 refine(CA w20).mono ?_;rintro e w21 ⟨rfl,hx⟩;replace X:=AI (X.trans (hx.mono X.size));replace PR:=AI (ai PR hx);replace D4:=AI (D4.below hx);replace B4:=AI (B4.below hx B4.lt);clear hx;go_wp2_with fail
 refine aK ?_;intro V7 hV;have hb:aa w21 V7:=by rw[hV];exact((Ext.refl w21).alloc _).below
 have kb:ar V7 w21.heap.size #[As F_ 2,As AT (wd sa 0).toNat,As AT (wd sa 1).toNat,As AT (wd sa 2).toNat,As AT (wd sa 3).toNat,As AN 0,As AN 0,An AF 0 0,As F_ 2,As AT (wd sa 0).toNat,As AT (wd sa 1).toNat,As AT (wd sa 2).toNat,As AT (wd sa 3).toNat,As AN 0,As AN 0,An AF 0 0] 97:=by rw[hV];exact ar.new _ _ _
 replace X:=AI (X.trans (hb.mono X.size));replace PR:=AI (ai PR hb);replace D4:=AI (D4.below hb);replace B4:=AI (B4.below hb B4.lt);have KB:=AI kb;clear hb kb hV;have T7:A' (aH (· <V7.heap.size) V7 (B_ #[As F_ 3,As AT 0,As AT 0,As AT 0,As AT 0,As AN 0,As AN 0,An (AM ⟨w21.heap.size,0,AF⟩) 2 2]) (VD [97,97])):=AI (by have h5:=aH.two (LFA V7) (LFA V7) KB rfl 3;rw[bP]at h5;exact h5);clear KB;refine(KT V7 _).mono ?_;rintro e w22 ⟨rfl,hx⟩;replace X:=AI (X.trans (hx.mono X.size));replace PR:=AI (ai PR hx);replace D4:=AI (D4.below hx);replace B4:=AI (B4.below hx B4.lt);replace T7:=AI (T7.grow hx);clear hx;go_wp2_with fail
 refine(l6 _ (VD [97,97]) _ w22 (fun _ h=>h) T7).mono ?_;rintro e w23 ⟨bs,rfl,ht,hx⟩;clear T7;replace X:=AI (X.trans (hx.mono X.size));replace PR:=AI (ai PR hx);replace D4:=AI (D4.below hx);replace B4:=AI (B4.below hx B4.lt);have T8:=AI (ht.mono fun b (hb:b<w23.heap.size/\_)=>hb.1);clear ht hx;go_wp2_with fail
 refine(O4 w23 _ X T8).mono ?_;rintro e w24 ⟨da5,dc5,db5,de5,dg5,dh5,rfl,hd,hx⟩;clear T8;replace X:=AI (X.trans (hx.mono X.size));replace PR:=AI (ai PR hx);replace D4:=AI (D4.below hx);replace B4:=AI (B4.below hx B4.lt);have D5:=AI hd.df;clear hd hx;obtain⟨⟨g0,g1,g2⟩,_⟩:=B4.three;go_upto_region 10 with fail
 refine aw ?_;intro V8 hV;have hb:aa w24 V8:=by rw[hV];exact((Ext.refl w24).alloc _).below
 have kb:ar V8 w24.heap.size #[An da5 2 dc5,An db5 4 de5,An dg5 4 dh5] 29:=by rw[hV];exact ar.new _ _ _
 replace g0:=jY hb g0;replace g1:=jY hb g1;replace g2:=jY hb g2;replace X:=AI (X.trans (hb.mono X.size));replace PR:=AI (ai PR hb);replace D4:=AI (D4.below hb);replace D5:=AI (D5.below hb);obtain⟨⟨h0,h1,h2⟩,_⟩:=kb.three;clear hb kb hV B4;go_wp2_with fail
 refine(CE V8 _ _ D4 D5).mono ?_;rintro e w25 ⟨qa,qc,rfl,hp,hx⟩;clear D4;clear D5;replace X:=AI (X.trans (hx.mono X.size));replace PR:=AI (ai PR hx);have QR:=AI hp;clear hp hx g0 g1 g2 h0 h1 h2;have hst:=zY QR;go_wp2_with fail
 refine aK ?_;intro V9 hV;have hb:aa w25 V9:=by rw[hV];exact((Ext.refl w25).alloc _).below
 have kb:ar V9 w25.heap.size #[As AN 0,As AN 1,As AN 0,As AN 1] 3:=by rw[hV];exact ar.new _ _ _
 replace X:=AI (X.trans (hb.mono X.size));replace PR:=AI (ai PR hb);replace QR:=AI (QR.below hb);have h01:=qs [0,1,0,1] kb rfl rfl;clear hb kb hV hst;refine(Jl (l:=[0,1,0,1]) (by decide) V9 _ _ (bU (l:=[0,1,0,1]) PR rfl) h01).mono ?_;rintro e w26 ⟨rfl,hx⟩;clear PR;replace X:=AI (X.trans (hx.mono X.size));replace QR:=AI (QR.below hx);clear hx h01;have hst:=zY QR;have hs2:((⟨#[97]⟩:ByteArray)==⟨#[97]⟩)=true:=by kernel_rfl
 go_wp2;go_ret;exact⟨rfl,X⟩
theorem aeB {s:BS} (h1:(aV s).2=Cd) (h2:1<(bK s 256).length):(aV s).1<256/\abf (aV s).1≠0/\s&&& ~~~abf (aV s).1≠0/\qO (abf (aV s).1) (s&&& ~~~abf (aV s).1)/\∀ x,s.getLsbD x=Cd↔(abf (aV s).1).getLsbD x=Cd\/(s&&& ~~~abf (aV s).1).getLsbD x=true:=by
 rcases qK s with⟨h3,_⟩ | ⟨_,hf,hb,_⟩
 ·rw[h3]at h1;cases h1
 have hm:∀ d,d∈bK s 256->d<256/\s.getLsbD d=true:=fun d hd=>by
  unfold bK at hd;rw[List.mem_filter,IF]at hd;exact hd
 have hex:∃ d,d<256/\s.getLsbD d=Cd/\d≠(aV s).1:=by
  have VI:(bK s 256).Nodup:=List.nodup_range.sublist (List.filter_sublist);cases hl:bK s 256 with
  | nil=>rw[hl]at h2;simp at h2
  | cons c r=>
   have hc:(aV s).1=c:=by unfold aV;rw[hl]
   cases r with
   | nil=>rw[hl]at h2;simp at h2
   | cons d r=>
    have hd:=hm d (by rw[hl];simp);rw[hl]at VI;refine⟨d,hd.1,hd.2,fun e=>?_⟩;rw[List.nodup_cons]at VI;exact VI.1 (by rw[<-hc, <-e];simp)
 have iC:∀ x,(s&&& ~~~abf (aV s).1).getLsbD x=(s.getLsbD x&& !(abf (aV s).1).getLsbD x):=fun x=>by
  rw[BitVec.getLsbD_and,BitVec.getLsbD_not];by_cases hx:x<256
  ·simp[hx]
  ·rw[FF s x (by omega)];simp
 refine⟨hf,aeJ hf,fun e=>?_,fun c hc=>?_,fun x=>?_⟩
 ·obtain⟨d,hd,Yp,hd3⟩:=hex
  have h5:=iC d;rw[e,Yp]at h5;have h6:(abf (aV s).1).getLsbD d=false:=by
   cases h7:(abf (aV s).1).getLsbD d with
   | false=>rfl
   | true=>exact absurd ((abv hd).1 h7) hd3
  rw[h6]at h5;simp at h5
 ·rw[iC c]at hc
  have:=hc.1;rw[this]at hc;simp at hc
 ·rw[iC x]
  by_cases hx:x<256
  ·constructor
   ·intro hs
    cases h7:(abf (aV s).1).getLsbD x with
    | true=>exact .inl rfl
    | false=>right;rw[hs];rfl
   ·rintro(h | h)
    ·rw[(abv hx).1 h];exact hb
    ·rw[H_]at h;exact h.1
  ·constructor
   ·intro h;rw[FF s x (by omega)]at h;cases h
   ·rintro(h | h)
    ·rw[FF _ x (by omega)]at h;cases h
    ·rw[H_]at h;exact h.1
def acw (a:DF) (k:Nat) (one rest:BS):List BS:=(C_ (a.cl.length+1)).map (clP a k one rest)
theorem aeC {a:DF} {k:Nat} {one rest:BS} {j:Nat} (h:j<a.cl.length+1):(acw a k one rest).getD j 0=clP a k one rest j:=by unfold acw;exact getD_some (by rw[aN,IN h];rfl)
theorem aeD (a:DF) (k:Nat) (one rest:BS):(acw a k one rest).length=a.cl.length+1:=by unfold acw;rw[aP,Kx]
theorem adt {a:DF} {k:Nat} {one rest:BS} {o:List Nat} (hp:o.Perm (C_ (a.cl.length+1))) (hs:(o.map fun j=>(acw a k one rest).getD j 0).Pairwise fun x y=>(!ltOf aW y x)=Cd):adJ a (aeL a (acw a k one rest) o k) k one rest o:=by
 have e:(o.map fun j=>(acw a k one rest).getD j 0)=o.map (clP a k one rest):=List.map_congr_left fun j hj=>aeC (IF.1 (hp.mem_iff.1 hj))
 exact⟨hp,by rw[<-e];exact hs,e,rfl,rfl⟩
theorem adw {n0 K g cap:Nat} {e:It} {L1 L2:List Bs} {cs:Array Bs} (hcs:cs.size=4) {W W':Bm} (hK:1<=K) (ho:W.ownsRow n0 e 4 (An (AM ⟨g,0,AF⟩) K cap) K L1) (mL:W'.ownsRow n0 e 4 (An (AM ⟨g,0,AF⟩) (K+1) cap) (K+1) (L1++L2)) (hg:W.grownBy W' (AM g)) {b:Nat} (h:ar W b cs e):ar W' b cs e:=by
 by_cases e2:b=g
 ·subst e2
  rcases ho.2 with⟨h1,_⟩ | ⟨g1,c1,Yd,h1,_,f1,_,_,s1,_⟩
  ·cases h1
  ·cases h1
   rcases mL.2 with⟨h2,_⟩ | ⟨g2,c2,Lm,h2,_,f2,k2,_,s2,_⟩
   ·cases h2
   ·cases h2
    unfold ar at h;rw[h]at f1;cases f1;omega
 ·unfold ar
  rw[hg.block b h.lt (fun e3=>e2 (by cases e3;rfl))];exact h
def abM (n0 K:Nat) (L1:List Bs) (s:BS):Nat->Bs->Bm->Prop
 | 0,v,W=>W.ownsRow n0 56 4 v K L1
 | 1,v,W=>W.ownsRow n0 56 4 v (K+1) (L1++(encS s).toList)
 | 2,v,W=>∀ b,v=An (AM ⟨b,0,AF⟩) 1 1->ar W b (encS s) 56
 | _,_,_=>True
theorem abd (n0 K:Nat) (L1:List Bs) (s:BS):∀ i v A B,aa A B->abM n0 K L1 s i v A->abM n0 K L1 s i v B
 | 0,_,_,_,hb,h=>ai (show World.ownsRow _ _ _ _ _ _ _ from h) hb
 | 1,_,_,_,hb,h=>ai (show World.ownsRow _ _ _ _ _ _ _ from h) hb
 | 2,_,_,_,hb,h=>fun b e=>(h b e).below hb (h b e).lt
 | _+3,_,_,_,_,_=>trivial
theorem acz {n0 K g cap:Nat} {L1:List Bs} {s:BS} {W W':Bm} (hK:1<=K) (ho:W.ownsRow n0 56 4 (An (AM ⟨g,0,AF⟩) K cap) K L1) (mL:W'.ownsRow n0 56 4 (An (AM ⟨g,0,AF⟩) (K+1) cap) (K+1) (L1++(encS s).toList)) (hg:W.grownBy W' (AM g)):∀ i v,abM n0 K L1 s i v W->abM n0 K L1 s i v W'
 | 0,v,h=>lJ (Kb:=1) (L2:=(encS s).toList) (by decide) ho mL hg 0 v h
 | 1,v,h=>lJ (Kb:=1) (L2:=(encS s).toList) (by decide) ho mL hg 1 v h
 | 2,v,h=>fun b e=>adw (jy s) hK ho mL hg (h b e)
 | _+3,_,_=>trivial
attribute [local go_sem] encS
theorem adx (v tv:Bs) (sb cb:Nat) (mi:sb<256) (hcb:cb<256) (tl:List Nat) (Gd:tl.length<=maxLen) (a:DF) (ok:Bool) (j5:ok=Cd->Rt a/\a.nx.length<=60) (hno:ok=GS->Sm a/\a.right=GS) {n0 n1 n2:Nat} (bX:n0=a.cl.length) (cM:n1=a.nx.length) (dP:n2=a.mr.length) (w:Bm) (hv:∃ x n c fl,v=B_ #[An x n c,As F_ fl]) (ht:bw en w tv tl) (hA:∀ W,aa w W->ah 10 #[] W fun e w'=>e=AS (D0 Cd)/\aa W w') (hM:∀ W,aa w W->ah 11 #[v] W (BQ n0 n1 n2 ok a W)): ah 4 #[v,As F_ sb,As F_ cb,tv] w fun e w'=>e=AS (D0 Cd)/\aa w w':=by
 obtain⟨iI,uD,jl,jm,jn⟩:=If Tryz.ki;obtain⟨iS,hiS,Mg,Mh,Mi⟩:=If Tryz.yM;obtain⟨iL,uC,j6,j7,j8⟩:=If Tryz.pd;obtain⟨ta,tc,rfl⟩:=ht.form;obtain⟨tn,sK⟩:=ag tl.length;rw[<-sK]at ht Gd ⊢;have al2:tn<=9223372036854775807:=by unfold maxLen at Gd;omega
 obtain⟨xa,xn,xc,fl,rfl⟩:=hv;have aaG:=AI ht;have HTN:=AI sK;have HA:=AI hA;have HM:=AI hM;have iM:=AI j5;have pG:=AI hno;have pS:=AI bX;have gS:=AI cM;have pO:=AI dP;clear hA hM j5 hno bX cM dP ht sK Gd;go_enter Tryz.func4,Tryz.ntmps4;go_upto_region 1 with fail
 refine aw ?_;intro V0 hV;have X:A' (aa w V0):=AI (by rw[hV];exact((Ext.refl w).alloc _).below);have BX:A' (ar V0 w.heap.size #[An xa xn xc,As F_ fl] 24):=AI (by rw[hV];exact ar.new _ _ _);have hb:aa w V0:=X.out;replace aaG:=AI (aaG.below hb);clear hV hb;go_wp2_with fail
 refine(HA V0 X).mono ?_;rintro e w1 ⟨rfl,hx⟩;replace X:=AI (X.trans (hx.mono X.size));replace BX:=AI (BX.below hx BX.lt);replace aaG:=AI (aaG.below hx);clear hx;clear HA;have i0:w1.cell? ⟨w.heap.size,0,AF⟩=AM (An xa xn xc):=BX.cell 0;have i1:w1.cell? ⟨w.heap.size,1,AF⟩=AM (As F_ fl):=BX.cell 1;clear BX;go_wp2_with fail
 refine(HM w1 X).mono ?_;rintro e w2 ⟨d0,dc0,d1,dc1,d2,dc2,rfl,hd,hx⟩;replace X:=AI (X.trans (hx.mono X.size));replace aaG:=AI (aaG.below hx);have DA:=AI hd.df;clear hd hx i0 i1 HM;go_upto_region 4 with fail
 refine aw ?_;intro V1 hV;have hb:aa w2 V1:=by rw[hV];exact((Ext.refl w2).alloc _).below
 have kb:ar V1 w2.heap.size #[An d0 n0 dc0,An d1 n1 dc1,An d2 n2 dc2] 29:=by rw[hV];exact ar.new _ _ _
 replace X:=AI (X.trans (hb.mono X.size));replace aaG:=AI (aaG.below hb);replace DA:=AI (DA.below hb);have BA:=AI kb;clear hb kb hV;cases ok with
 | false=>
  obtain⟨sa,na⟩:=pG.out rfl;have CN:A' (∀ W v,bV W v a->ah 12 #[v] W fun e w'=>e=AS (G' #[B_ #[An AF 0 0,An AF 0 0,An AF 0 0],As AN 182])/\aa W w'):=AI fun W v h=>Nl sa na W v h
  clear sa na iM pG aaG;obtain⟨⟨i0,i1,i2⟩,_⟩:=BA.three;go_wp2_with fail
  refine(CN V1 _ DA).mono ?_;rintro e w3 ⟨rfl,hx⟩;replace X:=AI (X.trans (hx.mono X.size));replace DA:=AI (DA.below hx);replace BA:=AI (BA.below hx BA.lt);clear hx CN;clear i0 i1 i2;go_upto_region 5 with fail
  refine aw ?_;intro V3 hV;have hb:aa w3 V3:=by rw[hV];exact((Ext.refl _).alloc _).below
  replace X:=AI (X.trans (hb.mono X.size));replace DA:=AI (DA.below hb);replace BA:=AI (BA.below hb BA.lt);clear hV hb;go_wp2;go_ret;exact⟨rfl,X⟩
 | true=>
  obtain⟨ra,aen⟩:=iM.out rfl;clear iM pG;have tM:1<=n1:=by rw[gS.out];exact ra.pos
  have arc:n1<=60:=by rw[gS.out];exact aen
  have mj:1<=n0:=by rw[pS.out];exact ra.Dz
  have ZN:n0<=1000000:=by rw[pS.out];exact ra.Rh.cl
  have ady:A' (n2=n1):=AI (by rw[pO.out,gS.out];exact ra.mr);obtain⟨p,hp⟩:=ag (dJ a);obtain⟨k0,rS⟩:=ag p.cl.length;obtain⟨k1,afD⟩:=ag p.nx.length;obtain⟨k2,hk2⟩:=ag p.mr.length;obtain⟨aaU,Gi⟩:=ag (sb%n1);obtain⟨aaM,ed⟩:=ag (cb%n0);have kX:aaU<n1:=by rw[Gi];exact NX _ (by omega)
  have Cq:aaM<n0:=by rw[ed];exact NX _ (by omega)
  have hri:(sb:Int)% (n1:Int)=(aaU:Int):=by omega
  have hrk:(cb:Int)% (n0:Int)=(aaM:Int):=by omega
  have aaT:Rt p:=by rw[hp];exact aes ra
  have CC:A' (∀ W v c,Rt c->dJ c=p->bV W v c->ah 12 #[v] W (rD k0 k1 k2 0 p W)):=AI fun W v c rc hc hv=>by
   have h:=Nn rc (k0:=k0) (k1:=k1) (k2:=k2) (by rw[hc];exact rS) (by rw[hc];exact afD) (by rw[hc];exact hk2) W v hv;rwa[hc]at h
  have CP:A' (∀ W v,bV W v a->ah 21 #[v] W (fun e w'=>∃ a0 c0 a1 c1 a2 c2 lim,e=AS (B_ #[An a0 n0 c0,An a1 n1 c1,An a2 n2 c2])/\W.heap.size<=lim/\w'.ownsRow W.heap.size 56 4 (An a0 n0 c0) n0 (aL a.cl)/\nu W.heap.size lim w' (An a1 n1 c1) a.nx/\aS lim w' (An a2 n2 c2) a.mr/\aa W w')):=AI fun W v h=>by
   rw[pS.out,gS.out,pO.out];exact Lt v a W h ra.Rh
  have CS:A' (∀ W v u,bV W v p->bV W u p->ah 17 #[v,u] W fun e w'=>e=AS (D0 Cd)/\aa W w'):=AI fun W v u hv hu=>by
   have h:=acY v u p p W hv.e hu.e aaT.Rh;rwa[aeN.2 rfl]at h
  obtain⟨row,hrow⟩:∃ l,a.nx[aaU]? =AM l:=⟨_,aB (by rw[<-gS.out];exact kX)⟩;have yF:row.length=n0:=by have h5:=ra.len aaU (by rw[<-gS.out];exact kX);rw[getD_some hrow]at h5;rw[pS.out];exact h5
  obtain⟨aa5,adK⟩:∃ l,a.mr[aaU]? =AM l:=⟨_,aB (by rw[<-pO.out,ady.out];exact kX)⟩;have afE:aa5.length<=1000000:=ra.Rh.Ug aa5 (ax adK);obtain⟨ml,oL⟩:=ag aa5.length;have hLK:A' (∀ l∈a.nx++ [row],l.length=n0):=AI fun l hl=>by
   rcases List.mem_append.1 hl with h | h
   ·obtain⟨i,hi⟩:=List.getElem?_of_mem h
    have h5:=ra.len i (B'.1 hi).1;rw[getD_some hi]at h5;rw[pS.out];exact h5
   ·rw[I'.1 h];exact yF
  have aaz:A' (∀ L,aa4 (a.nx++ [row]) aaU n1 L->Rt ⟨a.cl,L,a.mr++ [aa5]⟩/\dJ ⟨a.cl,L,a.mr++ [aa5]⟩=p):=AI fun L hL=>by
   have hs:aaU<a.nx.length:=by rw[<-gS.out];exact kX
   have h5:=aa4.grown ra hs (L:=L) (by rw[getD_some hrow, <-gS.out];exact hL);rw[getD_some adK]at h5;obtain⟨h6,h7⟩:=acX ra hs (by omega) h5;exact⟨h6,by rw[hp];exact h7.symm⟩
  have RA:=AI ra;have HRK:=AI hrk;have HP:=AI hp;have HRW:=AI hrow;have Yy:=AI yF;have HMR:=AI adK;have yn:=AI oL;have afF:A' (ml<=1000000):=AI (by rw[oL];exact afE);clear hrk ra aen hp rS afD hk2 Gi ed aaT hrow yF adK afE oL;obtain⟨⟨i0,i1,i2⟩,_⟩:=BA.three;go_wp2_with fail
  refine(CC V1 _ a RA HP.symm DA).mono ?_;rintro e w3 ⟨x0,xc0,x1,xc1,x2,xc2,rfl,hd,hx⟩;replace X:=AI (X.trans (hx.mono X.size));replace aaG:=AI (aaG.below hx);replace DA:=AI (DA.below hx);replace BA:=AI (BA.below hx BA.lt);have DP:=AI hd.df;clear hd hx;clear i0 i1 i2;go_upto_region 5 with fail
  refine aw ?_;intro V2 hV;have hb:aa w3 V2:=by rw[hV];exact((Ext.refl w3).alloc _).below
  have kb:ar V2 w3.heap.size #[An x0 k0 xc0,An x1 k1 xc1,An x2 k2 xc2] 29:=by rw[hV];exact ar.new _ _ _
  replace X:=AI (X.trans (hb.mono X.size));replace aaG:=AI (aaG.below hb);replace DA:=AI (DA.below hb);replace BA:=AI (BA.below hb BA.lt);replace DP:=AI (DP.below hb);have aah:=AI kb;clear hb kb hV;obtain⟨⟨i0,i1,i2⟩,_⟩:=BA.three;have hnz:¬ (n1=0):=by omega
  have ae2:¬ ((n1:Int)=0):=by omega
  have hS1:(AN.wrap (sb:Int)).tmod (n1:Int)=(aaU:Int):=by rw[L_ _ (by omega),Int.tmod_eq_emod_of_nonneg (by omega)];exact hri
  have hWS:AN.wrap (sb:Int)=(sb:Int):=L_ _ (by omega);go_upto_region 8 with fail
  rw[hri];go_wp2_with fail
  refine(CP V2 _ DA).mono ?_;rintro e w4 ⟨b0,bc0,b1,bc1,b2,bc2,lim,rfl,hlim,h0,h1,h2,hx⟩;clear i0 i1 i2;have aaC:=AI h0;have aaD:=AI h1;have OM:=AI h2;have Z:=AI hx;unfold aa at Z;obtain⟨base,hbase⟩:=ag V2.heap.size;have HBS:=AI hbase;rw[<-hbase]at aaC aaD Z hlim;clear h0 h1 h2 hx hri hS1 hWS hnz ae2 hbase;go_upto_region 9 with fail
  refine aw ?_;intro V5 hV;have BB:A' (ar V5 w4.heap.size #[An b0 n0 bc0,An b1 n1 bc1,An b2 n2 bc2] 29):=AI (by rw[hV];exact ar.new w4 _ _);have XN:A' (aa w4 V5):=AI (by rw[hV];exact((Ext.refl _).alloc _).below);clear hV;have rq:base<=w4.heap.size:=by rw[HBS.out];exact Z.size
  replace Z:=AI (Z.trans (XN.mono rq));obtain⟨⟨q0,q1,q2⟩,_⟩:=(BA.below (show aa V2 V5 by unfold aa;rw[<-HBS.out];exact Z) BA.lt).three;obtain⟨⟨j0,j1,j2⟩,_⟩:=BB.three;have iV:((n1:Int) != n1)=false:=by simp
  go_upto_region 12 with fail
  obtain⟨us,QT,u2,u4,u3⟩:=aaD.out;obtain⟨ms,Im,m2,m3⟩:=OM.out;rw[<-gS.out]at QT;rw[<-pO.out]at Im;rw[QT]at u2;rw[Im]at m2;obtain⟨og,rfl⟩:∃ g,b1=AM ⟨g,0,AF⟩:=by
   rcases u2.2 with⟨h,_⟩ | ⟨g,c,_,h,_⟩
   ·cases h;omega
   ·cases h;exact⟨g,rfl⟩
  have al9:1<=n2:=by rw[ady.out];exact tM
  obtain⟨mg,rfl⟩:∃ g,b2=AM ⟨g,0,AF⟩:=by
   rcases m2.2 with⟨h,_⟩ | ⟨g,c,_,h,_⟩
   ·cases h;omega
   ·cases h;exact⟨g,rfl⟩
  have hog:og<lim/\base<=og/\og<w4.heap.size:=⟨u4 og rfl,(u2.lt og rfl).1,(u2.lt og rfl).2⟩;have hmg:lim<=mg/\mg<w4.heap.size:=m2.lt mg rfl;obtain⟨ur,hur⟩:∃ u,us[aaU]? =AM u:=⟨_,aB (by rw[QT];exact kX)⟩;obtain⟨um,hum⟩:∃ u,ms[aaU]? =AM u:=⟨_,aB (by rw[Im,ady.out];exact kX)⟩;have hr3:=u3 aaU ur row hur HRW;have hm3:=m3 aaU um aa5 hum HMR;rw[Yy.out]at hr3;rw[<-yn.out]at hm3;obtain⟨rg,adz,rfl⟩:∃ g c,ur=An (AM ⟨g,0,AF⟩) n0 c:=by
   rcases hr3.1.2 with⟨_,h⟩ | ⟨g,c,_,h,_⟩
   ·omega
   ·exact⟨g,c,h⟩
  obtain⟨ma,mc,rfl⟩:=ownsRow_form hm3;have U2:=AI (ai u2 XN);have M2:=AI (aC (ai m2 XN) hlim);have U3:=AI fun i u l hu hl=>(⟨ai (u3 i u l hu hl).1 XN,(u3 i u l hu hl).2⟩:_/\_)
  have M3:=AI fun i u l hu hl=>ai (m3 i u l hu hl) XN
  have R3:=AI (ai hr3.1 XN);have Q3:=AI (ai hm3 XN);have OC5:=AI (ai aaC XN);have anO:w4.heap.size<V5.heap.size:=BB.lt;have HUS:=AI QT;have WT:=AI Im;have HOG:=AI hog;have HMG:=AI hmg;obtain⟨N1,hN1⟩:=ag (n1+1);obtain⟨N2,hN2⟩:=ag (n2+1);have adB:=AI hN1;have acx:=AI hN2;clear hN1 hN2;obtain⟨PL,uF⟩:=ag ([(abL V5.heap.size (An (AM ⟨og,0,AF⟩) n1 bc1) n1 us n0 (row.map aG) (V5.heap.size+1)),(mkApp (V5.heap.size+2) (An (AM ⟨mg,0,AF⟩) n2 bc2) n2 ms ml (aa5.map aG))]:List gW.App);have oP:PL[0]? =AM (abL V5.heap.size (An (AM ⟨og,0,AF⟩) n1 bc1) n1 us n0 (row.map aG) (V5.heap.size+1)):=by rw[uF];rfl
  have tM:PL[1]? =AM (mkApp (V5.heap.size+2) (An (AM ⟨mg,0,AF⟩) n2 bc2) n2 ms ml (aa5.map aG)):=by rw[uF];rfl
  have hall:∀ q∈PL,q=(abL V5.heap.size (An (AM ⟨og,0,AF⟩) n1 bc1) n1 us n0 (row.map aG) (V5.heap.size+1))\/q=(mkApp (V5.heap.size+2) (An (AM ⟨mg,0,AF⟩) n2 bc2) n2 ms ml (aa5.map aG)):=fun q hq=>by rw[uF]at hq;simpa using hq
  have BH:A' (gW.kj V5 PL):=AI ⟨fun q hq=>by
   rcases hall q hq with rfl | rfl
   ·exact aF _
   ·show V5.heap.size<=V5.heap.size+2;omega,fun q hq x e=>by
   rcases hall q hq with rfl | rfl
   ·have e:AM og=AM x:=e
    injection e;omega
   ·have e:AM mg=AM x:=e
    injection e;omega,fun i j q q' hi hj mM=>by
   have hl:PL.length=2:=by rw[uF];rfl
   have h1:=(B'.1 hi).1;have h2:=(B'.1 hj).1;rcases(show i=0\/i=1 by omega)with rfl | rfl<;>rcases(show j=0\/j=1 by omega)with rfl | rfl<;>(first | (exact absurd rfl mM) | skip)<;>(first | rw[oP]at hi | rw[tM]at hi)<;>(first | rw[oP]at hj | rw[tM]at hj)<;>cases hi<;>cases hj
   ·exact .inr fun e=>by have e:AM og=AM mg:=e;injection e;omega
   ·exact .inr fun e=>by have e:AM mg=AM og:=e;injection e;omega⟩
  have Fm:A' (∀ x,x≠og->x≠mg->¬ ∃ q∈PL,q.v.ownBlock=AM x):=AI fun x h1 h2 ⟨q,hq,e⟩=>by
   rcases hall q hq with rfl | rfl
   ·have e:AM og=AM x:=e
    injection e with e;exact h1 e.symm
   ·have e:AM mg=AM x:=e
    injection e with e;exact h2 e.symm
  have HKB:A' (∀ W,gW.bR base V5 PL V5 W->ae (· <base) V5 W):=AI fun W h=>h.keeps.mono fun x (hx:x<base)=>⟨by omega,Fm x (by omega) (by omega)⟩
  have KR:A' (∀ W,gW.bR base V5 PL V5 W->∀ (e:It) (bs sz m:Nat) (u:Bs) (ys:List Bs),e≠39->V5.ownsRow bs e sz u m ys->W.ownsRow bs e sz u m ys):=AI fun W h e bs sz m u ys he ho=>ak ho h.keeps fun x hx=>⟨(ho.lt x hx).2,Fm x (fun e2=>by
    rcases ownBlock_ne he ho U2.out with h5 | h5
    ·rw[h5]at hx;cases hx
    ·exact h5 (by rw[hx,e2];rfl)) (fun e2=>by
    rcases ownBlock_ne he ho M2.out with h5 | h5
    ·rw[h5]at hx;cases hx
    ·exact h5 (by rw[hx,e2];rfl))⟩
  have HSA:A' (∀ W W' u,gW.bR base V5 PL W W'->(fun W u=>u.oneCell'=Cd/\W.ownsRow V5.heap.size 3 1 u n0 (row.map aG)/\u.ownBlock=AM (V5.heap.size+1)) W u->(fun W u=>u.oneCell'=Cd/\W.ownsRow V5.heap.size 3 1 u n0 (row.map aG)/\u.ownBlock=AM (V5.heap.size+1)) W' u):=AI fun W W' u hm h=>⟨h.1,ak h.2.1 hm.keeps fun x hx=>⟨(h.2.1.lt x hx).2,BH.fresh (h.2.1.lt x hx).1⟩,h.2.2⟩
  have HSB:A' (∀ W W' u,gW.bR base V5 PL W W'->(fun W u=>u.oneCell'=Cd/\W.ownsRow (V5.heap.size+2) 3 1 u ml (aa5.map aG)) W u->(fun W u=>u.oneCell'=Cd/\W.ownsRow (V5.heap.size+2) 3 1 u ml (aa5.map aG)) W' u):=AI fun W W' u hm h=>⟨h.1,ak h.2 hm.keeps fun x hx=>⟨(h.2.lt x hx).2,BH.fresh (by have:=(h.2.lt x hx).1;omega)⟩⟩
  have aau:A' (∀ W,gW.bR base V5 PL V5 W->W.heap.size=V5.heap.size->ah 22 #[An (AM ⟨rg,0,AF⟩) n0 adz] W fun e w'=>∃ c,e=AS (An (AM ⟨V5.heap.size+1,0,AF⟩) n0 c)/\w'.ownsRow V5.heap.size 3 1 (An (AM ⟨V5.heap.size+1,0,AF⟩) n0 c) n0 (row.map aG)/\aa W w'):=AI fun W h hz=>by
   have h5:=abK rg 0 adz n0 row Yy.symm (by omega) W (bU (KR W h _ _ _ _ _ _ (by decide) R3) Yy.symm) ZN;refine h5.mono ?_;rintro e w' ⟨c,h1,h2,h3⟩;rw[hz]at h1 h2;exact⟨c,h1,h2,h3⟩
  have C17:A' (∀ W,gW.bR base V5 PL V5 W->V5.heap.size+2<=W.heap.size->ah 22 #[An ma ml mc] W fun e w'=>∃ a c,e=AS (An a ml c)/\w'.ownsRow (V5.heap.size+2) 3 1 (An a ml c) ml (aa5.map aG)/\aa W w'):=AI fun W h hz=>by
   refine(kH _ aa5 W (bU (KR W h _ _ _ _ _ _ (by decide) Q3) yn) (by rw[<-yn.out];exact afF)).mono ?_;rintro e w' ⟨u,rfl,ho,hx⟩;rw[<-yn.out]at ho;obtain⟨x,y,rfl⟩:=ownsRow_form ho;exact⟨x,y,rfl,aC ho hz,hx⟩
  have Ru:A' (∀ W,gW.bR base V5 PL V5 W->W.cell? ⟨og,aaU,AF⟩=AM (An (AM ⟨rg,0,AF⟩) n0 adz)):=AI fun W h=>by
   have h5:=(h.old _ (ax oP) U2).cellAt aaU (by show aaU<n1*1;omega);exact h5.trans hur
  have Tj:A' (∀ W,gW.bR base V5 PL V5 W->W.cell? ⟨mg,aaU,AF⟩=AM (An ma ml mc)):=AI fun W h=>by
   have h5:=(h.old _ (ax tM) M2).cellAt aaU (by show aaU<n2*1;rw[ady.out];omega);exact h5.trans hum
  clear u2 u3 u4 m2 m3 hr3 hm3 QT Im hog hmg hall uF aaD OM q0 q1 q2 j0 j1 j2 XN aaC hur hum;have ahO:(aaU:Int)<n1:=by omega
  have ahP:n2<=60:=by rw[ady.out];exact arc
  have hsm:aaU<n2:=by rw[ady.out];exact kX
  have ahQ:(aaU:Int)<n2:=by omega
  refine RegQ.br (gW.bR base V5 PL) (gW.bR.drew) (fun _ _ _ h k=>h.trans k) (by kernel_rfl) 21 [0,1,0,4,0,28,60,124,252,511,0,1024,0,4096,0,28672,61440,127999,259071,524287,16383,2097151,4194303,8388607] (fun i=>i==7 || i==8 || i==9 || i==17 || i==18 || i==19) (by kernel_rfl) (fun i=>if i=7 then abm.row base V5 PL n0 (fun W u=>u.oneCell'=Cd/\W.ownsRow V5.heap.size 3 1 u n0 (row.map aG)/\u.ownBlock=AM (V5.heap.size+1)) HSA else if i=8 then abm.Un base V5 PL 39 (fun W u=>u.oneCell'=Cd/\W.ownsRow V5.heap.size 3 1 u n0 (row.map aG)/\u.ownBlock=AM (V5.heap.size+1)) HSA else if i=9 then abm.app base V5 PL (abL V5.heap.size (An (AM ⟨og,0,AF⟩) n1 bc1) n1 us n0 (row.map aG) (V5.heap.size+1)) (ax oP)else if i=17 then abm.row base V5 PL ml (fun W u=>u.oneCell'=Cd/\W.ownsRow (V5.heap.size+2) 3 1 u ml (aa5.map aG)) HSB else if i=18 then abm.Un base V5 PL 39 (fun W u=>u.oneCell'=Cd/\W.ownsRow (V5.heap.size+2) 3 1 u ml (aa5.map aG)) HSB else if i=19 then abm.app base V5 PL (mkApp (V5.heap.size+2) (An (AM ⟨mg,0,AF⟩) n2 bc2) n2 ms ml (aa5.map aG)) (ax tM)else aU.any _) (fun j W=>j=7->W.heap.size=V5.heap.size) (fun _ _ _=>rfl) ?_;intro C hC hne;have HC:=AI hC;have kB:∀ W: {W//C W},W.1.heap[w4.heap.size]? =V5.heap[w4.heap.size]? :=fun W=>((hC W.1).1 W.2).keeps.keep _ ⟨anO,Fm _ (by have:=HOG.out;omega) (by have:=HMG.out;omega)⟩
  have o1:∀ W: {W//C W},W.1.cell? ⟨w4.heap.size,1,AF⟩=AM (An (AM ⟨og,0,AF⟩) n1 bc1):=fun W=>(BB.same (kB W)).cell 1
  have o2:∀ W: {W//C W},W.1.cell? ⟨w4.heap.size,2,AF⟩=AM (An (AM ⟨mg,0,AF⟩) n2 bc2):=fun W=>(BB.same (kB W)).cell 2
  have o3:∀ W: {W//C W},W.1.cell? ⟨og,aaU,AF⟩=AM (An (AM ⟨rg,0,AF⟩) n0 adz):=fun W=>Ru W.1 ((hC W.1).1 W.2)
  have o4:∀ W: {W//C W},W.1.cell? ⟨mg,aaU,AF⟩=AM (An ma ml mc):=fun W=>Tj W.1 ((hC W.1).1 W.2)
  clear hC kB Ru Tj
  repeat (refine RegQ.au (fun K hK=>?_);first | (refine RegQ.bL rfl ?_;try go_simp;refine hK _ _ ?_;clear hK K) | (refine RegQ.bJ rfl rfl ?_;unfold az;go_simp;refine hK _ _ ?_;clear hK K))
  refine RegQ.au (fun K hK=>?_);refine RegQ.bS rfl rfl (abm.row base V5 PL n0 (fun W u=>u.oneCell'=Cd/\W.ownsRow V5.heap.size 3 1 u n0 (row.map aG)/\u.ownBlock=AM (V5.heap.size+1)) HSA) rfl (fun W hW hD hN=>?_) (fun v hv=>?_)
  ·have tT:=(HC.out W).1 hW
   have hz:=hD rfl;clear hW hD hN hK K;go_simp;refine bA ((aau W tT hz).mono ?_);rintro e w99 ⟨c,rfl,ho,hx⟩;exact⟨_,rfl,⟨.below hx,fun j hj _ e=>absurd e hj⟩,⟨_,_,rfl⟩,rfl,ho,rfl⟩
  obtain⟨a7,c7,rfl⟩:=hv;go_simp;refine hK _ _ ?_;clear hK K;refine RegQ.au (fun K hK=>?_);refine RegQ.bS rfl rfl (abm.Un base V5 PL 39 (fun W u=>u.oneCell'=Cd/\W.ownsRow V5.heap.size 3 1 u n0 (row.map aG)/\u.ownBlock=AM (V5.heap.size+1)) HSA) rfl (fun W hW hD hN=>?_) (fun v hv=>?_)
  ·have tT:=(HC.out W).1 hW
   have hp9:(fun W u=>u.oneCell'=Cd/\W.ownsRow V5.heap.size 3 1 u n0 (row.map aG)/\u.ownBlock=AM (V5.heap.size+1)) W (An a7 n0 c7):=hN.at 0 rfl (by kernel_rfl);have hs9:=tT.size;clear hW hD hN hK K;go_simp;exact⟨⟨.below ((Ext.refl _).alloc _).below,fun j _ ht _ e=>by subst e;exact absurd ht (by decide)⟩,⟨_,rfl⟩,fun b hb=>by cases hb;exact⟨⟨_,ar.new _ _ _,HSA _ _ _ (.below ((Ext.refl _).alloc _).below) hp9⟩,BH.fresh hs9⟩⟩
  obtain⟨aaZ,rfl⟩:=hv;go_simp;refine hK _ _ ?_;clear hK K;refine RegQ.au (fun K hK=>?_);refine RegQ.bS rfl rfl (abm.app base V5 PL (abL V5.heap.size (An (AM ⟨og,0,AF⟩) n1 bc1) n1 us n0 (row.map aG) (V5.heap.size+1)) (ax oP)) rfl (fun W hW hD hN=>?_) (fun v hv=>?_)
  ·have tT:=(HC.out W).1 hW
   obtain⟨⟨ub,hb1,hb2⟩,_⟩:=hN.at 0 rfl (by kernel_rfl) aaZ rfl;have hs9:=tT.size;clear hW hD hN hK K;refine gW.dE (w0:=V5) (PL:=PL) (p:=(abL V5.heap.size (An (AM ⟨og,0,AF⟩) n1 bc1) n1 us n0 (row.map aG) (V5.heap.size+1))) (.tmp 73) (.tmp 80) 27 rfl iL (An AF 0 0) 24 K_ uC j6 j7 j8 rfl (show(0:Nat)<1 from by decide) BH oP rfl (tT.old _ (ax oP) U2) ⟨aaZ,0,AF⟩ 1 rfl [ub] ⟨ub,rfl,hb2.1,hb2.2.1,hb2.2.2⟩ rfl (cC hb1) (by intro u hu;simp at hu;rw[hu];exact hb2.1) (by show n1+1<=maxLen;unfold maxLen;omega) (by show(n1+1)*24<=_;omega) (D_ (by omega) hs9) (show(0:Nat)<1 from by decide) hs9 (fun v W2 g1 g2 g3 g4=>⟨⟨g1,fun j _ ht _ e=>by subst e;exact absurd ht (by decide)⟩,g2,g3⟩)
  obtain⟨na,nc,hv2⟩:=hv;replace hv2:v=An na N1 nc:=by rw[adB.out];exact hv2
  subst hv2;go_simp;refine hK _ _ ?_;clear hK K
  repeat (refine RegQ.au (fun K hK=>?_);first | (refine RegQ.bL rfl ?_;try go_simp;refine hK _ _ ?_;clear hK K) | (refine RegQ.bJ rfl rfl ?_;unfold az;go_simp;refine hK _ _ ?_;clear hK K))
  refine RegQ.au (fun K hK=>?_);refine RegQ.bS rfl rfl (abm.row base V5 PL ml (fun W u=>u.oneCell'=Cd/\W.ownsRow (V5.heap.size+2) 3 1 u ml (aa5.map aG)) HSB) rfl (fun W hW hD hN=>?_) (fun v hv=>?_)
  ·have tT:=(HC.out W).1 hW
   have hp9:(fun W u=>u.oneCell'=Cd/\W.ownsRow V5.heap.size 3 1 u n0 (row.map aG)/\u.ownBlock=AM (V5.heap.size+1)) W (An a7 n0 c7):=hN.at 2 rfl (by kernel_rfl);have hs9:V5.heap.size+2<=W.heap.size:=(hp9.2.1.lt _ hp9.2.2).2;clear hW hD hN hK K hp9;go_simp;refine bA ((C17 W tT hs9).mono ?_);rintro e w99 ⟨a9,c9,rfl,ho,hx⟩;exact⟨_,rfl,⟨.below hx,fun j _ ht _ e=>by subst e;exact absurd ht (by decide)⟩,⟨_,_,rfl⟩,rfl,ho⟩
  obtain⟨a17,c17,rfl⟩:=hv;go_simp;refine hK _ _ ?_;clear hK K;refine RegQ.au (fun K hK=>?_);refine RegQ.bS rfl rfl (abm.Un base V5 PL 39 (fun W u=>u.oneCell'=Cd/\W.ownsRow (V5.heap.size+2) 3 1 u ml (aa5.map aG)) HSB) rfl (fun W hW hD hN=>?_) (fun v hv=>?_)
  ·have tT:=(HC.out W).1 hW
   have hp9:(fun W u=>u.oneCell'=Cd/\W.ownsRow (V5.heap.size+2) 3 1 u ml (aa5.map aG)) W (An a17 ml c17):=hN.at 0 rfl (by kernel_rfl);have hs9:=tT.size;clear hW hD hN hK K;go_simp;exact⟨⟨.below ((Ext.refl _).alloc _).below,fun j _ ht _ e=>by subst e;exact absurd ht (by decide)⟩,⟨_,rfl⟩,fun b hb=>by cases hb;exact⟨⟨_,ar.new _ _ _,HSB _ _ _ (.below ((Ext.refl _).alloc _).below) hp9⟩,BH.fresh hs9⟩⟩
  obtain⟨x18,rfl⟩:=hv;go_simp;refine hK _ _ ?_;clear hK K;refine RegQ.au (fun K hK=>?_);refine RegQ.bS rfl rfl (abm.app base V5 PL (mkApp (V5.heap.size+2) (An (AM ⟨mg,0,AF⟩) n2 bc2) n2 ms ml (aa5.map aG)) (ax tM)) rfl (fun W hW hD hN=>?_) (fun v hv=>?_)
  ·have tT:=(HC.out W).1 hW
   obtain⟨⟨ub,hb1,hb2⟩,_⟩:=hN.at 0 rfl (by kernel_rfl) x18 rfl;have hs9:=tT.size;clear hW hD hN hK K;refine gW.dE (w0:=V5) (PL:=PL) (p:=(mkApp (V5.heap.size+2) (An (AM ⟨mg,0,AF⟩) n2 bc2) n2 ms ml (aa5.map aG))) (.tmp 83) (.tmp 90) 27 rfl iL (An AF 0 0) 24 K_ uC j6 j7 j8 rfl (show(0:Nat)<1 from by decide) BH tM rfl (tT.old _ (ax tM) M2) ⟨x18,0,AF⟩ 1 rfl [ub] ⟨ub,rfl,hb2.1,hb2.2⟩ rfl (cC hb1) (by intro u hu;simp at hu;rw[hu];exact hb2.1) (by show n2+1<=maxLen;unfold maxLen;omega) (by show(n2+1)*24<=_;omega) (D_ (by omega) hs9) (show(0:Nat)<1 from by decide) hs9 (fun v W2 g1 g2 g3 g4=>⟨⟨g1,fun j _ ht _ e=>by subst e;exact absurd ht (by decide)⟩,g2,g3⟩)
  obtain⟨mna,mnc,hv2⟩:=hv;replace hv2:v=An mna N2 mnc:=by rw[acx.out];exact hv2
  subst hv2;go_simp;refine hK _ _ ?_;clear hK K
  repeat (refine RegQ.au (fun K hK=>?_);first | (refine RegQ.bL rfl ?_;try go_simp;refine hK _ _ ?_;clear hK K) | (refine RegQ.bJ rfl rfl ?_;unfold az;go_simp;refine hK _ _ ?_;clear hK K))
  refine RegQ.bC (fun W7 hW hH=>?_);have tT:=(HC.out W7).1 hW;have Q0:gW.After base V5 (abL V5.heap.size (An (AM ⟨og,0,AF⟩) n1 bc1) n1 us n0 (row.map aG) (V5.heap.size+1)) W7 (An na N1 nc):=hH _ (ax (show _=AM _ from rfl:_[3]? =AM _));have Q1:gW.After base V5 (mkApp (V5.heap.size+2) (An (AM ⟨mg,0,AF⟩) n2 bc2) n2 ms ml (aa5.map aG)) W7 (An mna N2 mnc):=hH _ (ax (show _=AM _ from rfl:_[0]? =AM _));obtain⟨⟨ns,h5,u7,h6,_,h7,h8⟩,_⟩:=Q0;have h6:ns=[u7]:=h6;subst h6;obtain⟨⟨ns,g5,u17,g6,_,g7⟩,_⟩:=Q1;have g6:ns=[u17]:=g6;subst g6;obtain⟨F,hF⟩:=ag (fun x=>x<lim\/x=V5.heap.size+1:Nat->Prop);have Ek:=KR.out W7 tT;have hlm:=HMG.out
  have RW7:A' (aa6 F base W7 (us++ [u7]) (a.nx++ [row])):=AI (by
   refine aa6.snoc (F:=F) ⟨by rw[HUS.out, <-gS.out],fun i u l hu hl=>⟨Ek _ _ _ _ _ _ (by decide) (U3 i u l hu hl).1,fun x e=>by rw[hF];exact .inl ((U3 i u l hu hl).2 x e)⟩⟩ (fun x h=>h) ?_ fun x e=>?_
   ·rw[Yy.out];exact aC h7 (by omega)
   ·rw[h8]at e
    injection e with e
    rw[hF];exact .inr e.symm)
  have MW7:A' (aa6 (fun x=>¬F x) base W7 (ms++ [u17]) (a.mr++ [aa5])):=AI (by
   refine aa6.snoc (F:=fun x=>¬F x) ⟨by rw[WT.out, <-pO.out],fun i u l hu hl=>⟨aC (Ek _ _ _ _ _ _ (by decide) (M3 i u l hu hl)) hlim,fun x e=>?_⟩⟩ (fun x h=>h) ?_ fun x e=>?_
   ·have h9:=(M3.out i u l hu hl).lt x e
    have h10:=h9.1;rw[hF];intro h11;rcases h11 with h11 | h11
    ·omega
    ·have:=h9.2;omega
   ·rw[<-yn.out];exact aC g7 (by omega)
   ·have h9:=(g7.lt x e).1
    rw[hF];intro h11;rcases h11 with h11 | h11
    ·omega
    ·omega)
  have BB7:A' (ar W7 w4.heap.size #[An b0 n0 bc0,An (AM ⟨og,0,AF⟩) n1 bc1,An (AM ⟨mg,0,AF⟩) n2 bc2] 29):=AI (BB.keeps tT.keeps ⟨anO,Fm _ (by have:=HOG.out;omega) (by omega)⟩);have OC7:A' (W7.ownsRow base 56 4 (An b0 n0 bc0) n0 (aL a.cl)):=AI (Ek _ _ _ _ _ _ (by decide) OC5);have h5:W7.ownsRow base 39 1 (An na N1 nc) (n1+1) (us++ [u7]):=h5;have g5:W7.ownsRow base 39 1 (An mna N2 mnc) (n2+1) (ms++ [u17]):=g5;rw[<-adB.out]at h5;rw[<-acx.out]at g5;have UO7:=AI h5;have MO7:=AI g5;have Z7:A' (ae (· <base) V5 W7):=AI (HKB.out W7 tT);clear tT hW hH HC hne o1 o2 o3 o4 Ek h5 h7 h8 g5 g7 hF hlm oP tM BH Fm HKB KR HSA HSB aau C17 U2 U3 M2 M3 R3 Q3 OC5 BB;obtain⟨⟨j0,j1,j2⟩,z0,z1,z2⟩:=BB7.three;go_upto_region 13 with fail
  refine aw ?_;intro V8 hV;have K8:ae (· ≠w4.heap.size) W7 V8:=by rw[hV];exact((ae.refl _ _).setCell (p:=⟨w4.heap.size,1,AF⟩) (fun h=>h rfl) _).setCell (p:=⟨w4.heap.size,2,AF⟩) (fun h=>h rfl) _
  have B8:ar V8 w4.heap.size #[An b0 n0 bc0,An na N1 nc,An mna N2 mnc] 29:=by rw[hV];exact(BB7.set 1 _).set 2 _
  have far:∀ {e:It} {sz q:Nat} {v:Bs} {xs:List Bs},W7.ownsRow base e sz v q xs->29≠e->V8.ownsRow base e sz v q xs:=fun ho he=>ak ho K8 fun x hx=>bZ BB7 ho he x hx
  have aay:A' (abc F base w4.heap.size (An b0 n0 bc0) (An na N1 nc) (An mna N2 mnc) N1 N2 (us++ [u7]) (ms++ [u17]) a.cl (a.mr++ [aa5]) V8 (a.nx++ [row])):=AI ⟨B8,far UO7 (by decide),far MO7 (by decide),⟨RW7.1,fun i u l hu hl=>⟨far (RW7.2 i u l hu hl).1 (by decide),(RW7.2 i u l hu hl).2⟩⟩,⟨MW7.1,fun i u l hu hl=>⟨far (MW7.2 i u l hu hl).1 (by decide),(MW7.2 i u l hu hl).2⟩⟩,by rw[<-pS.out];exact far OC7 (by decide)⟩;have afI:base<=w4.heap.size:=rq;replace Z:=AI (Z.trans (Z7.tr (K8.mono fun x (hx:x<base)=>by show x≠w4.heap.size;omega)).below);obtain⟨usl,ae4⟩:=ag (us++ [u7]);obtain⟨msl,ae5⟩:=ag (ms++ [u17]);have HUL:A' (usl.length=N1):=AI (by rw[ae4,aJ,HUS.out,adB.out];rfl);have afJ:A' (msl.length=N2):=AI (by rw[ae5,aJ,WT.out,acx.out];rfl);rw[<-ae4, <-ae5]at aay;obtain⟨bx,yL⟩:=ag w4.heap.size;rw[<-yL]at aay afI ⊢;obtain⟨aaP,rfl⟩:∃ g,na=AM ⟨g,0,AF⟩:=by
   have h1:=adB.out;rcases aay.nxo.2 with⟨h,_⟩ | ⟨g,c,_,h,_⟩
   ·injection h;omega
   ·injection h with h;exact⟨g,h⟩
  have ahS:N1<=61:=by have:=adB.out;omega
  have ahU:n1<N1:=by have:=adB.out;omega
  clear hV K8 B8 far RW7 MW7 UO7 MO7 OC7 Z7 BB7 ae4 ae5 yL j0 j1 j2 z0 z1 z2 HOG HMG HUS WT hsm ahQ ahP tM;obtain⟨⟨j0,j1,j2⟩,_⟩:=aay.blk.three;go_upto_region 15 with fail
  clear j0 j1 j2;have aaH:A' (Below base V5 V5):=AI (Below.refl _ _);go_loopw [16,17,18,19,97] (fun av _ _ _ iv wr=>∃ (i q:Nat) (L:List (List Int)),i<=N1/\iv=As AN i/\av=As AN q/\q<=tn/\aa4 (a.nx++ [row]) aaU n1 L/\abc F base bx (An b0 n0 bc0) (An (AM ⟨aaP,0,AF⟩) N1 nc) (An mna N2 mnc) N1 N2 usl msl a.cl (a.mr++ [aa5]) wr L/\ae (· <base) V8 wr) (fun _ _ _ _ iv _=>N1-(intOf iv).toNat);case atStart=>exact⟨0,0,_,by omega,rfl,rfl,by omega,aa4.refl _ _ _,aay,ae.refl _ _⟩
  case round=>
   obtain⟨i,q,L,hi,rfl,rfl,hq,xJ,hga,hx⟩:=hrel;obtain⟨wo,rfl⟩:=ag (wr:Bm);have GL:=AI xJ;have GW:=AI hga;have XO:=AI hx;clear xJ hga hx;obtain⟨⟨j0,j1,j2⟩,_⟩:=GW.blk.three;by_cases hlt:i<N1
   ·skip
    have hii:(i:Int)<N1:=by omega
    obtain⟨aaY,hui⟩:∃ u,usl[i]? =AM u:=⟨_,aB (by rw[HUL.out];exact hlt)⟩;obtain⟨li,hli⟩:∃ l,L[i]? =AM l:=⟨_,aB (by rw[<-GW.ui.1,HUL.out];exact hlt)⟩;have hlk:=GL.lens hLK li (ax hli);have hro:=(GW.ui.2 i aaY li hui hli).1;rw[hlk]at hro;obtain⟨rg,adz,rfl⟩:∃ g c,aaY=An (AM ⟨g,0,AF⟩) n0 c:=by
     rcases hro.2 with⟨_,h⟩ | ⟨g,c,_,h,_⟩
     ·omega
     ·exact⟨g,c,h⟩
    have hc1:wo.cell? ⟨aaP,i,AF⟩=AM (An (AM ⟨rg,0,AF⟩) n0 adz):=(GW.nxo.cellAt i (by omega)).trans hui;have HUI:=AI hui;have HLI:=AI hli;clear hro hlk hli hui;go_upto_region 18 with fail
    clear hc1 j0 j1 j2;go_loopw [16,18,19,106] (fun av _ _ jv wr=>∃ (j q:Nat) (L':List (List Int)) (l':List Int),j<=n0/\jv=As AN j/\av=As AN q/\q<=tn/\aa4 (a.nx++ [row]) aaU n1 L'/\abc F base bx (An b0 n0 bc0) (An (AM ⟨aaP,0,AF⟩) N1 nc) (An mna N2 mnc) N1 N2 usl msl a.cl (a.mr++ [aa5]) wr L'/\L'[i]? =AM l'/\ae (· <base) V8 wr) (fun _ _ _ jv _=>n0-(intOf jv).toNat);case atStart=>exact⟨0,q,L,li,by omega,rfl,rfl,hq,GL,GW,HLI,XO⟩
    case round=>
     obtain⟨j,q2,L2,l2,hj,rfl,rfl,VQ,xJ,hga,hl2,hx⟩:=hrel;obtain⟨wp,rfl⟩:=ag (wr:Bm);have GL2:=AI xJ;have GW2:=AI hga;have XP:=AI hx;have VO:=AI hl2;clear xJ hga hx hl2;by_cases hlj:j<n0
     ·skip
      have jA:(j:Int)<n0:=by omega
      have hlk:=GL2.lens hLK l2 (ax VO);obtain⟨x,hxj⟩:∃ x,l2[j]? =AM x:=⟨_,aB (by omega)⟩;have hro:=(GW2.ui.2 i _ l2 HUI VO).1;rw[hlk]at hro;have hc3:wp.cell? ⟨rg,j,AF⟩=AM (As AN x):=(hro.cellAt j (by omega)).trans (by rw[aN,hxj];rfl);have HXJ:=AI hxj;have Cu:=AI hlk;clear hro hxj hlk;obtain⟨e1,he1⟩:=ag ((x==(aaU:Int)));have te1:(x==(aaU:Int))=e1:=he1.symm;obtain⟨e2,he2⟩:=ag (decide ((q2:Int)<tn));have te2:decide ((q2:Int)<tn)=e2:=he2.symm;have te3:decide (q2<tn)=e2:=by rw[he2];exact decide_eq_decide.2 (by omega)
      have HE1:=AI he1;have HE2:=AI he2;clear he1 he2;cases e1 with
      | false=>
       go_wp2;first | refine⟨?rel,?measure⟩ | go_roundw
       case rel=>exact⟨j+1,q2,L2,l2,by omega,by go_num,rfl,VQ,GL2,GW2,VO,XP⟩
       case measure=>simp[intOf];omega
      | true=>
       cases e2 with
       | false=>
        go_wp2;first | refine⟨?rel,?measure⟩ | go_roundw
        case rel=>exact⟨j+1,q2,L2,l2,by omega,by go_num,rfl,VQ,GL2,GW2,VO,XP⟩
        case measure=>simp[intOf];omega
       | true=>
        go_upto_region 21 with fail
        have ahW:q2<tn:=by simpa using te3
        have ame:(q2:Int)<tn:=by omega
        obtain⟨aaX,htu⟩:∃ t,tl[q2]? =AM t:=⟨_,aB (by rw[<-HTN.out];exact ahW)⟩;have zp:aa V2 wp:=by unfold aa;rw[<-HBS.out];exact Z.trans XP.below
        obtain⟨tb,to9,rfl,htb,ht0⟩:=(aaG.below zp).elem htu;have ht1:wp.cell? ⟨tb,to9+q2,AF⟩=AM (As F_ aaX):=ht0;have hcn:wp.cell? ⟨aaP,i,AF⟩=AM (An (AM ⟨rg,0,AF⟩) n0 adz):=(GW2.nxo.cellAt i (by omega)).trans HUI;have ahX:=((GW2.ui.2 i _ l2 HUI VO).1.lt rg rfl).2;have ahY:=(GW2.nxo.lt aaP rfl).2;clear ht0 htu zp;refine aI GS (fun _=>False) (by kernel_rfl) 18 [0,1,0,7,15,0,63,127,0,0,768,1792,3840,7936,0,0,49152,130816,262143,524287,1048575] (fun i=>i==20) (by kernel_rfl) (fun _=>aU.any _) ?_;intro C hC hne;have HC:=AI hC;have f1:=aD hC (p:=⟨bx,1,AF⟩) GW2.blk.lt (fun h=>h) (GW2.blk.cell 1);have f2:=aD hC (p:=⟨aaP,i,AF⟩) ahY (fun h=>h) hcn;have f3:=aD hC (p:=⟨rg,j,AF⟩) ahX (fun h=>h) hc3;have f4:=aD hC (p:=⟨tb,to9+q2,AF⟩) htb (fun h=>h) ht1;clear hC
        repeat (refine au (fun K hK=>?_);first | (refine bL rfl ?_;try go_simp;refine hK _ _ ?_;clear hK K) | (refine bJ rfl rfl ?_;unfold az;go_simp;refine hK _ _ ?_;clear hK K))
        refine bC (fun W hW hH=>?_);have hM:=(HC.out W).1 hW;have GW3:=AI (GW2.keeps hM.below);have N8:W.cell? ⟨rg,j,AF⟩=AM (As AN x):=f3 ⟨W,hW⟩;have hfz:W.frozen? ⟨rg,j,AF⟩=false:=by
         have h5:=(GW3.ui.2 i _ l2 HUI VO).1;rw[Cu.out]at h5;exact h5.frozenAt _
        have XW:A' (ae (· <base) V8 W):=AI (XP.tr (ae.aj hM.below fun k (hk:k<base)=>by have:=GW2.blk.lt;omega));clear hM hH HC hne f1 f2 f4 hcn ht1 hc3 f3 hW;go_upto_region 22 with fail
        obtain⟨z,hz⟩:=ag (wrap64 (x+wrap64 ((aaX:Int)%2*((n1:Int)-aaU))));rw[<-hz];have hxs:x=(aaU:Int):=by simpa using te1
        have hzz:z=(aaU:Int)\/z=(n1:Int):=by
         rw[hz,hxs];rcases(show(aaX:Int)%2=0\/(aaX:Int)%2=1 by omega)with h2 | h2
         ·left
          rw[h2,Int.zero_mul,E_ 0 (by omega),Int.add_zero];exact E_ _ (by omega)
         ·right
          rw[h2,Int.one_mul,E_ ((n1:Int)-aaU) (by omega),show(aaU:Int)+((n1:Int)-aaU)=n1 by omega];exact E_ _ (by omega)
        obtain⟨L3,ga3,gl3,gn3,gr3⟩:=GW3.set (GL2.lens hLK) HUI VO j z;have GL3:=AI (GL2.step VO gn3 (by rw[<-hxs];exact HXJ) (by omega) hzz gr3);have GW4:=AI ga3;have HL3:=AI gl3;have ah2:=((GW3.ui.2 i _ l2 HUI VO).1.lt rg rfl).1;have XV:A' (ae (· <base) V8 (W.setCell ⟨rg,j,AF⟩ (As AN z))):=AI (XW.tr ((ae.refl _ _).setCell (p:=⟨rg,j,AF⟩) (fun (h:rg<base)=>by omega) _));clear hz hxs hzz ga3 gl3 gn3 gr3 ah2 N8 hfz te1;go_wp2;first | refine⟨?rel,?measure⟩ | go_roundw
        case rel=>exact⟨j+1,q2+1,L3,l2.set j z,by omega,by go_num,by go_num,by omega,GL3,GW4,HL3,XV⟩
        case measure=>simp[intOf];omega
     ·obtain rfl:j=n0:=by omega
      have jA:¬ ((j:Int)<j):=by omega
      go_wp2;first | refine⟨?rel,?measure⟩ | go_roundw
      case rel=>exact⟨i+1,q2,L2,by omega,by go_num,rfl,VQ,GL2,GW2,XP⟩
      case measure=>simp[intOf];omega
   ·obtain rfl:i=N1:=by omega
    have hii:¬ ((i:Int)<i):=by omega
    obtain⟨rb,TF⟩:=aaz.out L GL;have IB:A' (bV wo (B_ #[An b0 n0 bc0,An (AM ⟨aaP,0,AF⟩) i nc,An mna N2 mnc]) ⟨a.cl,L,a.mr++ [aa5]⟩):=AI (GW.df HUL.symm afJ.symm);have aaE:=AI rb;have ZE:=AI TF;have hbo:base<=wo.heap.size:=by have:=GW.blk.lt;omega
    replace Z:=AI (Z.trans XO.below);clear rb TF aay GL aaz HUL afJ hLK adB acx XO ady GW HRW Yy HMR yn afF ahS ahU ahO afI anO hlim;go_wp2_with fail
    refine(CC wo _ _ aaE ZE IB).mono ?_;rintro e v1 ⟨x3,y3,x4,y4,x5,y5,rfl,hd,hx⟩;have DQ:=AI hd.df;replace Z:=AI (Z.trans (hx.mono hbo));have afK:=D_ hbo hx.size;clear hd hx aaE ZE IB j0 j1 j2;go_upto_region 26 with fail
    refine aw ?_;intro V10 hV;have hb0:aa v1 V10:=by rw[hV];exact((Ext.refl v1).alloc _).below
    have aan:A' (ar V10 v1.heap.size #[An x3 k0 y3,An x4 k1 y4,An x5 k2 y5] 29):=AI (by rw[hV];exact ar.new _ _ _);replace DQ:=AI (DQ.below hb0);have hb:aa V2 V10:=by unfold aa;rw[<-HBS.out];exact Z.trans (hb0.mono afK)
    replace X:=AI (X.trans (hb.mono X.size));replace DA:=AI (DA.below hb);replace BA:=AI (BA.below hb BA.lt);replace DP:=AI (DP.below hb);replace aah:=AI (aah.below hb aah.lt);clear hV hb hb0 hbo afK Z HBS aaG HTN;obtain⟨⟨i0,i1,i2⟩,_⟩:=BA.three;go_wp2_with fail
    refine(CP V10 _ DA).mono ?_;rintro e v2 ⟨g0,gc0,g1,gc1,g2,gc2,_,rfl,_,h0,h1,h2,hx⟩;replace X:=AI (X.trans (hx.mono X.size));replace DA:=AI (DA.below hx);replace BA:=AI (BA.below hx BA.lt);replace DP:=AI (DP.below hx);replace aah:=AI (aah.below hx aah.lt);replace aan:=AI (aan.below hx aan.lt);replace DQ:=AI (DQ.below hx);have aaw:A' (bV v2 (B_ #[An g0 n0 gc0,An g1 n1 gc1,An g2 n2 gc2]) a):=AI ⟨_,_,_,rfl,fD (by rw[<-pS.out];exact h0),h1.own.ll,h2.ll⟩;clear h0 h1 h2 hx;clear i0 i1 i2;have ZC:A' (aa v2 v2):=AI (Below.refl _ _);have DCF:A' (bV v2 (B_ #[An g0 n0 gc0,An g1 n1 gc1,An g2 n2 gc2]) a):=AI aaw.out;go_upto_region 27 with fail
    refine aw ?_;intro V3 hV;have hb:aa v2 V3:=by rw[hV];exact((Ext.refl v2).alloc _).below
    have kb:ar V3 v2.heap.size #[An g0 n0 gc0,An g1 n1 gc1,An g2 n2 gc2] 29:=by rw[hV];exact ar.new _ _ _
    replace ZC:=AI (ZC.trans (hb.mono ZC.size));replace aaw:=AI (aaw.below hb);have BC:=AI kb;clear hb kb hV;obtain⟨⟨j0,j1,j2⟩,_⟩:=BC.three;have hnz:¬ (n0=0):=by omega
    have ae2:¬ ((n0:Int)=0):=by omega
    have afL:(cb:Int)% (n0:Int)=(aaM:Int):=HRK.out;go_upto_region 28 with fail
    rw[afL];obtain⟨s,hs⟩:∃ s,a.cl[aaM]? =AM s:=⟨_,aB (by rw[<-pS.out];exact Cq)⟩;obtain⟨fi,hfi⟩:=ag ((aV s).1);obtain⟨isb,ae7⟩:=ag ((aV s).2);obtain⟨sz,hsz⟩:=ag ((bK s 256).length);obtain⟨q1,NT⟩:=ag (decide (1<sz));obtain⟨aaI,TG⟩:=ag ((isb&&q1));obtain⟨one,ae8⟩:=ag (abf fi);obtain⟨rst,ae9⟩:=ag (s&&& ~~~one);obtain⟨M1,hM1⟩:=ag (n0+1);obtain⟨CLS,hCC⟩:=ag (acw a aaM one rst);have aaW:decide (1<sz)=q1:=NT.symm;have tqi:decide ((1:Int)<sz)=q1:=by rw[NT];exact decide_eq_decide.2 (by omega)
    have CF:A' (∀ W,ah 23 #[B_ (encS s)] W fun e w'=>e=AS (G' #[As F_ fi,D0 isb])/\Ext W w'):=AI fun W=>by rw[hfi,ae7];exact yK s W
    have CZ:A' (∀ W,ah 24 #[B_ (encS s)] W fun e w'=>e=AS (As AN sz)/\Ext W w'):=AI fun W=>by rw[hsz];exact aem s W
    have CL9:A' (∀ W,ah 26 #[B_ (encS s),B_ (encS one)] W fun e w'=>e=AS (B_ (encS rst))/\Ext W w'):=AI fun W=>by rw[ae9];exact uV s one W
    have HPO:A' (aaI=Cd->fi<256/\∀ o:List Nat,o.Perm (C_ M1)->(o.map fun j=>CLS.getD j 0).Pairwise (fun x y=>(!ltOf aW y x)=Cd)->Rt (aeL a CLS o aaM)/\dJ (aeL a CLS o aaM)=p):=AI fun h=>by
     rw[TG,H_,ae7,NT,hsz]at h;obtain⟨p0,p1,p2,p3,p4⟩:=aeB h.1 (of_decide_eq_true h.2);rw[<-hfi, <-ae8]at p1 p2 p3 p4;rw[<-ae9]at p2 p3 p4;refine⟨by rw[hfi];exact p0,fun o ho hp=>?_⟩;rw[hCC]at hp ⊢;rw[hM1,pS.out]at ho;obtain⟨h6,h7⟩:=acp RA (by rw[<-pS.out];exact Cq) p1 p2 p3 (fun x=>by rw[getD_some hs];exact p4 x) (adt ho hp);exact⟨h6,by rw[HP.out];exact h7.symm⟩
    have HCG:A' (∀ j,j<M1->CLS[j]? =AM (if j=aaM then one else(a.cl++ [rst]).getD j 0)):=AI fun j hj=>by
     rw[hM1,pS.out]at hj;rw[hCC];unfold acw;rw[aN,IN hj];show AM (clP a aaM one rst j)=_;unfold clP;have hk5:aaM<a.cl.length:=by rw[<-pS.out];exact Cq
     by_cases e1:j=a.cl.length
     ·rw[if_pos e1,if_neg (by omega),e1]
      simp
     ·rw[if_neg e1]
      by_cases e2:j=aaM
      ·rw[if_pos e2,if_pos e2]
      ·rw[if_neg e2,if_neg e2,bB,bB,bH (by omega)]
    have aeG:A' (CLS.length=M1):=AI (by rw[hCC,aeD,hM1,pS.out]);have HCD:=AI TG;have HM1:=AI hM1;have HS:=AI hs;have ah9:=AI ae8;have amj:(aaM:Int)<n0:=by omega
    clear hfi ae7 hsz NT TG ae8 ae9 hM1 hCC hs hnz ae2 afL;obtain⟨_,_,_,ev,hc0,_,_⟩:=aaw.out;cases ev;obtain⟨cb9,co9,rfl,abO,s0,s1,s2,s3⟩:=hc0.1.elem HS;go_wp2_with fail
    refine(CF _).mono ?_;rintro e v3 ⟨rfl,hx⟩;have hb:=hx.below;clear s0 s1 s2 s3 hc0 abO hx CF j0 j1 j2;replace ZC:=AI (ZC.trans (hb.mono ZC.size));replace aaw:=AI (aaw.below hb);replace BC:=AI (BC.below hb BC.lt);clear hb;go_upto_region 29 with fail
    go_cut [175] from 166 to 175 (fun v wx=>v=D0 aaI/\aa v3 wx)
    case first=>
     cases isb with
     | false=>
      go_wp2_with fail
      go_meet
      exact⟨by rw[HCD.out];rfl,Below.refl _ _⟩
     | true=>
      obtain⟨⟨j0,j1,j2⟩,_⟩:=BC.three;obtain⟨_,_,_,ev,hc0,_,_⟩:=aaw.out;cases ev;obtain⟨_,_,e9,abO,s0,s1,s2,s3⟩:=hc0.1.elem HS;cases e9;go_wp2_with fail
      refine(CZ _).mono ?_;rintro e v4 ⟨rfl,hx⟩;go_wp2
      go_meet
      exact⟨by rw[HCD.out];rfl,hx.below⟩
    case rest=>
    obtain⟨rfl,Te⟩:=hcut;obtain⟨V12,rfl⟩:=ag (wc:Bm);replace ZC:=AI (ZC.trans (Te.mono ZC.size));replace aaw:=AI (aaw.below Te);replace BC:=AI (BC.below Te BC.lt);clear Te CZ
    go_upto_if 175 with fail
    go_cut [26,27,28,29,30,31] from 176 to 219 (fun _ _ _ _ _ _ wx=>∃ u0 c0 u1 c1 u2 c2 m0 c',ar wx v2.heap.size #[An u0 m0 c0,An u1 n1 c1,An u2 n2 c2] 29/\bV wx (B_ #[An u0 m0 c0,An u1 n1 c1,An u2 n2 c2]) c'/\Rt c'/\dJ c'=p/\aa v2 wx)
    case first=>
     cases aaI with
     | false=>
      go_wp2_with fail
      go_meet
      exact⟨_,_,_,_,_,_,_,a,BC,aaw,RA,HP.symm,ZC⟩
     | true=>
      obtain⟨hf6,hpo⟩:=HPO.out rfl;have Gf:=AI hpo;have CO:A' (∀ W b,ar W b #[As F_ fi] 5->ah 25 #[An (AM ⟨b,0,AF⟩) 1 1] W fun e w'=>e=AS (B_ (encS one))/\Ext W w'):=AI fun W b hb=>by
       rw[ah9.out];exact aeT [fi] (fun c h=>by rw[I'.1 h];exact hf6) b 0 1 W (by simp) hb.lt fun i x hi=>by
        have hi0:i=0:=by have:=(B'.1 hi).1;simp at this;omega
        subst hi0;cases hi;exact hb.cell 0
      clear hf6 hpo HPO HCD;have hm9:M1<=1000001:=by have:=HM1.out;omega
      go_wp2_with fail
      refine(CO _ _ (ar.new _ _ _)).mono ?_;rintro e v5 ⟨rfl,hx⟩;have hb:aa V12 v5:=((Ext.refl V12).alloc _).below.trans (hx.below.mono (by simp));clear hx CO;replace ZC:=AI (ZC.trans (hb.mono ZC.size));replace aaw:=AI (aaw.below hb);replace BC:=AI (BC.below hb BC.lt);clear hb;go_upto_region 31 with fail
      refine aw ?_;intro V13 hV;have hb:aa v5 V13:=by rw[hV];exact((Ext.refl v5).alloc _).below
      have BO:A' (ar V13 v5.heap.size (encS one) 56):=AI (by rw[hV];exact ar.new _ _ _);replace ZC:=AI (ZC.trans (hb.mono ZC.size));replace aaw:=AI (aaw.below hb);replace BC:=AI (BC.below hb BC.lt);clear hV hb;obtain⟨⟨j0,j1,j2⟩,_⟩:=BC.three;obtain⟨_,_,_,ev,hc0,_,_⟩:=aaw.out;cases ev;obtain⟨_,_,e9,abO,s0,s1,s2,s3⟩:=hc0.1.elem HS;cases e9;refine aI GS (fun _=>False) (by kernel_rfl) 8 [0,1,0,7,15,0,63,0,255] (fun i=>i==6 || i==7 || i==8) (by kernel_rfl) (fun i=>if i=6 then aU.Cm _ (B_ (encS rst))else if i=7 then aU.ue V13.heap.size #[As AT 0,As AT 0,As AT 0,As AT 0] 56 else aU.any _) ?_;intro C hC hne;have HC:=AI hC;have f0:=aD hC (p:=⟨v2.heap.size,0,AF⟩) BC.lt (fun h=>h) j0;have f1:=aD hC (p:=⟨cb9,co9+aaM*4,AF⟩) abO (fun h=>h) s0;have f2:=aD hC (p:=⟨cb9,co9+aaM*4+1,AF⟩) abO (fun h=>h) s1;have f3:=aD hC (p:=⟨cb9,co9+aaM*4+2,AF⟩) abO (fun h=>h) s2;have f4:=aD hC (p:=⟨cb9,co9+aaM*4+3,AF⟩) abO (fun h=>h) s3;obtain⟨o0,o1,o2,o3⟩:=aeU hC BO;clear hC s0 s1 s2 s3 abO hc0 j0 j1 j2
      repeat (refine au (fun K hK=>?_);first | (refine bL rfl ?_;try go_simp;refine hK _ _ ?_;clear hK K) | (refine bJ rfl rfl ?_;unfold az;go_simp;refine hK _ _ ?_;clear hK K))
      refine au (fun K hK=>?_);refine bS rfl rfl (aU.Cm _ (B_ (encS rst))) rfl (fun W hW hN=>?_) (fun v hv=>?_)
      ·have hM:=(HC.out W).1 hW
       clear hW;go_simp;refine bA ((CL9 W).mono ?_);rintro e w9 ⟨rfl,hx⟩;exact⟨_,rfl,Move.Xn hx,rfl,trivial⟩
      replace hv:v=_:=hv;subst hv;go_simp;refine hK _ _ ?_;clear hK K
      repeat (refine au (fun K hK=>?_);first | (refine bL rfl ?_;try go_simp;refine hK _ _ ?_;clear hK K) | (refine bJ rfl rfl ?_;unfold az;go_simp;refine hK _ _ ?_;clear hK K))
      refine au (fun K0 hK=>?_);refine bS rfl rfl (aU.ue V13.heap.size #[As AT 0,As AT 0,As AT 0,As AT 0] 56) rfl (fun W hW hN=>?_) (fun v hv=>?_)
      ·have hM:=(HC.out W).1 hW
       have nI:=hM.size;clear hW hN hK K0;go_simp;exact⟨Move.aj ((Ext.refl _).alloc _).below,⟨_,rfl⟩,fun b hb=>by cases hb;exact⟨ar.new _ _ _,nI⟩⟩
      obtain⟨ob,rfl⟩:=hv;go_simp;refine hK _ _ ?_;clear hK K0;refine bC (fun W14 hW hH=>?_);have hM:=(HC.out W14).1 hW;have hb8:(aU.ue V13.heap.size #[As AT 0,As AT 0,As AT 0,As AT 0] 56).H (A_ (AM ⟨ob,0,AF⟩)) W14:=hH _ (ax (show _=AM _ from rfl:_[0]? =AM _));have BZ:=AI (hb8 ob rfl);have Tv:=AI hM.below;clear hM hW hH HC hne f0 f1 f2 f3 f4 o0 o1 o2 o3 hb8 CL9;have x0:=BZ.1.cell 0;have x1:=BZ.1.cell 1;have x2:=BZ.1.cell 2;have x3:=BZ.1.cell 3;have z0:=BZ.1.frozen 0;have z1:=BZ.1.frozen 1;have z2:=BZ.1.frozen 2;have z3:=BZ.1.frozen 3;simp only[DH,C',H']at x0 x1 x2 x3;go_upto_region 32 with fail
      refine aw ?_;intro V15 hV;have BR9:A' (ar V15 ob (encS rst) 56):=AI (by rw[hV];exact(((BZ.1.set 0 _).set 1 _).set 2 _).set 3 _);have K15:ae (· ≠ob) W14 V15:=by rw[hV];exact((((ae.refl _ _).setCell (p:=⟨ob,0,AF⟩) (fun h=>h rfl) _).setCell (p:=⟨ob,1,AF⟩) (fun h=>h rfl) _).setCell (p:=⟨ob,2,AF⟩) (fun h=>h rfl) _).setCell (p:=⟨ob,3,AF⟩) (fun h=>h rfl) _
      have hob:=BZ.2;have hb:aa V13 V15:=Tv.trans (K15.mono fun x (hx:x<V13.heap.size)=>by show x≠ob;omega:ae (· <V13.heap.size) W14 V15).below;replace ZC:=AI (ZC.trans (hb.mono ZC.size));replace aaw:=AI (aaw.below hb);replace BC:=AI (BC.below hb BC.lt);replace BO:=AI (BO.below hb BO.lt);have HVO:A' (v5.heap.size<V15.heap.size):=AI BO.lt;have HV2:A' (v2.heap.size<V15.heap.size):=AI BC.lt;clear hV K15 hob hb BZ Tv x0 x1 x2 x3 z0 z1 z2 z3;go_upto_region 34 with fail
      refine aw ?_;intro V16 hV;have BK:A' (ar V16 V15.heap.size #[An AF 0 0] 26):=AI (by rw[hV];exact(ar.new V15 _ _).alloc _);have BE0:A' (ar V16 (V15.heap.size+1) #[] 3):=AI (by rw[hV];exact(ar.new (V15.alloc _) _ _).at (by simp));have hb:aa V15 V16:=by rw[hV];exact(((Ext.refl V15).alloc _).alloc _).below
      replace ZC:=AI (ZC.trans (hb.mono ZC.size));replace aaw:=AI (aaw.below hb);replace BC:=AI (BC.below hb BC.lt);replace BO:=AI (BO.below hb BO.lt);replace BR9:=AI (BR9.below hb BR9.lt);have amm:V15.heap.size+1<V16.heap.size:=BE0.lt;clear hV hb;obtain⟨⟨j0,j1,j2⟩,_⟩:=BC.three;obtain⟨r0,r1,r2,r3⟩:=BR9.K1;have SC:A' (gF V16 (An (AM ⟨cb9,co9,AF⟩) n0 gc0) a.cl):=AI (by obtain⟨_,_,_,ev,hc0,_,_⟩:=aaw.out;cases ev;exact hc0);have aaF:A' (a.cl.length=n0):=AI pS.symm;have hAL:a.cl.length<=1000000:=by rw[aaF.out];exact ZN
      refine br (fC V16.heap.size (abM V16.heap.size n0 (aL a.cl) rst)) (fC.below (abd _ _ _ _) (Ext.refl V16).drew.below) (fun _ _ _ h k=>h.trans k) (by kernel_rfl) 8 [0,1,3,0,8,31,63,0] (fun i=>i==2 || i==4 || i==5) (by kernel_rfl) (fun i=>if i=2 then aU.fact _ _ 0 (fun v=>∃ a c,v=An a n0 c) (An AF n0 0) ⟨AF,0,rfl⟩else if i=4 then aU.fact _ _ 2 (fun v=>∃ b,v=An (AM ⟨b,0,AF⟩) 1 1) (An (AM ⟨0,0,AF⟩) 1 1) ⟨0,rfl⟩else if i=5 then aU.fact _ _ 1 (fun v=>∃ a c,v=An a M1 c) (An AF M1 0) ⟨AF,0,rfl⟩else aU.any _) ?_;intro aav hC hne;have HC:=AI hC;have aaN:∀ W: {W//aav W},ae (· <V16.heap.size) V16 W.1:=fun W=>((hC W.1).1 W.2).1.mono fun z hz=>⟨hz,hz⟩
      have f0:=fun W=>((aaN W).cell (p:=⟨v2.heap.size,0,AF⟩) BC.lt).trans j0
      have f1:=fun W=>((aaN W).cell (p:=⟨ob,0,AF⟩) BR9.lt).trans r0
      have f2:=fun W=>((aaN W).cell (p:=⟨ob,1,AF⟩) BR9.lt).trans r1
      have f3:=fun W=>((aaN W).cell (p:=⟨ob,2,AF⟩) BR9.lt).trans r2
      have f4:=fun W=>((aaN W).cell (p:=⟨ob,3,AF⟩) BR9.lt).trans r3
      clear hC aaN j0 j1 j2 r0 r1 r2 r3
      repeat (refine au (fun K hK=>?_);first | (refine bL rfl ?_;try go_simp;refine hK _ _ ?_;clear hK K) | (refine bJ rfl rfl ?_;unfold az;go_simp;refine hK _ _ ?_;clear hK K))
      refine au (fun K0 hK=>?_);refine bS rfl rfl (aU.fact _ _ 0 (fun v=>∃ a c,v=An a n0 c) (An AF n0 0) ⟨AF,0,rfl⟩) rfl (fun W hW hN=>?_) (fun v hv=>?_)
      ·have tT:=(HC.out W).1 hW
       have nI:=tT.1.size;have Zp:aa V16 W:=(tT.1.mono fun z (hz:z<V16.heap.size)=>⟨hz,hz⟩:ae (· <V16.heap.size) V16 W).below;clear hW hK K0 hN tT;go_simp;refine bA ((kG _ a.cl W ⟨SC.1.below Zp,SC.2⟩ hAL).mono ?_);rintro e w99 ⟨u,rfl,ho,hx⟩;rw[aaF.out]at ho;have GG:=aC ho nI;exact⟨_,rfl,fC.below (abd _ _ _ _) hx,ownsRow_form GG,GG⟩
      obtain⟨ka,kc,rfl⟩:=hv;go_simp;refine hK _ _ ?_;clear hK K0
      repeat (refine au (fun K hK=>?_);first | (refine bL rfl ?_;try go_simp;refine hK _ _ ?_;clear hK K) | (refine bJ rfl rfl ?_;unfold az;go_simp;refine hK _ _ ?_;clear hK K))
      refine au (fun K0 hK=>?_);refine bS rfl rfl (aU.fact _ _ 2 (fun v=>∃ b,v=An (AM ⟨b,0,AF⟩) 1 1) (An (AM ⟨0,0,AF⟩) 1 1) ⟨0,rfl⟩) rfl (fun W hW hN=>?_) (fun v hv=>?_)
      ·have tT:=(HC.out W).1 hW
       have nI:=tT.1.size;have Zp:aa V16 W:=(tT.1.mono fun z (hz:z<V16.heap.size)=>⟨hz,hz⟩:ae (· <V16.heap.size) V16 W).below;clear hW hK K0 hN tT;exact DG 26 56 _ rfl GO hiS Mg Mh (by decide) (by decide) (encS rst) rfl (jy _) ⟨fC.below (abd _ _ _ _) ((Ext.refl _).alloc _).below,⟨_,rfl⟩,fun b hb=>by cases hb;exact ar.new _ _ _⟩
      obtain⟨xb,rfl⟩:=hv;go_simp;refine hK _ _ ?_;clear hK K0;refine au (fun K0 hK=>?_);refine bS rfl rfl (aU.fact _ _ 1 (fun v=>∃ a c,v=An a M1 c) (An AF M1 0) ⟨AF,0,rfl⟩) rfl (fun W hW hN=>?_) (fun v hv=>?_)
      ·have tT:=(HC.out W).1 hW
       have nI:=tT.1.size;have Zp:aa V16 W:=(tT.1.mono fun z (hz:z<V16.heap.size)=>⟨hz,hz⟩:ae (· <V16.heap.size) V16 W).below;have h0:W.ownsRow V16.heap.size 56 4 (An ka n0 kc) n0 (aL a.cl):=hN.at 1 rfl (by kernel_rfl);have Pt:∀ b,(An (AM ⟨xb,0,AF⟩) 1 1:Bs)=An (AM ⟨b,0,AF⟩) 1 1->ar W b (encS rst) 56:=hN.at 0 rfl (by kernel_rfl);clear hW hK K0 hN tT;refine qP (.tmp 189) (.tmp 191) 26 rfl V16.heap.size 56 iS (B_ #[As AT 0,As AT 0,As AT 0,As AT 0]) 4 32 GO hiS Mg Mh Mi rfl (by decide) (An ka n0 kc) n0 (aL a.cl) rfl h0 (An (AM ⟨xb,0,AF⟩) 1 1) 1 (encS rst).toList rfl (.inr ⟨⟨xb,0,AF⟩,1,rfl,cC (Pt xb rfl)⟩) (by rw[IT,jy]) (by simp[encS,D']) (by unfold maxLen;omega) (by omega) nI ?_;intro v' w' ho hg halt;rw[<-HM1.out]at ho;have ho3:=ho;rw[HM1.out]at ho3;rcases halt with hb | ⟨g,cap,y1,y2,y3⟩
       ·exact⟨fC.below (abd _ _ _ _) hb,ownsRow_form ho,ho3⟩
       ·rw[<-HM1.out]at y2
        subst y2;rw[y1]at h0 hg;rw[HM1.out]at ho;exact⟨⟨ae.aZ hg fun x hx=>⟨hx.2,fun e=>by cases e;have:=(h0.lt _ rfl).1;have:=hx.1;omega⟩,acz mj h0 (by rw[<-HM1.out]at ho3 ⊢;exact ho3) hg⟩,⟨_,_,rfl⟩,ho3⟩
      obtain⟨ya,yc,rfl⟩:=hv;go_simp;refine hK _ _ ?_;clear hK K0
      repeat (refine au (fun K hK=>?_);first | (refine bL rfl ?_;try go_simp;refine hK _ _ ?_;clear hK K) | (refine bJ rfl rfl ?_;unfold az;go_simp;refine hK _ _ ?_;clear hK K))
      refine bC (fun W17 hW hH=>?_);have tT:=(HC.out W17).1 hW;have hA:=hH _ (ax (show _=AM _ from rfl:_[0]? =AM _));have hA:W17.ownsRow V16.heap.size 56 4 (An ya M1 yc) (n0+1) (aL a.cl++(encS rst).toList):=hA;rw[<-HM1.out, <-Lf, <-gy]at hA;have aae:=AI hA;have aib:A' (V16.heap.size<=W17.heap.size):=AI tT.1.size;have hb:aa V16 W17:=(tT.1.mono fun z (hz:z<V16.heap.size)=>⟨hz,hz⟩:ae (· <V16.heap.size) V16 W17).below;replace ZC:=AI (ZC.trans (hb.mono ZC.size));replace aaw:=AI (aaw.below hb);replace BC:=AI (BC.below hb BC.lt);replace BO:=AI (BO.below hb BO.lt);replace BR9:=AI (BR9.below hb BR9.lt);replace BK:=AI (BK.below hb BK.lt);replace BE0:=AI (BE0.below hb BE0.lt);clear tT hW hH HC hne f0 f1 f2 f3 f4 hA SC hAL hb;go_upto_region 35 with fail
      have h16:V16.heap.size<=W17.heap.size:=aib.out;have SA:A' ((a.cl++ [rst]).length=M1):=AI (by rw[aJ,HM1.out,aaF.out];rfl);go_loopw [29,30,31,194] (fun ov _ _ jv wr=>∃ (j:Nat) (cx:Option MY) (aaJ:Nat),j<=M1/\jv=As AN j/\(∃ aaR aaS,ov=An aaR j aaS)/\(∀ x,ov.ownBlock=AM x->x=V15.heap.size+1\/W17.heap.size<=x)/\ar wr V15.heap.size #[An cx j aaJ] 26/\wr.ownsRow W17.heap.size 56 4 (An cx j aaJ) j (aL (CLS.take j))/\wr.ownsRow (V15.heap.size+1) 3 1 ov j ((C_ j).map cK)/\ae (fun x=>x<W17.heap.size/\x≠V15.heap.size/\x≠V15.heap.size+1) W17 wr) (fun _ _ _ jv _=>M1-(intOf jv).toNat);case atStart=>exact⟨0,AF,0,by omega,rfl,⟨_,_,rfl⟩,fun x e=>.inl (by have e:AM (V15.heap.size+1)=AM x:=e;injection e with e;exact e.symm),BK,World.ownsRow_nil _ _ _ _,⟨rfl,.inr ⟨_,0, #[],rfl,aF _,BE0,aF _,by simp,rfl,rfl⟩⟩,ae.refl _ _⟩
      case round=>
       obtain⟨j,cx,aaJ,hj,rfl,⟨aaR,aaS,rfl⟩,hob9,Vp,hcw,hw5,hx⟩:=hrel;obtain⟨wo,rfl⟩:=ag (wr:Bm);have HOB:=AI hob9;have KB:=AI Vp;have CW:=AI hcw;have OW:=AI hw5;have XO:=AI hx;clear hob9 Vp hcw hw5 hx;by_cases hlt:j<M1
       ·skip
        have jA:(j:Int)<M1:=by omega
        have ARW:=ak aae XO fun x e=>⟨(aae.lt x e).2,by have:=(aae.lt x e).1;omega,by have:=(aae.lt x e).1;omega⟩
        obtain⟨y,hy⟩:∃ y,(a.cl++ [rst])[j]? =AM y:=⟨_,aB (by rw[SA.out];exact hlt)⟩;obtain⟨yb,aa0,rfl,hyb,t0,t1,t2,t3⟩:=(fD (l:=a.cl++ [rst]) (by rw[SA.out];exact ARW)).1.elem hy;obtain⟨cj,hcj⟩:=ag (if j=aaM then one else y)
        have HT:A' (aL (CLS.take (j+1))=aL (CLS.take j)++(encS cj).toList):=AI (by
         have h5:=HCG.out j hlt;rw[getD_some hy, <-hcj]at h5
         rw[J',h5,gy, <-Lf];rfl)
        have HTI:A' ((C_ (j+1)).map cK=(C_ j).map cK++ [As AN j]):=AI (by rw[List.range_succ,Is];rfl);have F8:W17.heap.size<=wo.heap.size:=XO.size;have BOW:=AI (BO.keeps XO ⟨BO.lt,by have:=HVO.out;omega,by have:=HVO.out;omega⟩);obtain⟨e1,he1⟩:=ag (((j:Int)==(aaM:Int)));have te1:((j:Int)==(aaM:Int))=e1:=he1.symm;have HE1:=AI he1;have HCJ:=AI hcj;clear ARW hy hcj he1;go_upto_region 37 with fail
        refine aw ?_;intro V30 hV;have BY:A' (ar V30 wo.heap.size (encS y) 56):=AI (by rw[hV];exact ar.new _ _ _);have nX:A' (Ext wo V30):=AI (by rw[hV];exact(Ext.refl _).alloc _);clear hV t0 t1 t2 t3 hyb
        go_upto_if 201 with fail
        go_cut [202] from 202 to 202 (fun _ wx=>ar wx wo.heap.size (encS cj) 56/\ae (· ≠wo.heap.size) V30 wx)
        case first=>
         cases e1 with
         | false=>
          have e2:cj=y:=by rw[HCJ.out,if_neg];intro e;have:=HE1.out;rw[e]at this;simp at this
          go_wp2_with fail
          go_meet
          exact⟨by rw[e2];exact BY,ae.refl _ _⟩
         | true=>
          have e2:cj=one:=by rw[HCJ.out,if_pos];have:=HE1.symm;simp at this;omega
          obtain⟨o0,o1,o2,o3⟩:=(BOW.ext nX).K1;have x0:=BY.cell 0;have x1:=BY.cell 1;have x2:=BY.cell 2;have x3:=BY.cell 3;have z0:=BY.frozen 0;have z1:=BY.frozen 1;have z2:=BY.frozen 2;have z3:=BY.frozen 3;simp only[encS,DH,C',H']at x0 x1 x2 x3;go_wp2_with fail
          go_meet
          exact⟨by rw[e2];exact(((BY.set 0 _).set 1 _).set 2 _).set 3 _,((((ae.refl _ _).setCell (p:=⟨wo.heap.size,0,AF⟩) (fun h=>h rfl) _).setCell (p:=⟨wo.heap.size,1,AF⟩) (fun h=>h rfl) _).setCell (p:=⟨wo.heap.size,2,AF⟩) (fun h=>h rfl) _).setCell (p:=⟨wo.heap.size,3,AF⟩) (fun h=>h rfl) _⟩
        case rest=>
        obtain⟨hB9,hK9⟩:=hcut;obtain⟨V31,rfl⟩:=ag (wc:Bm);have hEK:ae (· <wo.heap.size) wo V31:=(ae.aj nX.below (R:=(· <wo.heap.size)) fun _ h=>h).tr (hK9.mono fun x (hx:x<wo.heap.size)=>by show x≠wo.heap.size;omega);have aaf:=AI hB9;replace KB:=AI (KB.keeps hEK KB.lt);replace CW:=AI (ak CW hEK fun x e=>(CW.lt x e).2);replace OW:=AI (ak OW hEK fun x e=>(OW.lt x e).2);replace XO:=AI (XO.tr (hEK.mono fun x hx=>by have:=hx.1;show x<wo.heap.size;omega));have aij:W17.heap.size<=V31.heap.size:=D_ F8 hEK.size;obtain⟨o0,o1,o2,o3⟩:=aaf.K1;have k0:V31.cell? ⟨V15.heap.size,0,AF⟩=AM (An cx j aaJ):=KB.cell 0;clear hB9 hK9 hEK BY nX BOW HE1 HCJ te1;go_wp2_with (at_builtin;refine Hid.out ?_);refine AI ?_;refine Ft _ rfl (.tmp 203) (.tmp 205) 26 rfl W17.heap.size 56 iS (B_ #[As AT 0,As AT 0,As AT 0,As AT 0]) 4 32 GO hiS Mg Mh Mi rfl (by decide) (An cx j aaJ) j _ rfl (CW.alloc _) ⟨V31.heap.size,0,AF⟩ 1 1 (encS cj).toList rfl (by rw[IT,jy]) (cC (ar.new V31 _ _)) (by simp[encS,D']) (by unfold maxLen;omega) (by omega) (by simp;omega) ?_;intro v' w5 hown' hgrow hh hat;obtain⟨cx2,cy2,rfl⟩:=ownsRow_form hown';have ha1:aa V31 (V31.alloc (.cells (encS cj) 56)):=((Ext.refl V31).alloc _).below
        have OW5:=AI ((OW.alloc (.cells (encS cj) 56)).kept hgrow (by
         rcases ownBlock_ne (by decide) OW CW.out with h | h
         ·exact .inl h
         ·exact .inr h))
        have CW5:=AI hown';have abO:∀ x,(An cx j aaJ).ownBlock=AM x->W17.heap.size<=x:=fun x e=>(CW.lt x e).1
        have K5:A' (ae (fun x=>x<W17.heap.size) V31 w5):=AI ((ae.aj ha1 (R:=fun x=>x<W17.heap.size) fun x (hx:x<W17.heap.size)=>by omega).tr (ae.aZ hgrow fun x hx=>⟨by have hx:x<W17.heap.size:=hx;simp;omega,fun e=>by have:=abO x e.symm;have hx:x<W17.heap.size:=hx;omega⟩));have hs5:W17.heap.size<=w5.heap.size:=D_ aij K5.size;clear hown' hgrow hh hat ha1 abO o0 o1 o2 o3 k0;go_wp2_with (at_builtin;refine Hid.out ?_);refine AI ?_;refine Ft _ rfl (.tmp 207) (.tmp 209) 39 rfl (V15.heap.size+1) 3 iI (As AN 0) 1 8 Tryz.underlying39 uD jl jm jn rfl (by decide) (An aaR j aaS) j _ rfl (OW5.alloc _) ⟨w5.heap.size,0,AF⟩ 1 1 [As AN j] rfl rfl (dO _ _ _) (by simp[D']) (by unfold maxLen;omega) (by omega) (by simp;omega) ?_;intro v' w6 hown' hgrow hh hat;obtain⟨ox2,oy2,rfl⟩:=ownsRow_form hown'
        have CW6:=AI ((CW5.alloc (.cells #[As AN j] 3)).kept hgrow (by
         rcases ownBlock_ne (by decide) CW5 OW5.out with h | h
         ·exact .inl h
         ·exact .inr h))
        have OW6:=AI hown';have afR:∀ x,(An ox2 (j+1) oy2).ownBlock=AM x->x=V15.heap.size+1\/W17.heap.size<=x:=fun x e=>by
         rcases hat with h | h
         ·exact HOB x (h.symm.trans e)
         ·rw[h]at e;injection e with e;right;simp at e;omega
        have K6:A' (ae (fun x=>x<W17.heap.size/\x≠V15.heap.size+1) w5 w6):=AI ((ae.aj ((Ext.refl w5).alloc (.cells #[As AN j] 3)).below (R:=fun x=>x<W17.heap.size/\x≠V15.heap.size+1) fun x hx=>by have:=hx.1;omega).tr (ae.aZ hgrow fun x hx=>⟨by have:=hx.1;simp;omega,fun e=>by
         rcases HOB.out x e.symm with h | h
         ·exact hx.2 h
         ·have:=hx.1;omega⟩))
        have afa:V15.heap.size<W17.heap.size:=by omega
        have K56:A' (ae (fun x=>x<W17.heap.size/\x≠V15.heap.size+1) V31 w6):=AI ((K5.mono fun x hx=>hx.1).tr K6);have KB6:=AI (KB.keeps K56 ⟨afa,by omega⟩);have HB6:=AI afR;have k0:w6.cell? ⟨V15.heap.size,0,AF⟩=AM (An cx j aaJ):=KB6.cell 0;have aaO:w6.frozen? ⟨V15.heap.size,0,AF⟩=false:=KB6.frozen 0;clear hown' hgrow hh hat afR K5 K6 CW5 OW5;go_wp2;first | refine⟨?rel,?measure⟩ | go_roundw
        case rel=>
         have kg:ae (· ≠V15.heap.size) w6 (w6.setCell ⟨V15.heap.size,0,AF⟩ (An cx2 (j+1) cy2)):=(ae.refl _ _).setCell (p:=⟨V15.heap.size,0,AF⟩) (fun h=>h rfl) _;refine⟨j+1,cx2,cy2,by omega,by go_num,⟨_,_,rfl⟩,HB6,KB6.set 0 _,?_,?_,(XO.tr (K56.mono fun x hx=>⟨hx.1,hx.2.2⟩)).tr (kg.mono fun x hx=>hx.2.1)⟩
         ·rw[HT.out]
          exact ak CW6 kg fun x e=>by have:=(CW6.lt x e).1;show x≠V15.heap.size;omega
         ·rw[HTI.out]
          exact ak OW6 kg fun x e=>by have:=(OW6.lt x e).1;show x≠V15.heap.size;omega
        case measure=>simp[intOf];omega
       ·obtain rfl:j=M1:=by omega
        have jA:¬ ((j:Int)<j):=by omega
        have afa:V15.heap.size<W17.heap.size:=by omega
        have F8:W17.heap.size<=wo.heap.size:=XO.size;have hjp:0<j:=by have:=HM1.out;omega
        have hj9:j<=1000000:=by have h1:=HM1.out;have h2:=pS.out;have h3:=RA.Av;omega
        have hT:CLS.take j=CLS:=by rw[<-aeG.out];exact List.take_length
        rw[hT]at CW;have afb:(An aaR j aaS).ownBlock≠AM V15.heap.size:=fun e=>by rcases HOB.out _ e with h | h<;>omega
        have afc:∀ x,(An aaR j aaS).ownBlock=AM x->(An cx j aaJ).ownBlock≠AM x:=fun x e1 e2=>by
         rcases ownBlock_ne (by decide) OW CW.out with h | h
         ·rw[h]at e1;cases e1
         ·exact h (e1.trans e2.symm)
        have CSO:A' (gF wo (An cx j aaJ) CLS):=AI (fD (base:=W17.heap.size) (by rw[aeG.out];exact CW));have afT:=AI (adr CLS j aeG.symm hjp hj9 wo V15.heap.size (ay afa F8) cx aaJ (KB.cell 0) CSO.1 (V15.heap.size+1) (An aaR j aaS) OW afb (fun b o e1 e2=>afc b e2 (by rw[e1];rfl)));have HTY:=AI afc;have Js:=AI afb;clear hT afb afc hjp;go_wp2_with fail
        refine afT.mono ?_;rintro e v9 ⟨o,rfl,hop,hos,how,hk⟩;have KO:ae (· <V15.heap.size) W17 v9:=(XO.mono fun x (hx:x<V15.heap.size)=>⟨by omega,by omega,by omega⟩).tr (hk.mono fun x (hx:x<V15.heap.size)=>⟨by omega,fun e=>by rcases HOB.out _ e with h | h<;>omega⟩);have hv2:=HV2.out;have BC9:=AI (BC.keeps KO hv2);have KB9:=AI (KB.keeps hk ⟨by omega,Js⟩);have CW9:=AI (ak CW hk fun x e=>⟨(CW.lt x e).2,fun e2=>HTY x e2 e⟩);have ZC9:A' (aa v2 v9):=AI (ZC.trans (KO.mono fun x (hx:x<v2.heap.size)=>by show x<V15.heap.size;omega:ae (· <v2.heap.size) W17 v9).below);have hm:j=o.length:=by rw[hop.length_eq,Kx]
        have SO9:A' (bw cK v9 (An aaR j aaS) o):=AI (bU how hm);have CS9:A' (gF v9 (An cx j aaJ) CLS):=AI (fD (base:=W17.heap.size) (by rw[aeG.out];exact CW9));have h29:v2.heap.size<v9.heap.size:=BC9.lt;have UG:=AI (Gf.out o hop hos);have CPA:=AI (acr a RA CLS o aaM (K:=n0) (M:=j) (m:=j) pS aeG.symm hm gS pO HM1 Cq hj9 (fun x hx=>IF.1 (hop.mem_iff.1 hx)) v9 _ _ _ _ _ (DCF.below ZC9) CS9 SO9);have HMO:=AI hm;obtain⟨⟨j0,j1,j2⟩,_⟩:=BC9.three;have k0:v9.cell? ⟨V15.heap.size,0,AF⟩=AM (An cx j aaJ):=KB9.cell 0;clear hop hos how hk KO hv2 hm CSO afT HTY Js KB CW OW XO HOB BO BR9 BK BE0 aae aaw BC ZC Gf SO9 CS9 CW9;go_wp2_with fail
        refine CPA.mono ?_;rintro e va ⟨e0,ec0,e1,ec1,rfl,tM,Wi,hx⟩;have BCA:=AI (BC9.below hx BC9.lt);have ZCA:=AI (ZC9.trans (hx.mono (J_ h29)));have hp3:aS v9.heap.size va (An e1 n1 ec1) (a.nx.map (rowP a.cl.length aaM o)):=by rw[<-pS.out];exact Wi
        have P1:=AI tM;have P3:=AI hp3;clear tM Wi hp3 hx CPA BC9 ZC9 KB9 j0 j1 j2 k0;obtain⟨⟨j0,j1,j2⟩,z0,z1,z2⟩:=BCA.three;go_wp2_with fail
        go_meet
        have kg:∀ x y z,ae (· ≠v2.heap.size) va (((va.setCell ⟨v2.heap.size,0,AF⟩ x).setCell ⟨v2.heap.size,1,AF⟩ y).setCell ⟨v2.heap.size,2,AF⟩ z):=fun x y z=>(((ae.refl _ _).setCell (p:=⟨v2.heap.size,0,AF⟩) (fun h=>h rfl) _).setCell (p:=⟨v2.heap.size,1,AF⟩) (fun h=>h rfl) _).setCell (p:=⟨v2.heap.size,2,AF⟩) (fun h=>h rfl) _
        have kb:∀ x y z,aa v2 (((va.setCell ⟨v2.heap.size,0,AF⟩ x).setCell ⟨v2.heap.size,1,AF⟩ y).setCell ⟨v2.heap.size,2,AF⟩ z):=fun x y z=>ZCA.trans ((kg x y z).mono fun q (hq:q<v2.heap.size)=>by show q≠_;omega:ae (· <v2.heap.size) va _).below
        obtain⟨_,_,_,ev,_,_,mE⟩:=DCF.out;cases ev
        exact⟨_,_,_,_,_,_,_,aeL a CLS o aaM,((BCA.set 0 _).set 1 _).set 2 _,⟨_,_,_,rfl,fD (base:=v9.heap.size) (by
         show World.ownsRow _ _ _ _ _ (o.map fun j=>CLS.getD j 0).length _;rw[aP, <-HMO.out]
         exact ak P1 (kg _ _ _) fun x e=>by have:=(P1.lt x e).1;show x≠_;omega),(P3.keeps (kg _ _ _) fun x h1 _=>by show x≠_;omega).ll,mE.below (kb _ _ _)⟩,UG.1,UG.2,kb _ _ _⟩
    case rest=>
    obtain⟨u0,c0,u1,c1,u2,c2,m0,c',hB,hD,hR,hS,hZ⟩:=hcut;obtain⟨V20,rfl⟩:=ag (wc:Bm);have hb:aa v2 V20:=hZ;clear BC aaw ZC hZ DCF;replace X:=AI (X.trans (hb.mono X.size));replace DA:=AI (DA.below hb);replace BA:=AI (BA.below hb BA.lt);replace DP:=AI (DP.below hb);replace aah:=AI (aah.below hb aah.lt);replace aan:=AI (aan.below hb aan.lt);replace DQ:=AI (DQ.below hb);clear hb;have BC:=AI hB;have aaw:=AI hD;have RC:=AI hR;have HLC:=AI hS;clear hB hD hR hS;obtain⟨⟨j0,j1,j2⟩,_⟩:=BC.three;go_wp2_with fail
    refine(CC V20 _ _ RC HLC aaw).mono ?_;rintro e v6 ⟨r0,rc0,r1,rc1,r2,rc2,rfl,hd,hx⟩;have aax:=AI hd.df;clear BC aaw RC HLC CC hd j0 j1 j2;replace X:=AI (X.trans (hx.mono X.size));replace DA:=AI (DA.below hx);replace BA:=AI (BA.below hx BA.lt);replace DP:=AI (DP.below hx);replace aah:=AI (aah.below hx aah.lt);replace aan:=AI (aan.below hx aan.lt);replace DQ:=AI (DQ.below hx);clear hx;go_upto_region 44 with fail
    refine aw ?_;intro V4 hV;have hb:aa v6 V4:=by rw[hV];exact((Ext.refl v6).alloc _).below
    have kb:ar V4 v6.heap.size #[An r0 k0 rc0,An r1 k1 rc1,An r2 k2 rc2] 29:=by rw[hV];exact ar.new _ _ _
    replace X:=AI (X.trans (hb.mono X.size));replace DA:=AI (DA.below hb);replace BA:=AI (BA.below hb BA.lt);replace DP:=AI (DP.below hb);replace aah:=AI (aah.below hb aah.lt);replace aan:=AI (aan.below hb aan.lt);replace DQ:=AI (DQ.below hb);replace aax:=AI (aax.below hb);have BR:=AI kb;clear hb kb hV;obtain⟨⟨l0,l1,l2⟩,_⟩:=aah.three;obtain⟨⟨m0,m1,m2⟩,_⟩:=aan.three;go_wp2_with fail
    refine(CS V4 _ _ DP DQ).mono ?_;rintro e v7 ⟨rfl,hx⟩;clear l0 l1 l2 m0 m1 m2;replace X:=AI (X.trans (hx.mono X.size));replace DA:=AI (DA.below hx);replace BA:=AI (BA.below hx BA.lt);replace DP:=AI (DP.below hx);replace aah:=AI (aah.below hx aah.lt);replace aan:=AI (aan.below hx aan.lt);replace DQ:=AI (DQ.below hx);replace aax:=AI (aax.below hx);replace BR:=AI (BR.below hx BR.lt);clear hx;obtain⟨⟨l0,l1,l2⟩,_⟩:=aah.three;obtain⟨⟨m0,m1,m2⟩,_⟩:=BR.three;go_wp2_with fail
    refine(CS v7 _ _ DP aax).mono ?_;rintro e v8 ⟨rfl,hx⟩;go_wp2;go_ret;exact⟨rfl,X.trans (hx.mono X.size)⟩
end
section
open Go Go.RowKit Go.Shelf Go.Maps
theorem rM.shape {w:Bm} {v:Bs} {l:List (List (Nat×Nat×Nat))} {fl:Nat} (h:rM w v l fl):∃ a n c,v=B_ #[An a n c,As F_ fl]:=by
 obtain⟨u,rfl,h⟩:=h;rcases h with⟨p,c,rfl,_⟩ | ⟨b,off,c,rfl,_⟩
 ·exact⟨_,_,_,rfl⟩
 ·exact⟨_,_,_,rfl⟩
end
section
open Go Go.RowKit
theorem Xc {d:DF} (h:¬Rt d):d.right=false:=by
 cases e:d.right with
 | false=>rfl
 | true=>exact absurd ((cX d).1 e) h
end
section
open Go Go.RowKit Go.Shelf Go.Maps
theorem ad6 (v:Bs) (l:List (List (Nat×Nat×Nat))) (iE:l.length<=1000000000000000) (fl:Nat) (oW:fl<256) (w:Bm) (h:rM w v l fl) (hT:∀ W,aa w W->nB W): ∃ (d:DF) (ok:Bool) (n0 n1 n2:Nat),(n0=d.cl.length/\n1=d.nx.length/\n2=d.mr.length/\(ok=Cd->Rt d/\d.nx.length<=60)/\(ok=GS->Sm d/\d.right=GS))/\∀ W,aa w W->ah 11 #[v] W (BQ n0 n1 n2 ok d W):=by
 rcases MN l fl oW with⟨d,he,rt,h60⟩ | he
 ·exact⟨d,Cd,_,_,_,⟨rfl,rfl,rfl,fun _=>⟨rt,h60⟩,fun e=>by cases e⟩,fun W hW=>xm v fl oW l iE he (fun _=>rt.pos) rfl rfl rfl W (h.below hW) fun V hV=>hT V (hW.trans (hV.mono hW.size))⟩
 ·exact⟨⟨[],[],[]⟩,GS,_,_,_,⟨rfl,rfl,rfl,(fun e=>by cases e),fun _=>⟨⟨Iv _,Iv _,Iv _,(fun _ h=>by cases h),(fun _ h=>by cases h)⟩,Xc fun r=>by have:=r.pos;exact absurd this (by decide)⟩⟩,fun W hW=>xm v fl oW l iE he (fun e=>by cases e) rfl rfl rfl W (h.below hW) fun V hV=>hT V (hW.trans (hV.mono hW.size))⟩
theorem abp (v0 v3:Bs) (l0:List (List (Nat×Nat×Nat))) (g0:l0.length<=1000000000000000) (f0:Nat) (u0:f0<256) (x1:Nat) (u1:x1<256) (x2:Nat) (u2:x2<256) (l3:List Nat) (q3:l3.length<=maxLen) (w:Bm) (h0:rM w v0 l0 f0) (h3:bw en w v3 l3) (hT:∀ W,aa w W->nB W): ah 4 #[v0,As F_ x1,As F_ x2,v3] w fun e w'=>e=AS (D0 Cd)/\aa w w':=by obtain⟨a,oka,n0,n1,n2,VG,Mw⟩:=ad6 v0 l0 g0 f0 u0 w h0 hT;obtain⟨_,_,_,hv⟩:=h0.shape;exact adx v0 v3 x1 x2 u1 u2 l3 q3 a oka VG.2.2.2.1 VG.2.2.2.2 VG.1 VG.2.1 VG.2.2.1 w ⟨_,_,_,_,hv⟩ h3 (fun W hW=>FX W fun V hV=>hT V (hW.trans (hV.mono hW.size))) Mw
end
end Go.Proofs.YtjgccapbphadjaaGreatDoor
