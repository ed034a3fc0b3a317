/- The law's four and awake. Printed by wip/gen/aw22.py. -/
import Derived.Test.YtjgccapbphadjaaGreatDoorOB14
set_option maxRecDepth 100000
set_option maxHeartbeats 16000000
open Go.Lib (hid)
open Go.Value renaming slice->An,int->As,pointer->AS,agg->B_,bool->Dl,tuple->DE,string->D_,oneCell'->E_
open Option renaming none->AF,some->AM
open Go.Lib renaming hid->AI,bytesWorld->C_
open Go.IntKind renaming i64->AN,u64->AT,u8->DH
open Go.Ending renaming returned->A_
open BitVec renaming allOnes->A'
open Go renaming World->Bm,Value->By,bodyPost_ret->B',TypeId->D',Addr->FF
open Go.RowKit renaming Hid->Bs
open Array renaming getElem?_eq_some_iff->Cd
open Go.Proofs.Tryz renaming prog->C',underlying44->Dn,underlying206->DP,underlying9->DQ,underlying5->D0,results68->EV
open Bool renaming true->Dm,false->Ft
namespace Go.Proofs.YtjgccapbphadjaaGreatDoor
section
open Go Go.RowKit Go.Shelf Go.Maps
theorem Tryz.aar:(C'.info? 133).map (fun i=>(i.zero,i.size,i.bytes))=AM (AM (B_ #[As AN 0,As AN 0]),2,16):=by kernel_rfl
theorem cQ.box {w:Bm} {base b:Nat} {v:By} {p:List BS} {cs:Array By} (h:cQ w base v p) (hb:ar w b cs 190) (x:By):cQ (w.setCell ⟨b,0,AF⟩ x) base v p:=by
 have hk:ae (· ≠b) w (w.setCell ⟨b,0,AF⟩ x):=(ae.refl _ _).setCell (p:=⟨b,0,AF⟩) (fun h=>h rfl) _;rcases h with h | ⟨g,sl,h1,h2,h3,h4,h5⟩
 ·exact .inl h
 ·refine .inr ⟨g,sl,h1,h2,h3.keeps hk fun e=>?_,aj h4 hk fun k e=>cy hb h4 (by decide) k e,h5⟩
  subst e;unfold ar at h3 hb;rw[h3]at hb;injection hb with hb
  injection hb with _ hb
  exact absurd hb (by decide)
def PartsAt (a b:DF) (p:Nat×Nat) (W:Bm) (e:Ending) (w':Bm):Prop:=∃ v,e=A_ (DE #[v,Dl (cB a b p).isSome])/\bQ cU w' v ((cB a b p).getD [])/\aa W w'
theorem Tq (w:Bm) (x y:By) (t:D'):∀ j v,[x,y][j]? =AM v->(w.alloc (.cells #[x,y] t)).cell? ((⟨w.heap.size,0,AF⟩:FF).add j)=AM v:=by
 intro j v hj;match j,hj with
 | 0,hj=>simp at hj;subst hj;simp[Addr.add]
 | 1,hj=>simp at hj;subst hj;simp[Addr.add]
theorem JO {a b:DF} (ra:Rt a) (rb:Rt b) (p:Nat×Nat) (hp:fT a b p) (hM:a.nx.length*b.nx.length<=900000) (w:Bm) (v v':By) (h:dr w v a) (h':dr w v' b): ah 68 #[v,v',B_ #[As AN p.1,As AN p.2]] w (PartsAt a b p w):=by
 obtain⟨iP,hiP,VT,VU,aam⟩:=info_parts Tryz.aar;obtain⟨iB,YV,IP,IQ,IU⟩:=info_parts Tryz.SH;obtain⟨F,hF⟩:=ag (rI a b);obtain⟨pj,Oi⟩:=ag (partsOf (a.cl++b.cl));obtain⟨K,hK⟩:=ag pj.length;have Xk:K<=256:=by rw[hK,Oi,(fA _).length_eq];exact ey _
 have CA:Bs (∀ W v,cY W v a.cl->ah 110 #[v] W fun e w'=>∃ b,e=A_ (AS (AM ⟨b,0,AF⟩))/\cQ w' W.heap.size (AS (AM ⟨b,0,AF⟩)) a.cl/\aa W w'):=AI fun W v h=>by
  have:=jJ a.cl v W h (by have:=ra.Bk;omega);rwa[ra.cl]at this
 have CB:Bs (∀ W v,cY W v b.cl->ah 110 #[v] W fun e w'=>∃ x,e=A_ (AS (AM ⟨x,0,AF⟩))/\cQ w' W.heap.size (AS (AM ⟨x,0,AF⟩)) b.cl/\aa W w'):=AI fun W v h=>by
  have:=jJ b.cl v W h (by have:=rb.Bk;omega);rwa[rb.cl]at this
 have CJ:Bs (∀ W x y bx bY,cQ W bx (AS (AM ⟨x,0,AF⟩)) a.cl->cQ W bY (AS (AM ⟨y,0,AF⟩)) b.cl->ah 121 #[AS (AM ⟨x,0,AF⟩),AS (AM ⟨y,0,AF⟩)] W fun e w'=>∃ b,e=A_ (AS (AM ⟨b,0,AF⟩))/\cQ w' W.heap.size (AS (AM ⟨b,0,AF⟩)) pj/\aa W w'):=AI fun W x y bx bY hx hy=>by
  refine(P8 _ _ _ _ _ _ W hx hy).mono fun e w' hj=>?_
  unfold Bh at hj;have e1:a.cl.isEmpty=false:=by have:=ra.Qe;cases h:a.cl with | nil=>rw[h]at this;simp at this | cons _ _=>rfl
  have e2:b.cl.isEmpty=false:=by have:=rb.Qe;cases h:b.cl with | nil=>rw[h]at this;simp at this | cons _ _=>rfl
  rw[e1,e2,if_neg (by decide)]at hj;rw[Oi];exact hj
 have CL:Bs (∀ W x bx,cQ W bx (AS (AM ⟨x,0,AF⟩)) pj->ah 111 #[AS (AM ⟨x,0,AF⟩)] W fun e w'=>e=A_ (As AN K)/\w'=W):=AI fun W x bx h=>by rw[hK];exact Kf _ _ _ _ h
 have CM:Bs (∀ W x bx (k:Nat),k<K->cQ W bx (AS (AM ⟨x,0,AF⟩)) pj->ah 113 #[AS (AM ⟨x,0,AF⟩),As AN k] W fun e w'=>e=A_ (DE #[As DH (lb pj k),Dl Dm])/\Ext W w'):=AI fun W x bx k hk h=>by
  have:=zH _ bx pj k W h;rw[Oi,wz (by rw[<-Oi, <-hK];exact hk), <-Oi]at this;exact this
 have ZU:Bs (∀ k,k<K->lb pj k<256):=AI fun k hk=>by rw[Oi];exact Ko (by rw[<-Oi, <-hK];exact hk)
 have CN:Bs (∀ (q:Nat×Nat) (k ab xb bb yb xa ya base base':Nat) (va vb:By) (W:Bm),fT a b q->k<K->W.cell? ⟨ab,1,AF⟩=AM va->iZ W va a.nx->W.cell? ⟨bb,1,AF⟩=AM vb->iZ W vb b.nx->W.cell? ⟨xb,0,AF⟩=AM (AS (AM ⟨xa,0,AF⟩))->cQ W base (AS (AM ⟨xa,0,AF⟩)) a.cl->W.cell? ⟨yb,0,AF⟩=AM (AS (AM ⟨ya,0,AF⟩))->cQ W base' (AS (AM ⟨ya,0,AF⟩)) b.cl->
   ah 122 #[B_ #[As AN q.1,As AN q.2],As DH (lb pj k),AS (AM ⟨ab,0,AF⟩),AS (AM ⟨xb,0,AF⟩),AS (AM ⟨bb,0,AF⟩),AS (AM ⟨yb,0,AF⟩)] W fun e w'=>e=A_ (B_ #[As AN (F q k).1,As AN (F q k).2])/\aa W w'):=AI fun q k ab xb bb yb xa ya base base' va vb W hq hk h1 h2 h3 h4 h5 h6 h7 h8=>by
  have:=JL ra rb q.1 q.2 (lb pj k) hq.1 hq.2 (ZU k hk) ab xb bb yb xa ya base base' va vb W h1 h2 h3 h4 h5 h6 h7 h8;rw[hF,Oi]at*;exact this
 have PI:Bs (∀ n,((cm a b p n).map Prod.fst).Nodup/\∀ y∈cm a b p n,fT a b y.1):=AI fun n=>Ga ra rb hp n
 have PL:Bs (∀ n,(cm a b p n).length<=a.nx.length*b.nx.length):=AI fun n=>tC ra rb hp n
 have PS:Bs (∀ n x,(cm a b p n)[n]? =AM x->cm a b p (n+1)=ia F (lb pj) x (cm a b p n) K):=AI fun n x hx=>by
  have hx2:(dp (rI a b) (lb (partsOf (a.cl++b.cl))) (partsOf (a.cl++b.cl)).length p n)[n]? =AM x:=hx;show dp (rI a b) (lb (partsOf (a.cl++b.cl))) (partsOf (a.cl++b.cl)).length p (n+1)=_;rw[dp,hx2,hF,hK,Oi];rfl
 have RI:Bs (∀ n x k,(cm a b p n)[n]? =AM x->k<=K->((ia F (lb pj) x (cm a b p n) k).map Prod.fst).Nodup/\∀ y∈ia F (lb pj) x (cm a b p n) k,fT a b y.1):=AI fun n x k hx hk=>by
  refine Da (PI n).1 (PI n).2 k fun j hj=>?_
  rw[hF];exact wh ra rb x.1 j ((PI n).2 x (aw hx)) (by rw[<-Oi, <-hK];omega)
 have WL:Bs (∀ n,∀ y∈cm a b p n,y.2.length<=n):=AI fun n y hy=>lL n y hy
 have FI:Bs (∀ q k,fT a b q->k<K->fT a b (F q k)):=AI fun q k hq hk=>by rw[hF];exact wh ra rb q k hq (by rw[<-Oi, <-hK];exact hk)
 have L4:Bs (∀ q:Nat×Nat,fT a b q->q.1<=4000/\q.2<=4000):=AI fun q hq=>⟨Nat.le_of_lt (aD hq.1 ra.le),Nat.le_of_lt (aD hq.2 rb.le)⟩
 obtain⟨M,TY⟩:=ag (a.nx.length*b.nx.length);have PD:Bs (cB a b p=ib a b p (M+1) 0):=AI (by rw[TY];rfl);have PR:Bs (∀ f n,ib a b p (f+1) n=match(cm a b p n)[n]? with | none=>AF | some x=>if qK a b x.1 then AM x.2 else ib a b p f (n+1)):=AI fun f n=>rfl
 rw[<-TY]at PL hM;have CE:Bs (∀ (s t:Nat) (u u':By) (W:Bm),s<a.nx.length->t<b.nx.length->bQ aM W u (a.mr.getD s [])->bQ aM W u' (b.mr.getD t [])->ah 33 #[u,u'] W fun e w'=>e=A_ (Dl (!qK a b (s,t)))/\Ext W w'):=AI fun s t u u' W hs ht h1 h2=>by
  have h3:=AK u u' _ _ W (.inl h1) (.inl h2) (ra.ZF.Yw _ (aw (aW [] (by rw[ra.mr];exact hs))));have e:(a.mr.getD s []==b.mr.getD t [])= !qK a b (s,t):=by unfold qK;show _= !decide (a.mr.getD s []≠b.mr.getD t []);rw[Bool.eq_iff_iff];simp
  rw[e]at h3;exact h3
 have Xx:Bs (∀ s W u,s<a.nx.length->iZ W u a.mr->∀ ad n cp,u=An ad n cp->∃ g o a' l c',ad=AM ⟨g,o,AF⟩/\g<W.heap.size/\W.cell? ⟨g,o+s,AF⟩=AM (An a' l c')/\bQ aM W (An a' l c') (a.mr.getD s [])):=AI fun s W u hs hu ad n cp e=>by
  subst e;obtain⟨g,o,a',c',e1,e2,e3,e4⟩:=hu.elem (i:=s) (l:=a.mr.getD s []) (aW [] (by rw[ra.mr];exact hs));exact⟨g,o,a',_,c',e1,e2,e3,e4⟩
 have Jl:Bs (∀ s W u,s<b.nx.length->iZ W u b.mr->∀ ad n cp,u=An ad n cp->∃ g o a' l c',ad=AM ⟨g,o,AF⟩/\g<W.heap.size/\W.cell? ⟨g,o+s,AF⟩=AM (An a' l c')/\bQ aM W (An a' l c') (b.mr.getD s [])):=AI fun s W u hs hu ad n cp e=>by
  subst e;obtain⟨g,o,a',c',e1,e2,e3,e4⟩:=hu.elem (i:=s) (l:=b.mr.getD s []) (aW [] (by rw[rb.mr];exact hs));exact⟨g,o,a',_,c',e1,e2,e3,e4⟩
 obtain⟨v0,v1,v2,rfl,h0,h1,h2⟩:=h;obtain⟨u0,u1,u2,rfl,g0,g1,g2⟩:=h';obtain⟨a0,c0,rfl⟩:=h0.1.form;obtain⟨a1,c1,rfl⟩:=h1.form;obtain⟨a2,c2,rfl⟩:=h2.form;obtain⟨b0,d0,rfl⟩:=g0.1.form;obtain⟨b1,d1,rfl⟩:=g1.form;obtain⟨b2,d2,rfl⟩:=g2.form;have adY:=ra.mr;have adZ:=rb.mr;rw[adY]at h2 ⊢;rw[adZ]at g2 ⊢;obtain⟨n0,dw⟩:=ag a.cl.length;obtain⟨n1,fH⟩:=ag a.nx.length;obtain⟨m0,vn⟩:=ag b.cl.length;obtain⟨m1,rY⟩:=ag b.nx.length;rw[<-fH]at Xx;rw[<-rY]at Jl;rw[<-fH, <-rY]at CE;rw[<-dw]at h0;rw[<-fH]at h1 h2;rw[<-vn]at g0;rw[<-rY]at g1 g2;rw[<-dw, <-fH, <-vn, <-rY];have PII:Bs (∀ q,fT a b q->q.1<n1/\q.2<m1):=AI fun q hq=>by rw[fH,rY];exact hq
 have H0:=AI h0.1;have H1:=AI h1;have H2:=AI h2;have G0:=AI g0.1;have G1:=AI g1;have G2:=AI g2;have HP:=AI hp;have HPJ:=AI Oi;clear h0 h1 h2 g0 g1 g2 Oi hK ra rb dw fH vn rY adY adZ hF TY hp;obtain⟨OS,aas⟩:=ag p.1;obtain⟨OT,aat⟩:=ag p.2;have OP:p=(OS,OT):=Prod.ext aas.symm aat.symm;rw[<-aas, <-aat];have HPE:=AI OP;clear aas aat OP;have qQ:= @run_makeMap C';go_enter Tryz.func68,Tryz.ntmps68;go_upto_region 1 with fail
 refine aA ?_;intro V hV;have B3:Bs (ar V w.heap.size #[An a0 n0 c0,An a1 n1 c1,An a2 n1 c2] 29):=AI (by rw[hV];exact((ar.new w _ _).alloc _).alloc _);have B4:Bs (ar V (w.heap.size+1) #[An b0 m0 d0,An b1 m1 d1,An b2 m1 d2] 29):=AI (by rw[hV];exact((ar.new (w.alloc _) _ _).at (by simp)).alloc _);have B5:Bs (ar V (w.heap.size+1+1) #[As AN OS,As AN OT] 133):=AI (by rw[hV];exact(ar.new ((w.alloc _).alloc _) _ _).at (by simp));have X1:Bs (aa w V):=AI (by rw[hV];exact((((Ext.refl w).alloc _).alloc _).alloc _).below);clear hV;refine RegF.uZ (fun _=>False) (by kernel_rfl) 8 [0,1,3,0,8,31,0,0,255,511] (fun i=>i==2 || i==5 || i==6 || i==7 || i==8 || i==9) (by kernel_rfl) [6,7] (by kernel_rfl) (fun i=>if i=2 then aX.UM V.heap.size a.cl else if i=5 then aX.UM V.heap.size b.cl else if i=6 then aX.uQ V.heap.size #[AS AF] 190 else if i=7 then aX.uQ V.heap.size #[AS AF] 190 else aX.any _) ?_;intro C hC hne;have HC:=AI hC;have f0:=aC hC (p:=⟨w.heap.size,0,AF⟩) (by have:=B3.lt;exact this) (fun h=>h) (B3.cell 0);have f1:=aC hC (p:=⟨w.heap.size+1,0,AF⟩) (by have:=B4.lt;exact this) (fun h=>h) (B4.cell 0);clear hC
 repeat (refine RegF.au (fun K hK=>?_);first | (refine RegF.cg rfl ?_;try go_simp;refine hK _ _ ?_;clear hK K) | (refine RegF.bV rfl rfl ?_;unfold aF;go_simp;refine hK _ _ ?_;clear hK K))
 refine RegF.au (fun K hK=>?_);refine RegF.ct rfl rfl rfl (aX.UM V.heap.size a.cl) rfl (fun W hW hN=>?_) (fun v hv=>?_)
 ·have hM:=(HC.out W).1 hW
  clear hW;go_simp;refine bI ((CA _ _ ((H0.below X1).below hM.below)).mono ?_);rintro e w2 ⟨b,rfl,ha,hx⟩;exact⟨_,rfl,Move.ai hx,⟨b,rfl⟩,ha.base hM.size⟩
 obtain⟨bx,rfl⟩:=hv;go_simp;refine hK _ _ ?_;clear hK K
 repeat (refine RegF.au (fun K hK=>?_);first | (refine RegF.cg rfl ?_;try go_simp;refine hK _ _ ?_;clear hK K) | (refine RegF.bV rfl rfl ?_;unfold aF;go_simp;refine hK _ _ ?_;clear hK K))
 refine RegF.au (fun K hK=>?_);refine RegF.ct rfl rfl rfl (aX.UM V.heap.size b.cl) rfl (fun W hW hN=>?_) (fun v hv=>?_)
 ·have hM:=(HC.out W).1 hW
  clear hW;go_simp;refine bI ((CB _ _ ((G0.below X1).below hM.below)).mono ?_);rintro e w2 ⟨b,rfl,ha,hx⟩;exact⟨_,rfl,Move.ai hx,⟨b,rfl⟩,ha.base hM.size⟩
 obtain⟨bY,rfl⟩:=hv;go_simp;refine hK _ _ ?_;clear hK K;refine RegF.au (fun K hK=>?_);refine RegF.adN rfl rfl rfl (aX.uQ V.heap.size #[AS AF] 190) rfl (fun W hW hN=>?_) (fun v hv=>?_)
 ·have hM:=(HC.out W).1 hW
  clear hW hK K
  (have s7:=hM.size;go_simp;exact⟨⟨_,rfl,aG _,by simp⟩,Move.ai ((Ext.refl _).alloc _).below,⟨_,rfl⟩,fun b hb=>by cases hb;exact⟨ar.new _ _ _,s7⟩⟩)
 obtain⟨xb,rfl⟩:=hv;go_simp;refine hK _ _ ?_;clear hK K;refine RegF.au (fun K hK=>?_);refine RegF.adN rfl rfl rfl (aX.uQ V.heap.size #[AS AF] 190) rfl (fun W hW hN=>?_) (fun v hv=>?_)
 ·have hM:=(HC.out W).1 hW
  clear hW hK K
  (have s7:=hM.size;go_simp;exact⟨⟨_,rfl,aG _,by simp⟩,Move.ai ((Ext.refl _).alloc _).below,⟨_,rfl⟩,fun b hb=>by cases hb;exact⟨ar.new _ _ _,s7⟩⟩)
 obtain⟨yb,rfl⟩:=hv;go_simp;refine hK _ _ ?_;clear hK K;refine RegF.bM (fun W hW hH hap=>?_);have T9:=(HC.out W).1 hW;have hne:fR.LS (AS (AM ⟨xb,0,AF⟩))≠fR.LS (AS (AM ⟨yb,0,AF⟩)):=hap.ne 6 7 8 9 rfl rfl (by decide) rfl rfl rfl rfl;have OG:xb≠yb:=fun e=>hne (by rw[e])
 have A1:Bs (cQ W V.heap.size (AS (AM ⟨bx,0,AF⟩)) a.cl):=AI (hH _ (aw (show _=AM _ from rfl:_[3]? =AM _)));have A2:Bs (cQ W V.heap.size (AS (AM ⟨bY,0,AF⟩)) b.cl):=AI (hH _ (aw (show _=AM _ from rfl:_[2]? =AM _)));have hzx:(aX.uQ V.heap.size #[AS AF] 190).H (AS (AM ⟨xb,0,AF⟩)) W:=hH _ (aw (show _=AM _ from rfl:_[1]? =AM _));have hzy:(aX.uQ V.heap.size #[AS AF] 190).H (AS (AM ⟨yb,0,AF⟩)) W:=hH _ (aw (show _=AM _ from rfl:_[0]? =AM _));have BX:=AI (hzx xb rfl);have BY:=AI (hzy yb rfl);have C3:=AI (B3.below T9.below B3.lt);have C4:=AI (B4.below T9.below B4.lt);have C5:=AI (B5.below T9.below B5.lt);have X2:=AI (X1.trans (T9.below.mono X1.size));have yY:w.heap.size+2<V.heap.size:=B5.lt;have hVW:V.heap.size<=W.heap.size:=T9.size;clear T9 hW hH HC f0 f1 B3 B4 B5 X1 hap hne hzx hzy CA CB H0 G0;have x0:=BX.1.cell 0;have y0:=BY.1.cell 0;have zx:=BX.1.frozen 0;have zy:=BY.1.frozen 0;simp only[List.getElem?_toArray,List.getElem?_cons_zero]at x0 y0;have hyx:¬ (yb=xb):=fun e=>OG e.symm
 go_upto_region 2 with fail
 refine aA ?_;intro V2 hV;have KV:Bs (ae (fun x=>x≠xb/\x≠yb) W V2):=AI (by rw[hV];exact((ae.refl _ _).setCell (p:=⟨xb,0,AF⟩) (fun h=>h.1 rfl) _).setCell (p:=⟨yb,0,AF⟩) (fun h=>h.2 rfl) _);have BX2:Bs (ar V2 xb #[AS (AM ⟨bx,0,AF⟩)] 190):=AI (by rw[hV];exact(BX.1.set 0 _).other (p:=⟨yb,0,AF⟩) hyx _);have BY2:Bs (ar V2 yb #[AS (AM ⟨bY,0,AF⟩)] 190):=AI (by rw[hV];exact(BY.1.other (p:=⟨xb,0,AF⟩) OG _).set 0 _);have A1b:Bs (cQ V2 V.heap.size (AS (AM ⟨bx,0,AF⟩)) a.cl):=AI (by rw[hV];exact(A1.box BX.1 _).box (BY.1.other (p:=⟨xb,0,AF⟩) OG _) _);have A2b:Bs (cQ V2 V.heap.size (AS (AM ⟨bY,0,AF⟩)) b.cl):=AI (by rw[hV];exact(A2.box BX.1 _).box (BY.1.other (p:=⟨xb,0,AF⟩) OG _) _);have zD:=BX.2;have hby:=BY.2;have D3:=AI (C3.keeps KV ⟨by omega,by omega⟩);have D4:=AI (C4.keeps KV ⟨by omega,by omega⟩);have D5:=AI (C5.keeps KV ⟨by omega,by omega⟩);have X3:Bs (aa w V2):=AI (X2.trans (KV.mono fun x (hx:x<w.heap.size)=>⟨by omega,by omega⟩:ae (· <w.heap.size) W V2).below);clear hV x0 y0 zx zy KV BX BY A1 A2 C3 C4 C5 X2;have x0:=BX2.cell 0;have y0:=BY2.cell 0;simp only[List.getElem?_toArray,List.getElem?_cons_zero]at x0 y0;go_wp2_with fail
 refine(CJ V2 bx bY _ _ A1b A2b).mono ?_;rintro e w3 ⟨bj,rfl,hj,hx⟩;have AJ:=AI hj;have A1c:=AI (A1b.below hx);have A2c:=AI (A2b.below hx);have BX3:=AI (BX2.below hx BX2.lt);have BY3:=AI (BY2.below hx BY2.lt);have E3:=AI (D3.below hx D3.lt);have E4:=AI (D4.below hx D4.lt);have E5:=AI (D5.below hx D5.lt);have X4:=AI (X3.trans (hx.mono X3.size));clear hj hx x0 y0 A1b A2b BX2 BY2 D3 D4 D5 X3 CJ OG hyx;obtain⟨e0,e1⟩:w3.cell? ⟨w.heap.size+1+1,0,AF⟩=AM (As AN OS)/\w3.cell? ⟨w.heap.size+1+1,1,AF⟩=AM (As AN OT):=⟨E5.cell 0,E5.cell 1⟩;obtain⟨w4,hp4,uw,hk4,II⟩:=Tl Tryz.vz DP (w:=w3.alloc (.map #[] 0)) (b:=w3.heap.size) (l:=[]) (World.alloc_heap_new w3 _) (fun p hp=>by cases hp) (eu (OS,OT)) (Gk (OS,OT) (by rw[<-HPE.out];exact(L4 p HP).1) (by rw[<-HPE.out];exact(L4 p HP).2)) (fun p hp=>by cases hp) (An AF 0 0);replace hp4:(Instr.mapUpdate 206 (.map (AM w3.heap.size)) (B_ #[As AN OS,As AN OT]) (An AF 0 0)).run C' (w3.alloc (.map #[] 0))=.ok () w4:=hp4;have PE4:Bs (zk w4 w3.heap.size w3.heap.size [((OS,OT),[])] [(eu (OS,OT),An AF 0 0)]):=AI (zk.one uw);have K4:Bs (ae (· <w3.heap.size) w3 w4):=AI ((ae.ai ((Ext.refl w3).alloc _).below fun _ h=>h:ae (· <w3.heap.size) w3 (w3.alloc (.map #[] 0))).tr (hk4.mono fun x (hx:x<w3.heap.size)=>by show x≠w3.heap.size;omega));have hs5:w4.heap.size=w3.heap.size+1:=by rw[II,World.size_alloc]
 have HS5:=AI hs5;clear uw hk4 II hs5;have e0':w4.cell? ⟨w.heap.size+1+1,0,AF⟩=AM (As AN OS):=(K4.cell (p:=⟨w.heap.size+1+1,0,AF⟩) E5.lt).trans e0;have e1':w4.cell? ⟨w.heap.size+1+1,1,AF⟩=AM (As AN OT):=(K4.cell (p:=⟨w.heap.size+1+1,1,AF⟩) E5.lt).trans e1;go_upto_region 3 with fail
 have e0a:(w3.alloc (.map #[] 0)).cell? ⟨w.heap.size+1+1,0,AF⟩=AM (As AN OS):=((ae.ai ((Ext.refl w3).alloc _).below fun _ h=>h:ae (· <w3.heap.size) w3 (w3.alloc (.map #[] 0))).cell (p:=⟨w.heap.size+1+1,0,AF⟩) E5.lt).trans e0;have e1a:(w3.alloc (.map #[] 0)).cell? ⟨w.heap.size+1+1,1,AF⟩=AM (As AN OT):=((ae.ai ((Ext.refl w3).alloc _).below fun _ h=>h:ae (· <w3.heap.size) w3 (w3.alloc (.map #[] 0))).cell (p:=⟨w.heap.size+1+1,1,AF⟩) E5.lt).trans e1;go_upto_region 5 with fail
 refine aA ?_;intro V5 hV
 have FV:Bs (V5.ownsRow w3.heap.size 133 2 (An (AM ⟨w4.heap.size,0,AF⟩) 1 1) 1 (nJ [(OS,OT)])):=AI (by
  rw[hV]
  exact⟨rfl,.inr ⟨_,1, #[As AN OS,As AN OT],rfl,by rw[HS5.out];omega,World.alloc_heap_new w4 _,aG _,by unfold maxLen;omega,rfl,rfl⟩⟩)
 have Zo:aa w4 V5:=by rw[hV];exact((Ext.refl _).alloc _).below
 have PE5:=AI (PE4.below Zo);have K5:Bs (ae (· <w3.heap.size) w3 V5):=AI (K4.tr (ae.ai Zo fun x (hx:x<w3.heap.size)=>by have:=HS5.out;omega:ae (· <w3.heap.size) w4 V5));obtain⟨fg,hfg⟩:=ag w4.heap.size;obtain⟨g0,hg0⟩:=ag w3.heap.size;rw[<-hfg]at FV ⊢;rw[<-hg0]at FV PE5 ⊢;have hwg:w.heap.size+2<g0:=by rw[hg0];exact E5.lt
 have Lu:=AI hg0;clear hV Zo PE4 K4 HS5 e0 e1 e0' e1' e0a e1a hp4 hfg hg0;go_wp2_with fail
 go_loopw [12,14] (fun fv iv wr=>∃ (n L:Nat) (es:List (By×By)),L=(cm a b p n).length/\n<=L/\iv=As AN n/\wr.ownsRow g0 133 2 fv L (nJ ((cm a b p n).map Prod.fst))/\zk wr g0 g0 (cm a b p n) es/\cB a b p=ib a b p (M+1-n) n/\ae (· <w3.heap.size) w3 wr) (fun _ iv _=>M+1-(intOf iv).toNat)
 case atStart=>exact⟨0,1,_,rfl,by omega,rfl,by rw[HPE.out];exact FV,by rw[HPE.out];exact PE5,PD,K5⟩
 case round=>
  obtain⟨n,L,es,hL,hn,rfl,hfv,OP,hpd,hx⟩:=hrel;obtain⟨wo,rfl⟩:=ag (wr:Bm);have hLM:L<=M:=by rw[hL];exact PL n
  obtain⟨fa,fc,rfl⟩:=ownsRow_form hfv;have HL:=AI hL;have HFV:=AI hfv;have VW:=AI OP;have HPD:=AI hpd;have HX:=AI hx;clear hL hfv OP hpd hx FV PE5 K5;by_cases hlt:n<L
  ·have hni:(n:Int)<L:=by omega
   obtain⟨x,hxn⟩:∃ x,(cm a b p n)[n]? =AM x:=⟨_,az (by rw[<-HL.out];exact hlt)⟩;have aau:=(PI.out n).2 x (aw hxn);obtain⟨hx1,hx2⟩:=PII.out x.1 aau;have hxm:((cm a b p n).map Prod.fst)[n]? =AM x.1:=by rw[aO,hxn];rfl
   obtain⟨q0,q1⟩:=zO _ _ _ hxm;obtain⟨fgg,rfl,hfgg⟩:∃ g,fa=AM ⟨g,0,AF⟩/\g<wo.heap.size:=by
    rcases HFV.2 with⟨h5,_⟩ | ⟨g,c,cur,h5,_,h6,_⟩
    ·cases h5;omega
    ·cases h5;exact⟨g,rfl,(Cd.1 h6).1⟩
   have c0':=HFV.cells (g:=fgg) rfl _ _ q0;have c1':=HFV.cells (g:=fgg) rfl _ _ q1;rw[Addr.add_mid]at c0' c1';simp only[Nat.zero_add]at c0' c1';have wl:=WL.out n x (aw hxn);obtain⟨xa,xc,ad3,Tr⟩:=VW.val (fun y hy=>L4 _ ((PI n).2 y hy)) (PI n).1 hxn;have ad4:=AI aau;have HXN:=AI hxn;have Ts:=AI Tr;have XWO:Bs (aa w wo):=AI (X4.trans (HX.mono fun z (hz:z<w.heap.size)=>by show z<w3.heap.size;have:=Lu.out;omega:ae (· <w.heap.size) w3 wo).below);obtain⟨s1,hs1⟩:=ag x.1.1;obtain⟨s2,hs2⟩:=ag x.1.2;have VR:x.1=(s1,s2):=Prod.ext hs1.symm hs2.symm;rw[<-hs1]at c0' hx1;rw[<-hs2]at c1' hx2;have HXE:=AI VR;clear hxn aau hxm q0 q1 Tr hs1 hs2 VR ad3;go_upto_region 10 with fail
   refine aA ?_;intro V6 hV;obtain⟨pb,oA⟩:=ag wo.heap.size;have P6:Bs (ar V6 pb #[As AN s1,As AN s2] 133):=AI (by rw[hV,oA];exact ar.new wo _ _);have uX:aa wo V6:=by rw[hV];exact((Ext.refl _).alloc _).below
   have X6:=AI uX;have hgo:g0<=wo.heap.size:=by rw[Lu.out];exact HX.size
   have TK:g0<pb:=by rw[oA];exact VW.map.lt
   have hfp:(An (AM ⟨fgg,0,AF⟩) L fc).ownBlock≠AM pb:=fun e=>by
    have e2:fgg=pb:=by simpa[Value.ownBlock]using e
    omega
   rw[<-oA];clear hV uX c0' c1' oA;have KV6:Bs (ae (· <w3.heap.size) w3 V6):=AI (HX.tr (ae.ai X6 fun z (hz:z<w3.heap.size)=>by have:=Lu.out;omega:ae (· <w3.heap.size) wo V6));have B3:=AI (E3.keeps KV6 E3.lt);have B4:=AI (E4.keeps KV6 E4.lt);have FV6:=AI (ak HFV X6);have PE6:=AI (VW.below X6);have XV6:=AI (XWO.trans (X6.mono XWO.size));obtain⟨mg,mo,ma,ml,mc,e5,hmg,RV,Jg⟩:=Xx.out s1 V6 _ hx1 (H2.below XV6) a2 n1 c2 rfl;obtain⟨kg,ko,ka,kl,kc,e6,Wy,yF,TI⟩:=Jl.out s2 V6 _ hx2 (G2.below XV6) b2 m1 d2 rfl;have Xs:=AI Jg;have HKS:=AI TI;have b32:V6.cell? ⟨w.heap.size,2,AF⟩=AM (An (AM ⟨mg,mo,AF⟩) n1 c2):=by rw[<-e5];exact B3.cell 2
   have b42:V6.cell? ⟨w.heap.size+1,2,AF⟩=AM (An (AM ⟨kg,ko,AF⟩) m1 d2):=by rw[<-e6];exact B4.cell 2
   have p0:V6.cell? ⟨pb,0,AF⟩=AM (As AN s1):=P6.cell 0;have p1:V6.cell? ⟨pb,1,AF⟩=AM (As AN s2):=P6.cell 1;have apE:(s1:Int)<n1:=by omega
   have apG:(s2:Int)<m1:=by omega
   have l1:=B3.lt;have l2:=B4.lt;clear e5 e6 Jg TI;refine aL Ft (fun _=>False) (by kernel_rfl) 12 [0,1,0,4,15,31,0,64,0,256,960,1984,4095,8191] (fun i=>i==12) (by kernel_rfl) (fun _=>aX.any _) ?_;intro C hC hne;have HC:=AI hC;have f0:=aC hC (p:=⟨w.heap.size,2,AF⟩) l1 (fun h=>h) b32;have f1:=aC hC (p:=⟨mg,mo+s1,AF⟩) hmg (fun h=>h) RV;have f2:=aC hC (p:=⟨w.heap.size+1,2,AF⟩) l2 (fun h=>h) b42;have f3:=aC hC (p:=⟨kg,ko+s2,AF⟩) Wy (fun h=>h) yF;have f4:=aC hC (p:=⟨pb,0,AF⟩) P6.lt (fun h=>h) p0;have f5:=aC hC (p:=⟨pb,1,AF⟩) P6.lt (fun h=>h) p1;clear hC b32 b42 p0 p1 RV yF
   repeat (refine au (fun K hK=>?_);first | (refine cg rfl ?_;try go_simp;refine hK _ _ ?_;clear hK K) | (refine bV rfl rfl ?_;unfold aF;go_simp;refine hK _ _ ?_;clear hK K))
   refine bM (fun W6 hW hH=>?_);have hM6:=(HC.out W6).1 hW;have Y6:=AI hM6.below;clear hM6 hW hH HC hne f0 f1 f2 f3 f4 f5;go_wp2_with fail
   refine(CE s1 s2 _ _ W6 hx1 hx2 (Xs.below Y6) (HKS.below Y6)).mono ?_;rintro e w7 ⟨rfl,hx⟩;have Z7:Bs (aa V6 w7):=AI (Y6.trans (hx.below.mono Y6.size));have FV7:=AI (ak FV6 Z7);have PE7:=AI (PE6.below Z7);have P7:=AI (P6.below Z7 P6.lt);have KV7:Bs (ae (· <w3.heap.size) w3 w7):=AI (KV6.tr (ae.ai Z7 fun z (hz:z<w3.heap.size)=>by have:=Lu.out;have:=X6.size;omega:ae (· <w3.heap.size) V6 w7));clear hx Xs HKS B3 B4 FV6 PE6 P6 KV6 X6 XV6 Z7 Y6 HFV VW XWO;have hlk:=Ts.out w7 PE7.map;rw[HXE.out]at hlk;replace hlk:(Instr.lookup 206 (.map (AM g0)) (B_ #[As AN s1,As AN s2]) Ft).run C' w7=.ok (An xa x.2.length xc) w7:=hlk;have XW7:Bs (aa w w7):=AI (X4.trans (KV7.mono fun z (hz:z<w.heap.size)=>by show z<w3.heap.size;have:=Lu.out;omega:ae (· <w.heap.size) w3 w7).below);have p0:w7.cell? ⟨pb,0,AF⟩=AM (As AN s1):=P7.cell 0;have p1:w7.cell? ⟨pb,1,AF⟩=AM (As AN s2):=P7.cell 1;obtain⟨bd,hbd⟩:=ag (qK a b (s1,s2));rw[<-hbd];have HBD:=AI hbd
   have Lv:Bs (cB a b p=if bd=Dm then AM x.2 else ib a b p (M+1-(n+1)) (n+1)):=AI (by
    rw[HPD.out,show M+1-n=(M-n)+1 by omega,PR.out,HXN.out,show M+1-(n+1)=M-n by omega];show(if qK a b x.1=Dm then _ else _)=_
    rw[HXE.out, <-HBD.out])
   obtain⟨xl,zI⟩:=ag x.2.length;rw[<-zI]at hlk;have Hz:=AI zI;clear hbd zI;cases bd with
   | true=>
    have aiS:Bs (bQ cU w7 (An xa xl xc) x.2):=AI (by
     obtain⟨xa',xc',h5,h6⟩:=PE7.val (fun y hy=>L4 _ ((PI n).2 y hy)) (PI n).1 HXN;have h7:=h6 w7 PE7.map;have h8:=Ts.out w7 PE7.map;rw[h7]at h8;injection h8 with h8
     rw[Hz.out, <-h8]
     exact cZ h5 rfl)
    go_wp2;refine B' (v:=DE #[An xa xl xc,Dl Dm]) (by simp[results,EV,go_sem]) rfl ⟨An xa xl xc,?_,?_,XW7⟩
    ·rw[Lv.out];rfl
    ·rw[Lv.out];exact aiS
   | false=>
    have aiT:Bs (cB a b p=ib a b p (M+1-(n+1)) (n+1)):=AI (by rw[Lv.out];rfl);clear hlk Lv;have AJ7:=AI (AJ.keeps KV7 fun _ _ h=>h);go_wp2_with fail
    refine(CL w7 bj _ AJ7).mono ?_;rintro e w8 ⟨rfl,hw⟩;replace hw:=hw.symm;subst hw;clear p0 p1;go_wp2_with fail
    go_loopw [12,66] (fun fv kv wr=>∃ (k L:Nat) (es:List (By×By)),k<=K/\kv=As AN k/\L=(ia F (lb pj) x (cm a b p n) k).length/\wr.ownsRow g0 133 2 fv L (nJ ((ia F (lb pj) x (cm a b p n) k).map Prod.fst))/\zk wr g0 g0 (ia F (lb pj) x (cm a b p n) k) es/\ar wr pb #[As AN s1,As AN s2] 133/\fv.ownBlock≠AM pb/\ae (· <w3.heap.size) w3 wr) (fun _ kv _=>K-(intOf kv).toNat)
    case atStart=>exact⟨0,L,es,Nat.zero_le _,rfl,HL,FV7,PE7,P7,hfp,KV7⟩
    case round=>
     obtain⟨k,L2,es2,hk,rfl,hL2,hfv,OP,oA,Jm,hx⟩:=hrel;obtain⟨wi,rfl⟩:=ag (wr:Bm);obtain⟨fa2,fc2,rfl⟩:=ownsRow_form hfv;have apM:L2<=M:=by rw[hL2];have h5:=PL.out (n+1);rw[PS.out n x HXN.out]at h5;exact Nat.le_trans (Gm hk) h5
     have Wp:=AI hL2;have IFV:=AI hfv;have IPE:=AI OP;have IPB:=AI oA;have IX:=AI hx;clear hL2 hfv OP oA hx FV7 PE7 P7 KV7;by_cases Xt:k<K
     ·have eE:(k:Int)<K:=by omega
      have RK:=AI (RI.out n x k HXN (by omega));have AJI:=AI (AJ.keeps IX fun _ _ h=>h);go_wp2_with fail
      refine(CM wi bj _ k Xt AJI).mono ?_;rintro e w9 ⟨rfl,hx⟩;have Y9:=AI hx.below;have Xv:g0<wi.heap.size:=IPE.map.lt;have hi9:wi.heap.size<=w9.heap.size:=Y9.size;have Uf:Bs (ae (· <w3.heap.size) w3 w9):=AI (IX.tr (ae.ai Y9 fun z (hz:z<w3.heap.size)=>by have:=IX.size;omega:ae (· <w3.heap.size) wi w9));have FV9:=AI (ak IFV Y9);have PE9:=AI (IPE.below Y9);have P9:=AI (IPB.below Y9 IPB.lt);clear hx Y9 IFV IPE IPB IX AJI;obtain⟨c,hc⟩:=ag (lb pj k);have jf:c<256:=by rw[hc];exact ZU k Xt
      obtain⟨q,hq⟩:=ag (F x.1 k);have ad6:fT a b q:=by rw[hq];exact FI _ _ ad4 Xt
      have XW9:Bs (aa w w9):=AI (X4.trans (Uf.mono fun z (hz:z<w.heap.size)=>by show z<w3.heap.size;have:=Lu.out;omega:ae (· <w.heap.size) w3 w9).below);have B3:=AI (E3.keeps Uf E3.lt);have B4:=AI (E4.keeps Uf E4.lt);have CN9:=AI (CN.out x.1 k w.heap.size xb (w.heap.size+1) yb bx bY V.heap.size V.heap.size _ _ w9 ad4 Xt (B3.cell 1) (H1.below XW9) (B4.cell 1) (G1.below XW9) ((BX3.keeps Uf BX3.lt).cell 0) (A1c.keeps Uf fun _ _ h=>h) ((BY3.keeps Uf BY3.lt).cell 0) (A2c.keeps Uf fun _ _ h=>h));rw[<-hc, <-hq]at CN9;rw[show(B_ #[As AN x.1.1,As AN x.1.2]:By)=B_ #[As AN s1,As AN s2] by rw[HXE.out]]at CN9;rw[<-hc];obtain⟨t1,ht1⟩:=ag q.1;obtain⟨t2,ht2⟩:=ag q.2;have hqe:q=(t1,t2):=Prod.ext ht1.symm ht2.symm;rw[<-ht1, <-ht2]at CN9;have HC9:=AI hc;have HQ:=AI hq;have HQE:=AI hqe;have VX:=AI ad6;obtain⟨p0,p1⟩:w9.cell? ⟨pb,0,AF⟩=AM (As AN s1)/\w9.cell? ⟨pb,1,AF⟩=AM (As AN s2):=⟨P9.cell 0,P9.cell 1⟩;clear hc hq hqe ht1 ht2 ad6 B3 B4 XW9;go_wp2_with fail
      refine CN9.mono ?_;rintro e w10 ⟨rfl,hx⟩;have Y10:=AI hx;have apO:w9.heap.size<=w10.heap.size:=Y10.size;clear hx p0 p1 CN9;go_upto_region 17 with fail
      refine aA ?_;intro VA hV;obtain⟨qb,Mo⟩:=ag w10.heap.size;have QA:Bs (ar VA qb #[As AN t1,As AN t2] 133):=AI (by rw[hV,Mo];exact ar.new w10 _ _);have hbA:aa w9 VA:=by rw[hV];exact Y10.trans (((Ext.refl w10).alloc _).below.mono Y10.size)
      have FVA:=AI (ak FV9 hbA);have PEA:=AI (PE9.below hbA);have PA:=AI (P9.below hbA P9.lt);have KVA:Bs (ae (· <w3.heap.size) w3 VA):=AI (Uf.tr (ae.ai hbA fun z (hz:z<w3.heap.size)=>by have:=Uf.size;omega:ae (· <w3.heap.size) w9 VA));have hgA:g0<=VA.heap.size:=by rw[Lu.out];exact KVA.size
      have hqg:g0<qb:=by omega
      rw[<-Mo];clear hV hbA Mo Y10 FV9 PE9 P9 Uf;obtain⟨t0,t1'⟩:VA.cell? ⟨qb,0,AF⟩=AM (As AN t1)/\VA.cell? ⟨qb,1,AF⟩=AM (As AN t2):=⟨QA.cell 0,QA.cell 1⟩;have pF:=PEA.look (fun y hy=>L4 _ (RK.2 y hy)) q (L4 q VX).1 (L4 q VX).2;have VL:eu q=B_ #[As AN t1,As AN t2]:=by rw[HQE.out];rfl
      rw[VL]at pF;have HPV:=AI VL;clear VL;rcases pF with⟨OJ,Wt,hlk⟩ | ⟨i,wd,v,hi,_,hlk,_⟩
      ·have aay:Bs (ia F (lb pj) x (cm a b p n) (k+1)=ia F (lb pj) x (cm a b p n) k++ [(q,x.2++ [c])]):=AI (by rw[ia,nY,if_neg (by rw[<-HQ.out];exact OJ), <-HQ.out, <-HC9.out])
       have HQ2:=AI Wt;clear OJ Wt;go_upto_region 19 with fail
       have ai1:Bs ((ia F (lb pj) x (cm a b p n) k)[n]? =AM x):=AI (xO _ _ _ _ HXN k);obtain⟨ya,yc,Tt,Dh⟩:=PEA.val (fun y hy=>L4 _ (RK.2 y hy)) RK.1 ai1;rw[<-Hz.out]at Tt Dh;have Tu:=AI Tt;have ad9:eu x.1=B_ #[As AN s1,As AN s2]:=by rw[HXE.out];rfl
       rw[ad9]at Dh;have Yr:=AI Dh;obtain⟨p0,p1⟩:VA.cell? ⟨pb,0,AF⟩=AM (As AN s1)/\VA.cell? ⟨pb,1,AF⟩=AM (As AN s2):=⟨PA.cell 0,PA.cell 1⟩;have apR:xl<=900000:=by rw[Hz.out];omega
       have aea:=QA.lt;have aeb:=PA.lt;have aec:=PEA.map.lt;clear Tt Dh ad9 hlk;refine bL (mI VA.heap.size (yt VA.heap.size xl (x.2.map cU) (As DH c))) (mI.below (oZ _ _ _ _) (Ext.refl VA).drew.below) (fun _ _ _ h k=>h.trans k) (by kernel_rfl) 9 [0,0,0,0,12,28,0,64,252,511] (fun i=>i==5 || i==7 || i==8) (by kernel_rfl) (fun i=>if i=5 then aX.fact _ _ 0 (fun v=>∃ a c,v=An a xl c) (An AF xl 0) ⟨AF,0,rfl⟩else if i=7 then aX.fact _ _ 2 (fun v=>∃ b,v=An (AM ⟨b,0,AF⟩) 1 1) (An (AM ⟨0,0,AF⟩) 1 1) ⟨0,rfl⟩else if i=8 then aX.fact _ _ 1 (fun v=>∃ a c,v=An a (xl+1) c) (An AF (xl+1) 0) ⟨AF,0,rfl⟩else aX.any _) ?_;intro C hC hne;have HC:=AI hC;have mG:∀ (b o:Nat) (u:By),b<VA.heap.size->VA.cell? ⟨b,o,AF⟩=AM u->∀ W: {W//C W},W.1.cell? ⟨b,o,AF⟩=AM u:=fun b o u hb hu W=>(((hC W.1).1 W.2).1.cell (p:=⟨b,o,AF⟩) ⟨hb,hb⟩).trans hu
       have f0:=mG _ _ _ aea t0;have f1:=mG _ _ _ aea t1';have f2:=mG _ _ _ aeb p0;have f3:=mG _ _ _ aeb p1;have f4:∀ W: {W//C W},(Instr.lookup 206 (.map (AM g0)) (B_ #[As AN s1,As AN s2]) Ft).run C' W.1=.ok (An ya xl yc) W.1:=fun W=>Yr W.1 (PEA.map.keeps ((hC W.1).1 W.2).1 ⟨aec,aec⟩)
       clear hC mG t0 t1' p0 p1
       repeat (refine au (fun K hK=>?_);first | (refine cg rfl ?_;try go_simp;refine hK _ _ ?_;clear hK K) | (refine bV rfl rfl ?_;unfold aF;go_simp;refine hK _ _ ?_;clear hK K))
       refine au (fun K0 hK=>?_);refine ct rfl rfl (aX.fact _ _ 0 (fun v=>∃ a c,v=An a xl c) (An AF xl 0) ⟨AF,0,rfl⟩) rfl (fun W hW hN=>?_) (fun v hv=>?_)
       ·have VY:=(HC.out W).1 hW
        have s7:=VY.1.size;have hr9:=aj Tu VY.1 fun z e=>⟨(Tu.lt z e).2,(Tu.lt z e).2⟩
        clear hW hK K0 hN VY;go_simp;refine bI ((wq _ x.2 W (cZ hr9 Hz) (by rw[<-Hz.out];omega)).mono ?_);rintro e w2 ⟨u,rfl,ho,hx⟩;rw[<-Hz.out]at ho;have GQ:w2.ownsRow VA.heap.size 5 1 u xl (x.2.map cU):=aH ho s7;exact⟨_,rfl,mI.below (oZ _ _ _ _) hx,ownsRow_form GQ,GQ⟩
       obtain⟨a5,c5,rfl⟩:=hv;go_simp;refine hK _ _ ?_;clear hK K0
       repeat (refine au (fun K hK=>?_);first | (refine cg rfl ?_;try go_simp;refine hK _ _ ?_;clear hK K) | (refine bV rfl rfl ?_;unfold aF;go_simp;refine hK _ _ ?_;clear hK K))
       refine au (fun K0 hK=>?_);refine ct rfl rfl (aX.fact _ _ 2 (fun v=>∃ b,v=An (AM ⟨b,0,AF⟩) 1 1) (An (AM ⟨0,0,AF⟩) 1 1) ⟨0,rfl⟩) rfl (fun W hW hN=>?_) (fun v hv=>?_)
       ·clear hW hK K0 hN
        go_simp;exact⟨mI.below (oZ _ _ _ _) ((Ext.refl _).alloc _).below,⟨_,rfl⟩,fun b hb=>by cases hb;exact ar.new _ _ _⟩
       obtain⟨b7,rfl⟩:=hv;go_simp;refine hK _ _ ?_;clear hK K0;refine au (fun K0 hK=>?_);refine ct rfl rfl (aX.fact _ _ 1 (fun v=>∃ a c,v=An a (xl+1) c) (An AF (xl+1) 0) ⟨AF,0,rfl⟩) rfl (fun W hW hN=>?_) (fun v hv=>?_)
       ·have VY:=(HC.out W).1 hW
        have s7:=VY.1.size;have h0:W.ownsRow VA.heap.size 5 1 (An a5 xl c5) xl (x.2.map cU):=hN.at 1 rfl (by kernel_rfl);have hb9:∀ b,(An (AM ⟨b7,0,AF⟩) 1 1:By)=An (AM ⟨b,0,AF⟩) 1 1->ar W b #[As DH c] 5:=hN.at 0 rfl (by kernel_rfl);clear hW hK K0 hN VY;refine Bj (.tmp 92) (.tmp 94) 44 rfl VA.heap.size 5 iB (As DH 0) 1 1 Dn YV IP IQ IU rfl (by decide) (An a5 xl c5) xl (x.2.map cU) rfl h0 (An (AM ⟨b7,0,AF⟩) 1 1) 1 [As DH c] rfl (.inr ⟨⟨b7,0,AF⟩,1,rfl,cO (hb9 b7 rfl)⟩) rfl (by simp[E_]) (by unfold maxLen;omega) (by omega) s7 ?_;intro v' w' ho hg halt;rcases halt with hb | ⟨g,cap,y1,y2,y3⟩
        ·exact⟨mI.below (oZ _ _ _ _) hb,ownsRow_form ho,ho⟩
        ·subst y2
         rw[y1]at h0 hg;exact⟨⟨ae.bB hg fun x hx=>⟨hx.2,fun e=>by cases e;have:=(h0.lt _ rfl).1;have:=hx.1;omega⟩,Dg h0 ho hg⟩,⟨_,_,rfl⟩,ho⟩
       obtain⟨a8,c8,rfl⟩:=hv;go_simp;refine hK _ _ ?_;clear hK K0;refine bM (fun W hW hH=>?_);have VY:=(HC.out W).1 hW;have RO:Bs (W.ownsRow g0 5 1 (An a8 (xl+1) c8) (xl+1) (x.2.map cU++ [As DH c])):=AI (aH (hH _ (aw (show _=AM _ from rfl:_[0]? =AM _))) hgA);have YW:Bs (aa VA W):=AI (VY.1.mono fun z (hz:z<VA.heap.size)=>⟨hz,hz⟩:ae (· <VA.heap.size) VA W).below;have FVW:=AI (ak FVA YW);have PEW:=AI (PEA.below YW);have PW:=AI (PA.below YW PA.lt);have QW:=AI (QA.below YW QA.lt);have KVW:Bs (ae (· <w3.heap.size) w3 W):=AI (KVA.tr (ae.ai YW fun z (hz:z<w3.heap.size)=>by have:=Lu.out;omega:ae (· <w3.heap.size) VA W));clear VY hW hH HC hne f0 f1 f2 f3 f4 YW FVA PEA PA QA KVA;obtain⟨WB,hput,hmB,hkB,hsB⟩:=Tl Tryz.vz DP PEW.map (PEW.keys fun y hy=>L4 _ (RK.2 y hy)) (eu q) (Gk q (L4 q VX).1 (L4 q VX).2) (by rw[HPV.out];exact HQ2) (An a8 (xl+1) c8);have RO2:W.ownsRow g0 5 1 (An a8 (xl+1) c8) (x.2++ [c]).length ((x.2++ [c]).map cU):=by
        have e:(x.2++ [c]).map cU=x.2.map cU++ [As DH c]:=by rw[List.map_append];rfl
        rw[e,aJ,List.length_singleton, <-Hz.out];exact RO
       have PEB:=AI (PEW.put RO2 hmB hkB);have FVB:=AI (aj FVW hkB fun z e=>lZ FVW PEW.map (fun c fz e=>by cases e) z e);have PB:=AI (PW.keeps hkB (by show pb≠g0;omega));have QB:=AI (QW.keeps hkB (by show qb≠g0;omega));have KVB:Bs (ae (· <w3.heap.size) w3 WB):=AI (KVW.tr (hkB.mono fun z (hz:z<w3.heap.size)=>by show z≠g0;have:=Lu.out;omega));have hgB:g0<=WB.heap.size:=by rw[Lu.out];exact KVB.size
       rw[HPV.out]at hput;obtain⟨t0,t1'⟩:WB.cell? ⟨qb,0,AF⟩=AM (As AN t1)/\WB.cell? ⟨qb,1,AF⟩=AM (As AN t2):=⟨QB.cell 0,QB.cell 1⟩;obtain⟨w0',w1'⟩:W.cell? ⟨qb,0,AF⟩=AM (As AN t1)/\W.cell? ⟨qb,1,AF⟩=AM (As AN t2):=⟨QW.cell 0,QW.cell 1⟩;clear hmB hkB hsB RO RO2 PEW FVW PW QW KVW;go_wp2_with (at_builtin;refine Hid.out ?_);refine AI ?_;refine wpList_append_own_at _ rfl (.tmp 96) (.tmp 98) 207 rfl g0 133 iP (B_ #[As AN 0,As AN 0]) 2 16 Tryz.underlying207 hiP VT VU aam rfl (by decide) (An fa2 L2 fc2) L2 _ rfl (FVB.alloc _) ⟨WB.heap.size,0,AF⟩ 1 1 [As AN t1,As AN t2] rfl rfl (Tq _ _ _ _) (by simp[E_]) (by unfold maxLen;omega) (by omega) (by simp;omega) ?_;intro v' w5 hown' hgrow hh hat;have Jk:=AI hown';have lJ:=AI hgrow;have L9:=AI hat;clear hown' hgrow hh hat hput t0 t1' w0' w1';go_wp2;go_roundw;case rel=>
        refine⟨k+1,L2+1,es2++ [(eu q,An a8 (xl+1) c8)],by omega,by go_num,?_,?_,?_,?_,?_,?_⟩
        ·rw[aay.out,aJ, <-Wp.out];rfl
        ·rw[aay.out,List.map_append]
         show w5.ownsRow g0 _ _ _ _ (nJ (_++ [q]));rw[Bp,HQE.out];exact Jk
        ·rw[aay.out]
         exact(PEB.below ((Ext.refl WB).alloc _).below).kept (FVB.alloc _) (by decide) lJ
        ·exact(PB.out.alloc _).grown lJ (Ne.symm Jm)
        ·rcases L9.out with h5 | h5
         ·rw[h5];exact Jm
         ·rw[h5]
          intro e;have e2:(WB.alloc (.cells #[As AN t1,As AN t2] 133)).heap.size=pb:=by simpa using e
          have h6:=PB.out.lt;rw[World.size_alloc]at e2;omega
        ·exact(KVB.tr (ae.ai ((Ext.refl WB).alloc _).below fun z (hz:z<w3.heap.size)=>by have:=Lu.out;omega:ae (· <w3.heap.size) WB _)).tr (ae.bB lJ fun z (hz:z<w3.heap.size)=>⟨by have:=Lu.out;simp;omega,fun e=>by have:=(FVB.lt z e.symm).1;have:=Lu.out;omega⟩)
       case measure=>simp[intOf];omega
      ·have HOLD:Bs (ia F (lb pj) x (cm a b p n) (k+1)=ia F (lb pj) x (cm a b p n) k):=AI (by rw[ia,nY,if_pos (by rw[<-HQ.out];exact List.mem_map.2 ⟨_,aw hi,rfl⟩)])
       clear hi;go_wp2_with fail
       go_roundw
       case rel=>exact⟨k+1,L2,es2,by omega,by go_num,by rw[HOLD.out];exact Wp,by rw[HOLD.out];exact FVA,by rw[HOLD.out];exact PEA,PA,Jm,KVA⟩
       case measure=>simp[intOf];omega
     ·obtain rfl:k=K:=by omega
      have eE:¬ ((k:Int)<k):=by omega
      have HSE:Bs (cm a b p (n+1)=ia F (lb pj) x (cm a b p n) k):=AI (PS.out n x HXN);have hnL:n+1<=L2:=by have h5:=Gl (F:=F) (lt:=lb pj) (x:=x) (E:=cm a b p n) k;have:=Wp.out;have:=HL.out;omega
      go_wp2_with fail
      go_roundw
      case rel=>exact⟨n+1,L2,es2,by rw[HSE.out];exact Wp,hnL,by go_num,by rw[HSE.out];exact IFV,by rw[HSE.out];exact IPE,aiT,IX⟩
      case measure=>simp[intOf];omega
  ·have hni:¬ ((n:Int)<L):=by omega
   have aee:Bs (cB a b p=AF):=AI (by
    rw[HPD.out];by_cases h5:M+1-n=0
    ·rw[h5];rfl
    ·obtain⟨f,hf⟩:∃ f,M+1-n=f+1:=⟨M-n,by omega⟩
     rw[hf,PR.out,aS (by rw[<-HL.out];omega)])
   have XWO:Bs (aa w wo):=AI (X4.trans (HX.mono fun z (hz:z<w.heap.size)=>by show z<w3.heap.size;have:=Lu.out;omega:ae (· <w.heap.size) w3 wo).below);go_wp2;refine B' (v:=DE #[An AF 0 0,Dl Ft]) (by simp[results,EV,go_sem]) rfl ⟨An AF 0 0,?_,?_,XWO⟩
   ·rw[aee.out];rfl
   ·rw[aee.out];exact .inl ⟨rfl,rfl⟩
def JP (r:Option (List Nat)) (W:Bm) (e:Ending) (w':Bm):Prop:=∃ a c,e=A_ (DE #[An a (r.getD []).length c,Dl (!r.isSome),As AN 0])/\bQ cU w' (An a (r.getD []).length c) (r.getD [])/\aa W w'
theorem AP {a b:DF} (ra:Rt a) (rb:Rt b) (hM:a.nx.length*b.nx.length<=900000) (w:Bm) (v v':By) (h:dr w v a) (h':dr w v' b): ah 32 #[v,v'] w (JP (cB a b (0,0)) w):=by
 have CA:Bs (∀ W,aa w W->ah 16 #[v] W fun e w'=>e=A_ (Dl Dm)/\aa W w'):=AI fun W hW=>j5 ra v W (h.below hW)
 have CB:Bs (∀ W,aa w W->ah 16 #[v'] W fun e w'=>e=A_ (Dl Dm)/\aa W w'):=AI fun W hW=>j5 rb v' W (h'.below hW)
 have CL:Bs (∀ W,aa w W->ah 68 #[v,v',B_ #[As AN (0:Nat),As AN (0:Nat)]] W (PartsAt a b (0,0) W)):=AI fun W hW=>JO ra rb (0,0) ⟨ra.pos,rb.pos⟩ hM W v v' (h.below hW) (h'.below hW)
 obtain⟨n0,dw⟩:=ag a.cl.length;obtain⟨n1,fH⟩:=ag a.nx.length;obtain⟨n2,jg⟩:=ag a.mr.length;obtain⟨m0,vn⟩:=ag b.cl.length;obtain⟨m1,rY⟩:=ag b.nx.length;obtain⟨m2,tT⟩:=ag b.mr.length;obtain⟨a0,c0,a1,c1,a2,c2,rfl⟩:=h.form;obtain⟨b0,d0,b1,d1,b2,d2,rfl⟩:=h'.form;rw[<-dw, <-fH, <-jg]at CA CL ⊢;rw[<-vn, <-rY, <-tT]at CB CL ⊢;obtain⟨r,hr⟩:=ag (cB a b (0,0));unfold PartsAt at CL;rw[<-hr]at CL ⊢;clear hr;clear h h' dw fH jg vn rY tT;go_enter Tryz.func32,Tryz.ntmps32;go_upto_region 1 with fail
 refine aA ?_;intro V hV;have B0:Bs (ar V w.heap.size #[An a0 n0 c0,An a1 n1 c1,An a2 n2 c2] 29):=AI (by rw[hV];exact(ar.new w _ _).alloc _);have R0:Bs (ar V (w.heap.size+1) #[An b0 m0 d0,An b1 m1 d1,An b2 m2 d2] 29):=AI (by rw[hV];exact(ar.new (w.alloc _) _ _).at (by simp));have X0:Bs (aa w V):=AI (by rw[hV];exact(((Ext.refl w).alloc _).alloc _).below);clear hV;obtain⟨p0,p1,p2⟩:=bN.qC B0;go_wp2_with fail
 refine(CA V X0).mono ?_;rintro e w1 ⟨rfl,hx⟩;have B1:=AI (B0.below hx B0.lt);have R1:=AI (R0.below hx R0.lt);have X1:=AI (X0.trans (hx.mono X0.size));clear hx p0 p1 p2 B0 R0 X0 CA;obtain⟨r0,r1,r2⟩:=bN.qC R1;go_wp2_with fail
 refine(CB w1 X1).mono ?_;rintro e w2 ⟨rfl,hx⟩;have B2:=AI (B1.below hx B1.lt);have R2:=AI (R1.below hx R1.lt);have X2:=AI (X1.trans (hx.mono X1.size));clear hx r0 r1 r2 B1 R1 X1 CB;obtain⟨p0,p1,p2⟩:=bN.qC B2;obtain⟨r0,r1,r2⟩:=bN.qC R2;go_wp2_with fail
 refine(CL w2 X2).mono ?_;rintro e w3 ⟨u,rfl,hu,hx⟩;obtain⟨ua,uc,rfl⟩:=hu.form;have HU:=AI hu;have X3:=AI (X2.trans (hx.mono X2.size));obtain⟨ln,Qt⟩:=ag ((r.getD []).length);rw[<-Qt]at HU ⊢;obtain⟨q,hq⟩:=ag r.isSome;rw[<-hq];have WQ:=AI Qt;have HQ:=AI hq;clear hu hx Qt hq p0 p1 p2 r0 r1 r2 CL;go_wp2;exact B' (v:=DE #[An ua ln uc,Dl (!q),As AN 0]) (by simp[results,Tryz.results32,go_sem]) rfl ⟨ua,uc,by rw[<-WQ.out, <-HQ.out],by rw[<-WQ.out];exact HU,X3⟩
theorem Tv (a b c:BS) (h:(!ltOf aU b a)=Dm) (k:(!ltOf aU c b)=Dm):(!ltOf aU c a)=true:=by
 simp only[Bool.not_eq_true']at*;cases Yt:ltOf aU c a with
 | false=>rfl
 | true=>
  exfalso;rw[<-Bool.not_eq_true,eR]at h k;rw[eR]at Yt;rcases oz a b with e | e | e
  ·subst e;exact k Yt
  ·exact k (iw Yt e)
  ·exact h e
theorem Tw (a b:BS):((!ltOf aU b a) || (!ltOf aU a b))=true:=by
 cases Yq:ltOf aU b a with
 | false=>rfl
 | true=>
  cases hab:ltOf aU a b with
  | false=>rfl
  | true=>
   rw[eR]at Yq hab;exact absurd (iw Yq hab) (jG b)
theorem fO {l L:List BS} (hp:(bh l).isPerm L=Dm) (hs:decide (L.Pairwise fun x y=>(!ltOf aU y x)=Dm)=Dm):partsOf l=L:=
 List.Perm.eq_of_pairwise (fun a b _ _ h k=>abT a b (by simpa using k) (by simpa using h)) (List.pairwise_mergeSort Tv Tw _) (of_decide_eq_true hs) ((List.mergeSort_perm _ _).trans (List.isPerm_iff.1 hp))
def zl (l:List Nat):BS:=pX fun c=>l.contains c
theorem Di {ps:List PT} {P:List BS} {f:Nat} {st:List (List (List Int))×List (List Nat)} (hP:partsOf (cH ps)=P) (hl:¬64<ps.length) (ho:ps.all PT.ok=Dm) (h1:1<=f) (h2:f<=4000) (hst:jq f (fun row k=>eX ps row (lb P k)) P.length (lS ps) f=AM st):lp ps f=(⟨P,st.2.map fun r=>r.map Int.ofNat,st.1.map (dP ps)⟩,0):=by subst hP;unfold lp sU;rw[if_neg hl,if_neg (by rw[ho];decide),if_neg (by omega),Int.toNat_natCast,if_neg (by omega),hst]
def vd (l:List Nat):RX:=.nd 2 (zl l) 0 0 []
def VZ (l:List Nat):RX:=.nd 3 0 0 0 (l.map fun c=>vd [c])
def pU (t:RX):RX:=.nd 5 0 0 (-1) [t]
def Lx (t:RX) (b:Bool):PT:=⟨t.nf,b,0⟩
end
section
open Go Go.RowKit
set_option maxRecDepth 100000
def aef (l:List RX):RX:=.nd 4 0 0 0 l
def Gp:RX:=aef [vd [97],vd [98]]
def We:RX:=aef [pU Gp,pU (vd [97])]
def tAA:RX:=pU (VZ [97,97])
def cl3:List BS:=[~~~(zl [97,98]),zl [97],zl [98]]
def EB:List BS:=[~~~(zl [97]),zl [97]]
def Oj:DF:=⟨cl3,[[1,2,3],[1,1,1],[1,1,1],[1,1,1]],[[],[],[0],[0]]⟩
def Gq:DF:=⟨cl3,[[0,1,2],[0,1,2],[0,1,2]],[[0],[0],[0]]⟩
def Tx:DF:=⟨EB,[[1,2],[1,1],[1,2]],[[0],[],[0]]⟩
def Gr:DF:=⟨EB,[[1,2],[1,1],[1,3],[1,2]],[[0],[],[],[0]]⟩
theorem aeg:lp [Lx Gp Dm] 9=(Oj,0):=
 (Di (P:=cl3) (f:=9) (st:=([[[-1]],[[]],[[0]],[[1]]],[[1,2,3],[1,1,1],[1,1,1],[1,1,1]])) (fO (by kernel_rfl) (by kernel_rfl)) (by decide) (by kernel_rfl) (by decide) (by decide) (by kernel_rfl)).trans (by kernel_rfl)
theorem aeh:lp [Lx We Ft] 99=(Gq,0):=
 (Di (P:=cl3) (f:=99) (st:=([[[-1]],[[-1,0,2]],[[-1,1]]],[[0,1,2],[0,1,2],[0,1,2]])) (fO (by kernel_rfl) (by kernel_rfl)) (by decide) (by kernel_rfl) (by decide) (by decide) (by kernel_rfl)).trans (by kernel_rfl)
theorem aei:lp [Lx (pU (vd [97])) Dm] 9=(Tx,0):=
 (Di (P:=EB) (f:=9) (st:=([[[-1]],[[]],[[0]]],[[1,2],[1,1],[1,2]])) (fO (by kernel_rfl) (by kernel_rfl)) (by decide) (by kernel_rfl) (by decide) (by decide) (by kernel_rfl)).trans (by kernel_rfl)
theorem aaz:lp [Lx tAA Dm] 9=(Gr,0):=
 (Di (P:=EB) (f:=9) (st:=([[[-1]],[[]],[[0]],[[1]]],[[1,2],[1,1],[1,3],[1,2]])) (fO (by kernel_rfl) (by kernel_rfl)) (by decide) (by kernel_rfl) (by decide) (by decide) (by kernel_rfl)).trans (by kernel_rfl)
theorem Xy:(cq Oj).nx.length=3/\(cq Oj).cl.length=2:=by constructor<;>kernel_rfl
theorem Xz:(cq Gq).nx.length=1/\(cq Gq).cl.length=1:=by constructor<;>kernel_rfl
theorem p_a:cB Tx Gr (0,0)=AM [97]:=(Oe (P:=EB) (fO (by kernel_rfl) (by kernel_rfl)) (0,0)).trans (by kernel_rfl)
theorem aej:Oj.right=true:=((dF _).2 ⟨by decide,by decide,by decide,fO (by kernel_rfl) (by kernel_rfl),by decide,by decide,by decide⟩)
theorem aek:Gq.right=true:=((dF _).2 ⟨by decide,by decide,by decide,fO (by kernel_rfl) (by kernel_rfl),by decide,by decide,by decide⟩)
theorem ael:Tx.right=true:=((dF _).2 ⟨by decide,by decide,by decide,fO (by kernel_rfl) (by kernel_rfl),by decide,by decide,by decide⟩)
theorem aaA:Gr.right=true:=((dF _).2 ⟨by decide,by decide,by decide,fO (by kernel_rfl) (by kernel_rfl),by decide,by decide,by decide⟩)
theorem aaB:kH.right=true:=((dF _).2 ⟨by decide,by decide,by decide,fO (by kernel_rfl) (by kernel_rfl),by decide,by decide,by decide⟩)
end
section
open Go Go.RowKit Go.Shelf Go.Maps
theorem zm (W:Bm) (e:D') (s:ByteArray):aa W (C_ W e s):=by refine⟨?_,?_,?_,by rw[Lib.bytesWorld_size];omega,fun k hk=>Lib.bytesWorld_at_old W e s k hk⟩<;>(unfold C_ World.freeze;split<;>rfl)
theorem Ol (k:Nat) (s:BS) (mn mx:Int) (a:By) {i:Nat} (hi:i<4):(aq k s mn mx a)[1+i]? =AM (As AT (wd s i).toNat):=by
 match i,hi with
 | 0,_=>rfl
 | 1,_=>rfl
 | 2,_=>rfl
 | 3,_=>rfl
theorem JQ {s t:BS} {q:Nat} {x:By} (hq4:q<4) (h:(encS s).setIfInBounds q x=encS t) (k:Nat) (mn mx:Int) (a:By):(aq k s mn mx a).setIfInBounds (1+q) x=aq k t mn mx a:=by unfold encS at h;unfold aq;have h0:=congrArg (·[0]?) h;have h1:=congrArg (·[1]?) h;have h2:=congrArg (·[2]?) h;have h3:=congrArg (·[3]?) h;clear h;rcases(show q=0\/q=1\/q=2\/q=3 by omega)with rfl | rfl | rfl | rfl<;>(simp at h0 h1 h2 h3;simp[h0,h1,h2,h3])
theorem Gs (k:Nat) (s:BS) (mn mx:Int) (a:By) {c:Nat} (hc:c<256):(aq k s mn mx a).setIfInBounds (1+c/64) (As AT (bits .or AT (wd s (c/64)).toNat (AT.wrap (2^ (c%64)))))=aq k (np s c) mn mx a:=JQ (by omega) (vM s hc) k mn mx a
theorem uK (s:ByteArray) (l:List Nat) (j8:s.data.toList.map (·.toNat)=l) (hn:l.length<=1000000) (w:Bm): ah 55 #[D_ s] w fun e w'=>e=A_ (B_ (aq 2 (pX fun c=>l.contains c) 0 0 (An AF 0 0)))/\aa w w':=by
 obtain⟨u,hu⟩:=ag (pX fun c=>l.contains c);rw[<-hu];have HU:=AI hu;have hcv:∀ W:Bm,(convert 9 44 (D_ s)).run C' W=.ok (An (AM ⟨W.heap.size,0,AF⟩) s.size (grownCap W s.size 0 5)) (C_ W 5 s):=fun W=>Lib.run_convert_string_bytes W 9 44 5 s DQ Dn D0
 have hsz:s.size=l.length:=by rw[<-j8];simp
 have HCE:Bs (∀ (W:Bm) (i x:Nat),l[i]? =AM x->(C_ W 5 s).cell? ⟨W.heap.size,i,AF⟩=AM (As DH x)):=AI fun W i x h=>by
  have hi:i<s.size:=by rw[hsz];exact(List.getElem?_eq_some_iff.1 h).1
  rw[Lib.bytesWorld_cell W 5 s i hi];rw[<-j8,aO]at h;cases hq:s.data.toList[i]? with
  | none=>rw[hq]at h;cases h
  | some b=>rw[hq]at h;cases h;rw[bu,hq];rfl
 have HL:Bs (∀ c∈l,c<256):=AI fun c hc=>by
  rw[<-j8]at hc;obtain⟨b,_,rfl⟩:=List.mem_map.1 hc;exact b.toNat_lt
 rw[hsz]at hcv;have UU:Bs (∀ W:Bm,aa W (C_ W 5 s)):=AI fun W=>zm W _ s
 clear hu j8 hsz;go_enter Tryz.func55,Tryz.ntmps55;go_upto_region 2 with fail
 refine aA ?_;intro V hV;have R0:Bs (ar V w.heap.size eL 97):=by rw[hV];exact AI ((ar.new _ _ _).alloc _)
 have B0:Bs (ar V (w.heap.size+1) (aq 2 0 0 0 (An AF 0 0)) 97):=by rw[hV,bT];exact AI ((ar.new _ _ _).at (by simp))
 have X0:Bs (aa w V):=by rw[hV];exact AI (((Ext.refl w).alloc _).alloc _).below
 have yY:V.heap.size=w.heap.size+2:=by rw[hV];simp
 have qR:=AI yY;clear hV yY;go_wp2;go_loopw [10] (fun i wr=>∃ (k:Nat) (s':BS),k<=l.length/\i=As AN k/\(∀ c,c<256->s'.getLsbD c=(l.take k).contains c)/\ar wr (w.heap.size+1) (aq 2 s' 0 0 (An AF 0 0)) 97/\ar wr w.heap.size eL 97/\(∀ i x:Nat,l[i]? =AM x->wr.cell? ⟨V.heap.size,i,AF⟩=AM (As DH x))/\aa w wr) (fun i _=>l.length-(intOf i).toNat);case atStart=>
  have hb:=UU.out V;exact⟨0,0,by omega,rfl,fun c hc=>by simp,B0.below hb B0.lt,R0.below hb R0.lt,fun i x h=>HCE V i x h,X0.trans (hb.mono X0.size)⟩
 case round=>
  obtain⟨k,s',hk,rfl,hs,hB,hR,hce,hx⟩:=hrel;obtain⟨wo,rfl⟩:=ag (wr:Bm);have HS:=AI hs;have HCR:=AI hce;clear hs hce;by_cases hlt:k<l.length
  ·obtain⟨c,mG⟩:∃ c,l[k]? =AM c:=⟨l[k],az hlt⟩
   have jf:c<256:=HL.out c (aw mG);have hcc:wo.cell? ⟨V.heap.size,k,AF⟩=AM (As DH c):=HCR.out k c mG;have hw:(aq 2 s' 0 0 (An AF 0 0))[1+c/64]? =AM (As AT (wd s' (c/64)).toNat):=Ol _ _ _ _ _ (by omega);have hc1:wo.cell? ⟨w.heap.size+1,1+c/64,AF⟩=AM (As AT (wd s' (c/64)).toNat):=(hB.cell _).trans hw;have hf:=hB.frozen (1+c/64);have eT:l.take (k+1)=l.take k++ [c]:=by rw[List.take_add_one,mG];rfl
   have HT:=AI eT;have HB:=AI hB;have HR:=AI hR;have HX:=AI hx;have eE:(k:Int)<l.length:=by omega
   clear hB hR hx hw eT mG UU hcv;go_wp2;go_roundw;case rel=>
    refine⟨k+1,np s' c,by omega,by go_num,fun d hd=>?_,?_,?_,fun i x h=>?_,?_⟩
    ·rw[kY s' jf,HS.out d hd,HT.out,List.contains_eq_any_beq,List.contains_eq_any_beq,List.any_append]
     simp
    ·rw[<-Gs 2 s' 0 0 _ jf];exact HB.set _ _
    ·exact HR.other (by simp) _
    ·rw[cell_far _ _ _ _ (by have:=qR.out;simp;omega)];exact HCR i x h
    ·exact HX.trans (((ae.refl (· <w.heap.size) _).setCell (p:=⟨w.heap.size+1,1+c/64,AF⟩) (fun h=>by have h':w.heap.size+1<w.heap.size:=h;omega) _).below)
   case measure=>simp[intOf];omega
  ·have RB:s'=u:=by rw[HU.out];exact BS.Kc fun c hc=>by rw[HS.out c hc,List.take_of_length_le (by omega)]
   subst RB;obtain rfl:k=l.length:=by omega
   have HR:=AI hR;have HX:=AI hx;have eE:¬ ((l.length:Int)<l.length):=by omega
   obtain⟨c0,c1,c2,c3,c4,c5,c6,c7⟩:=hB.eight;clear hB hR hx hcv UU;go_wp2_with (refine wpList_store_row rfl 97 (.tmp 2) (.tmp 26) rfl w.heap.size (aq 2 s' 0 0 (An AF 0 0)) rfl rfl 97 eL HR (dm _ _ _ _ _) rfl (kB _ _ _ _ _ _ _) ?_;refine Hid.out ?_);refine AI ?_;obtain⟨V3,cX⟩:=ag (wo.setRow w.heap.size (aq 2 s' 0 0 (An AF 0 0)));rw[<-cX];have R9:Bs (ar V3 w.heap.size (aq 2 s' 0 0 (An AF 0 0)) 97):=by rw[cX];exact AI HR.setRow
   have X9:aa w V3:=by rw[cX];exact HX.trans ((bJ wo w.heap.size _).mono fun x (hx:x<w.heap.size)=>by show x≠_;omega:ae (· <w.heap.size) wo _).below
   clear cX;go_wp2;obtain⟨m0,m1,m2,m3,m4,m5,m6,m7⟩:=R9.eight;exact B' (v:=B_ (aq 2 s' 0 0 (An AF 0 0))) (by simp[results,Tryz.results55,aq,go_sem,m0,m1,m2,m3,m4,m5,m6,m7]) rfl ⟨rfl,X9⟩
theorem Om (p:Option FF) (n c:Nat) (w:Bm): ah 54 #[An p n c] w fun e w'=>e=A_ (B_ (aq 4 0 0 0 (An p n c)))/\aa w w':=by
 rw[bT];go_enter Tryz.func54,Tryz.ntmps54;go_wp2;refine bA ?_;intro V hV;have R1:Bs (ar V w.heap.size #[As DH 4,As AT 0,As AT 0,As AT 0,As AT 0,As AN 0,As AN 0,An p n c] 97):=by rw[hV];exact AI (ar.new _ _ _)
 have X1:Bs (aa w V):=by rw[hV];exact AI ((Ext.refl w).alloc _).below
 clear hV;obtain⟨m0,m1,m2,m3,m4,m5,m6,m7⟩:=R1.eight;exact B' (v:=B_ #[As DH 4,As AT 0,As AT 0,As AT 0,As AT 0,As AN 0,As AN 0,An p n c]) (by simp[results,Tryz.results54,go_sem,m0,m1,m2,m3,m4,m5,m6,m7]) rfl ⟨rfl,X1⟩
theorem Oo (p:Option FF) (n c:Nat) (w:Bm): ah 58 #[An p n c] w fun e w'=>e=A_ (B_ (aq 3 0 0 0 (An p n c)))/\aa w w':=by
 rw[bT];go_enter Tryz.func58,Tryz.ntmps58;go_wp2;refine bA ?_;intro V hV;have R1:Bs (ar V w.heap.size #[As DH 3,As AT 0,As AT 0,As AT 0,As AT 0,As AN 0,As AN 0,An p n c] 97):=by rw[hV];exact AI (ar.new _ _ _)
 have X1:Bs (aa w V):=by rw[hV];exact AI ((Ext.refl w).alloc _).below
 clear hV;obtain⟨m0,m1,m2,m3,m4,m5,m6,m7⟩:=R1.eight;exact B' (v:=B_ #[As DH 3,As AT 0,As AT 0,As AT 0,As AT 0,As AN 0,As AN 0,An p n c]) (by simp[results,Tryz.results58,go_sem,m0,m1,m2,m3,m4,m5,m6,m7]) rfl ⟨rfl,X1⟩
theorem mA (v:By) (t:RX) (F:Nat->Prop) (w:Bm) (hF:∀ x,F x->x<w.heap.size) (h:aK F w v t): ah 56 #[v] w fun e w'=>∃ b,e=A_ (B_ #[As DH 5,As AT 0,As AT 0,As AT 0,As AT 0,As AN 0,As AN (-1),An (AM ⟨b,0,AF⟩) 1 1])/\aK (fun x=>x<w'.heap.size/\(F x\/w.heap.size<=x)) w' (B_ #[As DH 5,As AT 0,As AT 0,As AT 0,As AT 0,As AN 0,As AN (-1),An (AM ⟨b,0,AF⟩) 1 1]) (pU t)/\aa w w':=by
 obtain⟨p,c,rfl⟩:=h.form;have H:=AI h;obtain⟨k,hk⟩:=ag t.kind;obtain⟨nl,tK⟩:=ag t.subs.length;obtain⟨st,hst⟩:=ag t.set;obtain⟨tn,tq⟩:=ag t.mn;obtain⟨tx,KQ⟩:=ag t.mx;rw[<-hk, <-tK, <-hst, <-tq, <-KQ]at H ⊢;clear h hk tK hst tq KQ;unfold aq;go_enter Tryz.func56,Tryz.ntmps56;go_wp2;refine bA ?_;intro V hV;have B2:Bs (ar V (w.heap.size+1+1) (aq k st tn tx (An p nl c)) 97):=by rw[hV];exact AI ((ar.new _ _ _).at (by simp))
 have R1:Bs (ar V (w.heap.size+1) #[As DH 5,As AT 0,As AT 0,As AT 0,As AT 0,As AN 0,As AN (-1),An (AM ⟨w.heap.size+1+1,0,AF⟩) 1 1] 97):=by rw[hV];exact AI (((ar.new _ _ _).at (by simp)).alloc _)
 have X1:Bs (aa w V):=by rw[hV];exact AI ((((Ext.refl w).alloc _).alloc _).alloc _).below
 clear hV;obtain⟨m0,m1,m2,m3,m4,m5,m6,m7⟩:=R1.eight;refine B' (v:=B_ #[As DH 5,As AT 0,As AT 0,As AT 0,As AT 0,As AN 0,As AN (-1),An (AM ⟨w.heap.size+1+1,0,AF⟩) 1 1]) (by simp[results,Tryz.results56,go_sem,m0,m1,m2,m3,m4,m5,m6,m7]) rfl ⟨_,rfl,?_,X1⟩;have e:=aK.one hF H X1 B2 (by omega) 5 0 0 (-1);rw[bT]at e;exact e
def kI (w:Bm):List By->List (List Int)->Prop
 | [],[]=>True
 | u::us,l::ll=>bQ aM w u l/\kI w us ll
 | _,_=>False
theorem kI.len {w:Bm} :∀ {us:List By} {ll:List (List Int)},kI w us ll->us.length=ll.length
 | [],[],_=>rfl
 | u::us,l::ll,h=>by simp only[List.length_cons];rw[kI.len h.2]
 | [],_::_,h=>h.elim
 | _::_,[],h=>h.elim
theorem kI.at {w:Bm} :∀ {us:List By} {ll:List (List Int)},kI w us ll->∀ (i:Nat) (u:By) (l:List Int),us[i]? =AM u->ll[i]? =AM l->bQ aM w u l
 | [],[],_,i,u,l,hu,_=>by simp at hu
 | x::us,y::ll,h,i,u,l,hu,hl=>by
  cases i with
  | zero=>
   simp at hu hl;subst hu hl;exact h.1
  | succ i=>exact kI.at h.2 i u l (by simpa using hu) (by simpa using hl)
 | [],_::_,h,_,_,_,_,_=>h.elim
 | _::_,[],h,_,_,_,_,_=>h.elim
theorem LD {w:Bm} {B n:Nat} {c:Array By} {t:D'} (us:List By) {ll:List (List Int)} (h:ar w B c t) (hc:c.toList=us) (hn:n=us.length) (hr:kI w us ll):iZ w (An (AM ⟨B,0,AF⟩) n n) ll:=by subst hn;exact⟨us,hr.len,Ej us h (by rw[hc];simp) rfl (aG _),hr.at⟩
theorem JS {w:Bm} {B n:Nat} {c:Array By} {t:D'} (l:List BS) (h:ar w B c t) (hc:c.toList=aP l) (hn:n=l.length):oB w (An (AM ⟨B,0,AF⟩) n n) l:=⟨H7 l h hc hn,fun a n cap e=>by cases e;exact aG _⟩
theorem qO {w:Bm} {B n:Nat} {c:Array By} {t:D'} (l:List Int) (h:ar w B c t) (hc:c.toList=l.map aM) (hn:n=l.length):bQ aM w (An (AM ⟨B,0,AF⟩) n n) l:=by subst hn;exact Ej l h hc rfl (aG _)
theorem LG {w:Bm} :bQ aM w (An AF 0 0) []:=.inl ⟨rfl,rfl⟩
theorem vA (i:Nat) (hi:i<4):(wd (A' 256) i).toNat=18446744073709551615:=by
 have h0:(wd (A' 256) 0).toNat=18446744073709551615:=by kernel_rfl
 have h1:(wd (A' 256) 1).toNat=18446744073709551615:=by kernel_rfl
 have h2:(wd (A' 256) 2).toNat=18446744073709551615:=by kernel_rfl
 have h3:(wd (A' 256) 3).toNat=18446744073709551615:=by kernel_rfl
 rcases(show i=0\/i=1\/i=2\/i=3 by omega)with rfl | rfl | rfl | rfl<;>assumption
theorem aK.grow {w W:Bm} {v:By} {t:RX} (h:aK (· <w.heap.size) w v t) (hk:aa w W):aK (· <W.heap.size) W v t:=(h.mV hk).mono fun _ hb=>aD hb hk.size
theorem aK.two {V:Bm} {b k1 n1 c1 k2 n2 c2:Nat} {s1 s2:BS} {a1 d1 a2 d2:Int} {p1 p2:Option FF} {t1 t2:RX} {ty:D'} {C:Array By} (h1:aK (· <V.heap.size) V (B_ (aq k1 s1 a1 d1 (An p1 n1 c1))) t1) (h2:aK (· <V.heap.size) V (B_ (aq k2 s2 a2 d2 (An p2 n2 c2))) t2) (hB:ar V b C ty) (hC:C=aq k1 s1 a1 d1 (An p1 n1 c1)++aq k2 s2 a2 d2 (An p2 n2 c2)) (k:Nat): aK (· <V.heap.size) V (B_ (aq k 0 0 0 (An (AM ⟨b,0,AF⟩) 2 2))) (.nd k 0 0 0 [t1,t2]):=by
 have hz1:(aq k1 s1 a1 d1 (An p1 n1 c1)).size=8:=rfl;refine .mk k 0 0 0 [t1,t2] _ b 0 2 (fun i=>if i=0 then B_ (aq k1 s1 a1 d1 (An p1 n1 c1))else B_ (aq k2 s2 a2 d2 (An p2 n2 c2))) (fun e=>by cases e) (fun _=>⟨rfl,hB.lt,hB.lt,by simp⟩) (fun i x hi=>?_) (fun i x hi=>?_)
 ·match i,hi with
  | 0, hi => exact ⟨_, rfl, fun j u hj => by
    have hj8 : j < 8 := by rw [<- hz1]; exact (Cd.1 hj).1
    have h5 := hB.cell j;rw [hC, Array.getElem?_append_left (by omega)] at h5
    simpa using h5.trans hj⟩
  | 1, hi => exact ⟨_, rfl, fun j u hj => by
    have h5 := hB.cell (8 + j);rw [hC, Array.getElem?_append_right (by omega), hz1, Nat.add_sub_cancel_left] at h5
    simpa using h5.trans hj⟩
  | i+2,hi=>simp at hi
 ·match i,hi with
  | 0,hi=>cases hi;exact h1
  | 1,hi=>cases hi;exact h2
  | i+2,hi=>simp at hi
theorem JT (w:Bm): ah 57 #[] w fun e w'=>∃ a0 a1 a2,e=A_ (B_ #[An a0 1 1,An a1 4 4,An a2 4 4])/\dr w' (B_ #[An a0 1 1,An a1 4 4,An a2 4 4]) kH/\aa w w':=by
 have o0:=vA 0 (by decide);have o1:=vA 1 (by decide);have o2:=vA 2 (by decide);have o3:=vA 3 (by decide);have HW:=AI (And.intro o0 (And.intro o1 (And.intro o2 o3)));clear o0 o1 o2 o3;go_enter Tryz.func57,Tryz.ntmps57;go_wp2;refine bA ?_;intro V hV;have k0:ar V (w.heap.size) #[An (AM ⟨w.heap.size+1,0,AF⟩) 1 1,An (AM ⟨w.heap.size+1+1+1+1+1+1,0,AF⟩) 4 4,An (AM ⟨w.heap.size+1+1+1+1+1+1+1+1+1,0,AF⟩) 4 4] 29:=by rw[hV];exact(((((((((ar.new _ _ _).alloc _).alloc _).alloc _).alloc _).alloc _).alloc _).alloc _).alloc _).alloc _
 have k1:ar V (w.heap.size+1) #[As AT 18446744073709551615,As AT 18446744073709551615,As AT 18446744073709551615,As AT 18446744073709551615] 56:=by rw[hV];exact(((((((((ar.new _ _ _).at (by simp)).alloc _).alloc _).alloc _).alloc _).alloc _).alloc _).alloc _).alloc _
 have k2:ar V (w.heap.size+1+1) #[As AN 1] 3:=by rw[hV];exact((((((((ar.new _ _ _).at (by simp)).alloc _).alloc _).alloc _).alloc _).alloc _).alloc _).alloc _
 have k3:ar V (w.heap.size+1+1+1) #[As AN 0] 3:=by rw[hV];exact(((((((ar.new _ _ _).at (by simp)).alloc _).alloc _).alloc _).alloc _).alloc _).alloc _
 have k4:ar V (w.heap.size+1+1+1+1) #[As AN 3] 3:=by rw[hV];exact((((((ar.new _ _ _).at (by simp)).alloc _).alloc _).alloc _).alloc _).alloc _
 have k5:ar V (w.heap.size+1+1+1+1+1) #[As AN 2] 3:=by rw[hV];exact(((((ar.new _ _ _).at (by simp)).alloc _).alloc _).alloc _).alloc _
 have k6:ar V (w.heap.size+1+1+1+1+1+1) #[An (AM ⟨w.heap.size+1+1,0,AF⟩) 1 1,An (AM ⟨w.heap.size+1+1+1,0,AF⟩) 1 1,An (AM ⟨w.heap.size+1+1+1+1,0,AF⟩) 1 1,An (AM ⟨w.heap.size+1+1+1+1+1,0,AF⟩) 1 1] 39:=by rw[hV];exact((((ar.new _ _ _).at (by simp)).alloc _).alloc _).alloc _
 have k7:ar V (w.heap.size+1+1+1+1+1+1+1) #[As AN 0] 3:=by rw[hV];exact(((ar.new _ _ _).at (by simp)).alloc _).alloc _
 have k8:ar V (w.heap.size+1+1+1+1+1+1+1+1) #[As AN 0] 3:=by rw[hV];exact((ar.new _ _ _).at (by simp)).alloc _
 have k9:ar V (w.heap.size+1+1+1+1+1+1+1+1+1) #[An AF 0 0,An (AM ⟨w.heap.size+1+1+1+1+1+1+1,0,AF⟩) 1 1,An AF 0 0,An (AM ⟨w.heap.size+1+1+1+1+1+1+1+1,0,AF⟩) 1 1] 39:=by rw[hV];exact(ar.new _ _ _).at (by simp)
 have X1:Bs (aa w V):=by rw[hV];exact AI (((((((((((Ext.refl w).alloc _).alloc _).alloc _).alloc _).alloc _).alloc _).alloc _).alloc _).alloc _).alloc _).below
 clear hV;obtain⟨o0,o1,o2,o3⟩:=HW.out
 have hdf:dr V (B_ #[An (AM ⟨w.heap.size+1,0,AF⟩) 1 1,An (AM ⟨w.heap.size+1+1+1+1+1+1,0,AF⟩) 4 4,An (AM ⟨w.heap.size+1+1+1+1+1+1+1+1+1,0,AF⟩) 4 4]) kH:=⟨_,_,_,rfl,JS [A' 256] k1 (by
   show _=[As AT (wd (A' 256) 0).toNat,As AT (wd (A' 256) 1).toNat,As AT (wd (A' 256) 2).toNat,As AT (wd (A' 256) 3).toNat]
   rw[o0,o1,o2,o3];rfl) rfl,
  LD [An (AM ⟨w.heap.size+1+1,0,AF⟩) 1 1,An (AM ⟨w.heap.size+1+1+1,0,AF⟩) 1 1,An (AM ⟨w.heap.size+1+1+1+1,0,AF⟩) 1 1,An (AM ⟨w.heap.size+1+1+1+1+1,0,AF⟩) 1 1] k6 rfl rfl ⟨qO [1] k2 rfl rfl,qO [0] k3 rfl rfl,qO [3] k4 rfl rfl,qO [2] k5 rfl rfl,trivial⟩,
  LD [An AF 0 0,An (AM ⟨w.heap.size+1+1+1+1+1+1+1,0,AF⟩) 1 1,An AF 0 0,An (AM ⟨w.heap.size+1+1+1+1+1+1+1+1,0,AF⟩) 1 1] k9 rfl rfl ⟨LG,qO [0] k7 rfl rfl,LG,qO [0] k8 rfl rfl,trivial⟩⟩
 obtain⟨⟨m0,m1,m2⟩,_⟩:=k0.three;exact B' (v:=B_ #[An (AM ⟨w.heap.size+1,0,AF⟩) 1 1,An (AM ⟨w.heap.size+1+1+1+1+1+1,0,AF⟩) 4 4,An (AM ⟨w.heap.size+1+1+1+1+1+1+1+1+1,0,AF⟩) 4 4]) (by simp[results,Tryz.results57,go_sem,m0,m1,m2]) rfl ⟨_,_,_,rfl,hdf,X1⟩
theorem Dj {w:Bm} {p:FF} {v:By} (h:w.cell? p=AM v):p.block<w.heap.size:=by
 unfold World.cell? at h;split at h
 ·rename_i hb;exact(Cd.1 hb).1
 ·cases h
theorem vB {t:RX} (h:(t.pre.all fun x=>x.dt)=Dm):t.fine:=fun x hx=>List.all_eq_true.1 h x hx
theorem Ty:((List.range kH.nx.length).map fun s=>cV (kq kH s))=[0,1,0,1].map aM:=by have h:(List.range kH.nx.length).map (kq kH)=[0,1,0,1]:=Tk;rw[show((List.range kH.nx.length).map fun s=>cV (kq kH s))=((List.range kH.nx.length).map (kq kH)).map cV by rw[List.map_map];rfl,h];rfl
theorem AQ {W:Bm} {a:Option FF} {c:Nat} (h:bQ cU W (An a 1 c) [97]):(convert 44 9 (An a 1 c)).run C' W=.ok (D_ ⟨#[97]⟩) W:=by
 rcases h with⟨e,h⟩ | ⟨g,off,cap,e,hg,mQ,hc⟩
 ·cases h
 ·cases e
  exact Lib.run_convert_whole W 44 5 9 Dn D0 DQ g off ⟨#[97]⟩ (fun i hi=>by
   obtain rfl:i=0:=by have:i<1:=hi;omega
   exact hc 0 97 rfl) c
theorem JU {l:List Int} (hn:l.length<=1000000) (W:Bm) (u v:By) (h:bQ aM W u l) (h':bQ aM W v l):ah 33 #[u,v] W fun e w'=>e=A_ (Dl Dm)/\aa W w':=(nw u v l l W h h' hn).mono fun e w' ⟨he,hx⟩=>by
 rw[beq_self_eq_true]at he;exact⟨he,hx.below⟩
theorem j6 {w W:Bm} {p:FF} {v:By} (hb:aa w W) (h:w.cell? p=AM v):W.cell? p=AM v:=((ae.ai hb fun _ h=>h:ae (· <w.heap.size) w W).cell (Dj h)).trans h
theorem Gt (w:Bm) (hT:∀ W,aa w W->nN W): ah 10 #[] w fun e w'=>e=A_ (Dl Dm)/\aa w w':=by
 have TT:Bs (∀ A,aa w A->∀ V,aa A V->nN V):=AI fun A hA V hV=>hT V (hA.trans (hV.mono hA.size))
 obtain⟨sa,Ki⟩:=ag (zl [97]);obtain⟨sb,kJ⟩:=ag (zl [98]);obtain⟨l2,hl2⟩:=ag ((cq Gq).mr.length);have CA:Bs (∀ W,ah 55 #[D_ ⟨#[97]⟩] W fun e w'=>e=A_ (B_ #[As DH 2,As AT (wd sa 0).toNat,As AT (wd sa 1).toNat,As AT (wd sa 2).toNat,As AT (wd sa 3).toNat,As AN 0,As AN 0,An AF 0 0])/\aa W w'):=AI fun W=>by rw[Ki];exact uK ⟨#[97]⟩ [97] rfl (by decide) W
 have CB:Bs (∀ W,ah 55 #[D_ ⟨#[98]⟩] W fun e w'=>e=A_ (B_ #[As DH 2,As AT (wd sb 0).toNat,As AT (wd sb 1).toNat,As AT (wd sb 2).toNat,As AT (wd sb 3).toNat,As AN 0,As AN 0,An AF 0 0])/\aa W w'):=AI fun W=>by rw[kJ];exact uK ⟨#[98]⟩ [98] rfl (by decide) W
 have LFA:Bs (∀ W,aK (· <W.heap.size) W (B_ (aq 2 sa 0 0 (An AF 0 0))) (vd [97])):=AI fun W=>by rw[Ki];exact aK.leaf (· <W.heap.size) W 2 (zl [97]) 0 0 AF 0
 have LFB:Bs (∀ W,aK (· <W.heap.size) W (B_ (aq 2 sb 0 0 (An AF 0 0))) (vd [98])):=AI fun W=>by rw[kJ];exact aK.leaf (· <W.heap.size) W 2 (zl [98]) 0 0 AF 0
 have AL:Bs (∀ (W:Bm) (b:FF),ah 54 #[An (AM b) 2 2] W fun e w'=>e=A_ (B_ #[As DH 4,As AT 0,As AT 0,As AT 0,As AT 0,As AN 0,As AN 0,An (AM b) 2 2])/\aa W w'):=AI fun W b=>by have h:=Om (AM b) 2 2 W;rw[bT]at h;exact h
 have KT:Bs (∀ (W:Bm) (b:FF),ah 58 #[An (AM b) 2 2] W fun e w'=>e=A_ (B_ #[As DH 3,As AT 0,As AT 0,As AT 0,As AT 0,As AN 0,As AN 0,An (AM b) 2 2])/\aa W w'):=AI fun W b=>by have h:=Oo (AM b) 2 2 W;rw[bT]at h;exact h
 have O1:Bs (∀ W v,aa w W->aK (· <W.heap.size) W v Gp->ah 53 #[v,Dl Dm,As AN 9] W (qB 3 4 4 0 Oj W)):=AI fun W v hW hv=>kD v Gp (vB (by kernel_rfl)) (by decide) (by decide) Dm 9 aeg rfl rfl rfl W hv fun V hV=>TT W hW V hV
 have O2:Bs (∀ W v,aa w W->aK (· <W.heap.size) W v We->ah 53 #[v,Dl Ft,As AN 99] W (qB 3 3 3 0 Gq W)):=AI fun W v hW hv=>kD v We (vB (by kernel_rfl)) (by decide) (by decide) Ft 99 aeh rfl rfl rfl W hv fun V hV=>TT W hW V hV
 have O3:Bs (∀ W v,aa w W->aK (· <W.heap.size) W v (pU (vd [97]))->ah 53 #[v,Dl Dm,As AN 9] W (qB 2 3 3 0 Tx W)):=AI fun W v hW hv=>kD v (pU (vd [97])) (vB (by kernel_rfl)) (by decide) (by decide) Dm 9 aei rfl rfl rfl W hv fun V hV=>TT W hW V hV
 have O4:Bs (∀ W v,aa w W->aK (· <W.heap.size) W v (pU (VZ [97,97]))->ah 53 #[v,Dl Dm,As AN 9] W (qB 2 4 4 0 Gr W)):=AI fun W v hW hv=>kD v tAA (vB (by kernel_rfl)) (by decide) (by decide) Dm 9 aaz rfl rfl rfl W hv fun V hV=>TT W hW V hV
 have CS:Bs (∀ W v,dr W v Oj->ah 14 #[v] W fun e w'=>e=A_ (DE #[As AN 3,As AN 2,As AN 0])/\aa W w'):=AI fun W v hv=>Tp ((dF _).1 aej) Xy.2.symm Xy.1.symm rfl W v hv
 have CM:Bs (∀ W v,dr W v Gq->ah 12 #[v] W (qB 1 1 l2 0 (cq Gq) W)):=AI fun W v hv=>tH ((dF _).1 aek) Xz.2.symm Xz.1.symm hl2 W v hv
 have FO:Bs (∀ W,ah 57 #[] W fun e w'=>(∃ a0 a1 a2,e=A_ (B_ #[An a0 1 1,An a1 4 4,An a2 4 4])/\dr w' (B_ #[An a0 1 1,An a1 4 4,An a2 4 4]) kH)/\aa W w'):=AI fun W=>(JT W).mono fun e w' ⟨a0,a1,a2,h1,h2,h3⟩=>⟨⟨a0,a1,a2,h1,h2⟩,h3⟩
 have BK:Bs (∀ W v,dr W v kH->ah 36 #[v] W fun e w'=>∃ a c,e=A_ (DE #[An a 4 c,As AN 0])/\w'.ownsRow W.heap.size 3 1 (An a 4 c) 4 ([0,1,0,1].map aM)/\aa W w'):=AI fun W v hv=>(JN ((dF _).1 aaB) W v hv).mono fun e w' ⟨a,c,h1,h2,h3⟩=>⟨a,c,h1,Ty▸h2,h3⟩
 have CE:Bs (∀ W v v',dr W v Tx->dr W v' Gr->ah 32 #[v,v'] W fun e w'=>∃ a c,e=A_ (DE #[An a 1 c,Dl Ft,As AN 0])/\bQ cU w' (An a 1 c) [97]/\aa W w'):=AI fun W v v' hv hv'=>by
  have h:=AP ((dF _).1 ael) ((dF _).1 aaA) (by decide) W v v' hv hv';unfold JP at h;rw[p_a]at h;exact h
 have X:Bs (aa w w):=AI (Below.refl _ _);clear Ki kJ hl2 hT TT;go_enter Tryz.func10,Tryz.ntmps10;go_wp2_with fail
 refine(CA w).mono ?_;rintro e w1 ⟨rfl,hx⟩;replace X:=AI (X.trans (hx.mono X.size));clear hx;go_wp2_with fail
 refine(CB w1).mono ?_;rintro e w2 ⟨rfl,hx⟩;replace X:=AI (X.trans (hx.mono X.size));clear hx;go_wp2_with fail
 refine aI ?_;intro V1 hV;have hb:aa w2 V1:=by rw[hV];exact((Ext.refl w2).alloc _).below
 have kb:ar V1 w2.heap.size #[As DH 2,As AT (wd sa 0).toNat,As AT (wd sa 1).toNat,As AT (wd sa 2).toNat,As AT (wd sa 3).toNat,As AN 0,As AN 0,An AF 0 0,As DH 2,As AT (wd sb 0).toNat,As AT (wd sb 1).toNat,As AT (wd sb 2).toNat,As AT (wd sb 3).toNat,As AN 0,As AN 0,An AF 0 0] 97:=by rw[hV];exact ar.new _ _ _
 replace X:=AI (X.trans (hb.mono X.size));have KB:=AI kb;clear hb kb hV;have T1:Bs (aK (· <V1.heap.size) V1 (B_ #[As DH 4,As AT 0,As AT 0,As AT 0,As AT 0,As AN 0,As AN 0,An (AM ⟨w2.heap.size,0,AF⟩) 2 2]) Gp):=AI (by have h5:=aK.two (LFA V1) (LFB V1) KB rfl 4;rw[bT]at h5;exact h5);clear KB;refine(AL V1 _).mono ?_;rintro e w3 ⟨rfl,hx⟩;replace X:=AI (X.trans (hx.mono X.size));replace T1:=AI (T1.out.grow hx);clear hx;go_wp2_with fail
 refine(O1 w3 _ X T1.out).mono ?_;rintro e w4 ⟨da1,dc1,db1,de1,dg1,dh1,rfl,hd,hx⟩;clear T1;replace X:=AI (X.trans (hx.mono X.size));have D1:=AI hd.df;clear hd hx;go_wp2_with fail
 refine aI ?_;intro V2 hV;have hb:aa w4 V2:=by rw[hV];exact((Ext.refl w4).alloc _).below
 have kb:ar V2 w4.heap.size #[An da1 3 dc1,An db1 4 de1,An dg1 4 dh1] 29:=by rw[hV];exact ar.new _ _ _
 replace X:=AI (X.trans (hb.mono X.size));replace D1:=AI (D1.below hb);have B1:=AI kb;clear hb kb hV;refine(CS V2 _ D1).mono ?_;rintro e w5 ⟨rfl,hx⟩;replace X:=AI (X.trans (hx.mono X.size));replace D1:=AI (D1.below hx);replace B1:=AI (B1.below hx B1.lt);clear hx;clear D1;go_wp2_with fail
 refine(CA w5).mono ?_;rintro e w6 ⟨rfl,hx⟩;replace X:=AI (X.trans (hx.mono X.size));replace B1:=AI (B1.below hx B1.lt);clear hx;go_wp2_with fail
 refine(CB w6).mono ?_;rintro e w7 ⟨rfl,hx⟩;replace X:=AI (X.trans (hx.mono X.size));replace B1:=AI (B1.below hx B1.lt);clear hx;go_wp2_with fail
 refine aI ?_;intro V3 hV;have hb:aa w7 V3:=by rw[hV];exact((Ext.refl w7).alloc _).below
 have kb:ar V3 w7.heap.size #[As DH 2,As AT (wd sa 0).toNat,As AT (wd sa 1).toNat,As AT (wd sa 2).toNat,As AT (wd sa 3).toNat,As AN 0,As AN 0,An AF 0 0,As DH 2,As AT (wd sb 0).toNat,As AT (wd sb 1).toNat,As AT (wd sb 2).toNat,As AT (wd sb 3).toNat,As AN 0,As AN 0,An AF 0 0] 97:=by rw[hV];exact ar.new _ _ _
 replace X:=AI (X.trans (hb.mono X.size));replace B1:=AI (B1.below hb B1.lt);have KB:=AI kb;clear hb kb hV;have T2:Bs (aK (· <V3.heap.size) V3 (B_ #[As DH 4,As AT 0,As AT 0,As AT 0,As AT 0,As AN 0,As AN 0,An (AM ⟨w7.heap.size,0,AF⟩) 2 2]) Gp):=AI (by have h5:=aK.two (LFA V3) (LFB V3) KB rfl 4;rw[bT]at h5;exact h5);clear KB;refine(AL V3 _).mono ?_;rintro e w8 ⟨rfl,hx⟩;replace X:=AI (X.trans (hx.mono X.size));replace B1:=AI (B1.below hx B1.lt);replace T2:=AI (T2.grow hx);clear hx;go_wp2_with fail
 refine(mA _ Gp _ w8 (fun _ h=>h) T2).mono ?_;rintro e w9 ⟨bs1,rfl,ht,hx⟩;clear T2;replace X:=AI (X.trans (hx.mono X.size));replace B1:=AI (B1.below hx B1.lt);have T3:=AI (ht.mono fun b (hb:b<w9.heap.size/\_)=>hb.1);clear ht hx;go_wp2_with fail
 refine(CA w9).mono ?_;rintro e w10 ⟨rfl,hx⟩;replace X:=AI (X.trans (hx.mono X.size));replace B1:=AI (B1.below hx B1.lt);replace T3:=AI (T3.grow hx);clear hx;go_wp2_with fail
 refine(mA _ (vd [97]) _ w10 (fun _ h=>h) (LFA w10)).mono ?_;rintro e w11 ⟨bs,rfl,ht,hx⟩;replace X:=AI (X.trans (hx.mono X.size));replace B1:=AI (B1.below hx B1.lt);replace T3:=AI (T3.grow hx);have T4:=AI (ht.mono fun b (hb:b<w11.heap.size/\_)=>hb.1);clear ht hx;go_wp2_with fail
 refine aI ?_;intro V4 hV;have hb:aa w11 V4:=by rw[hV];exact((Ext.refl w11).alloc _).below
 have kb:ar V4 w11.heap.size #[As DH 5,As AT 0,As AT 0,As AT 0,As AT 0,As AN 0,As AN (-1),An (AM ⟨bs1,0,AF⟩) 1 1,As DH 5,As AT 0,As AT 0,As AT 0,As AT 0,As AN 0,As AN (-1),An (AM ⟨bs,0,AF⟩) 1 1] 97:=by rw[hV];exact ar.new _ _ _
 replace X:=AI (X.trans (hb.mono X.size));replace B1:=AI (B1.below hb B1.lt);replace T3:=AI (T3.grow hb);replace T4:=AI (T4.grow hb);have KB:=AI kb;clear hb kb hV;have u1:aK (· <V4.heap.size) V4 (B_ (aq 5 0 0 (-1) (An (AM ⟨bs1,0,AF⟩) 1 1))) (pU Gp):=by rw[bT];exact T3
 have u2:aK (· <V4.heap.size) V4 (B_ (aq 5 0 0 (-1) (An (AM ⟨bs,0,AF⟩) 1 1))) (pU (vd [97])):=by rw[bT];exact T4
 have T5:Bs (aK (· <V4.heap.size) V4 (B_ #[As DH 4,As AT 0,As AT 0,As AT 0,As AT 0,As AN 0,As AN 0,An (AM ⟨w11.heap.size,0,AF⟩) 2 2]) We):=AI (by have h5:=aK.two u1 u2 KB (by rw[bT,bT];rfl) 4;rw[bT]at h5;exact h5);clear u1 u2;clear KB;refine(AL V4 _).mono ?_;rintro e w12 ⟨rfl,hx⟩;replace X:=AI (X.trans (hx.mono X.size));replace B1:=AI (B1.below hx B1.lt);replace T3:=AI (T3.grow hx);replace T4:=AI (T4.grow hx);replace T5:=AI (T5.grow hx);clear hx;clear T3;clear T4;go_wp2_with fail
 refine(O2 w12 _ X T5).mono ?_;rintro e w13 ⟨da2,dc2,db2,de2,dg2,dh2,rfl,hd,hx⟩;clear T5;replace X:=AI (X.trans (hx.mono X.size));replace B1:=AI (B1.below hx B1.lt);have D2:=AI hd.df;clear hd hx;go_wp2_with fail
 refine aI ?_;intro V5 hV;have hb:aa w13 V5:=by rw[hV];exact((Ext.refl w13).alloc _).below
 have kb:ar V5 w13.heap.size #[An da2 3 dc2,An db2 3 de2,An dg2 3 dh2] 29:=by rw[hV];exact ar.new _ _ _
 replace X:=AI (X.trans (hb.mono X.size));replace B1:=AI (B1.below hb B1.lt);replace D2:=AI (D2.below hb);have B2:=AI kb;clear hb kb hV;refine(CM V5 _ D2).mono ?_;rintro e w14 ⟨la,lc,lb,le,lg,lh,rfl,hd,hx⟩;clear D2;clear B2;replace X:=AI (X.trans (hx.mono X.size));replace B1:=AI (B1.below hx B1.lt);clear hd hx;obtain⟨⟨i0,i1,i2⟩,_⟩:=B1.three;clear B1;go_upto_region 5 with fail
 refine aA ?_;intro V5 hV;have hb:aa w14 V5:=by rw[hV];exact((Ext.refl w14).alloc _).below
 have kb:ar V5 w14.heap.size #[An la 1 lc,An lb 1 le,An lg l2 lh] 29:=by rw[hV];exact ar.new _ _ _
 replace i0:=(j6 hb i0);replace i1:=(j6 hb i1);replace X:=AI (X.trans (hb.mono X.size));obtain⟨⟨j0,j1,j2⟩,_⟩:=kb.three;clear hb kb hV i2 j2;go_wp2_with fail
 refine(FO V5).mono ?_;rintro e w15 ⟨⟨fa,fb,fc,rfl,hd⟩,hx⟩;replace X:=AI (X.trans (hx.mono X.size));have D3:=AI hd;clear hd;clear hx;clear i0 i1 j0 j1;go_wp2_with fail
 refine(BK w15 _ D3).mono ?_;rintro e w16 ⟨pa,pc,rfl,hp,hx⟩;clear D3;replace X:=AI (X.trans (hx.mono X.size));have PR:=AI hp;clear hp hx;go_wp2_with fail
 refine(CA w16).mono ?_;rintro e w17 ⟨rfl,hx⟩;replace X:=AI (X.trans (hx.mono X.size));replace PR:=AI (ak PR hx);clear hx;go_wp2_with fail
 refine(mA _ (vd [97]) _ w17 (fun _ h=>h) (LFA w17)).mono ?_;rintro e w18 ⟨bs,rfl,ht,hx⟩;replace X:=AI (X.trans (hx.mono X.size));replace PR:=AI (ak PR hx);have T6:=AI (ht.mono fun b (hb:b<w18.heap.size/\_)=>hb.1);clear ht hx;go_wp2_with fail
 refine(O3 w18 _ X T6).mono ?_;rintro e w19 ⟨da4,dc4,db4,de4,dg4,dh4,rfl,hd,hx⟩;clear T6;replace X:=AI (X.trans (hx.mono X.size));replace PR:=AI (ak PR hx);have D4:=AI hd.df;clear hd hx;go_wp2_with fail
 refine aI ?_;intro V6 hV;have hb:aa w19 V6:=by rw[hV];exact((Ext.refl w19).alloc _).below
 have kb:ar V6 w19.heap.size #[An da4 2 dc4,An db4 3 de4,An dg4 3 dh4] 29:=by rw[hV];exact ar.new _ _ _
 replace X:=AI (X.trans (hb.mono X.size));replace PR:=AI (ak PR hb);replace D4:=AI (D4.below hb);have B4:=AI kb;clear hb kb hV;refine(CA V6).mono ?_;rintro e w20 ⟨rfl,hx⟩;replace X:=AI (X.trans (hx.mono X.size));replace PR:=AI (ak PR hx);replace D4:=AI (D4.below hx);replace B4:=AI (B4.below hx B4.lt);clear hx;go_wp2_with fail
 refine(CA w20).mono ?_;rintro e w21 ⟨rfl,hx⟩;replace X:=AI (X.trans (hx.mono X.size));replace PR:=AI (ak PR hx);replace D4:=AI (D4.below hx);replace B4:=AI (B4.below hx B4.lt);clear hx;go_wp2_with fail
 refine aI ?_;intro V7 hV;have hb:aa w21 V7:=by rw[hV];exact((Ext.refl w21).alloc _).below
 have kb:ar V7 w21.heap.size #[As DH 2,As AT (wd sa 0).toNat,As AT (wd sa 1).toNat,As AT (wd sa 2).toNat,As AT (wd sa 3).toNat,As AN 0,As AN 0,An AF 0 0,As DH 2,As AT (wd sa 0).toNat,As AT (wd sa 1).toNat,As AT (wd sa 2).toNat,As AT (wd sa 3).toNat,As AN 0,As AN 0,An AF 0 0] 97:=by rw[hV];exact ar.new _ _ _
 replace X:=AI (X.trans (hb.mono X.size));replace PR:=AI (ak PR hb);replace D4:=AI (D4.below hb);replace B4:=AI (B4.below hb B4.lt);have KB:=AI kb;clear hb kb hV;have T7:Bs (aK (· <V7.heap.size) V7 (B_ #[As DH 3,As AT 0,As AT 0,As AT 0,As AT 0,As AN 0,As AN 0,An (AM ⟨w21.heap.size,0,AF⟩) 2 2]) (VZ [97,97])):=AI (by have h5:=aK.two (LFA V7) (LFA V7) KB rfl 3;rw[bT]at h5;exact h5);clear KB;refine(KT V7 _).mono ?_;rintro e w22 ⟨rfl,hx⟩;replace X:=AI (X.trans (hx.mono X.size));replace PR:=AI (ak PR hx);replace D4:=AI (D4.below hx);replace B4:=AI (B4.below hx B4.lt);replace T7:=AI (T7.grow hx);clear hx;go_wp2_with fail
 refine(mA _ (VZ [97,97]) _ w22 (fun _ h=>h) T7).mono ?_;rintro e w23 ⟨bs,rfl,ht,hx⟩;clear T7;replace X:=AI (X.trans (hx.mono X.size));replace PR:=AI (ak PR hx);replace D4:=AI (D4.below hx);replace B4:=AI (B4.below hx B4.lt);have T8:=AI (ht.mono fun b (hb:b<w23.heap.size/\_)=>hb.1);clear ht hx;go_wp2_with fail
 refine(O4 w23 _ X T8).mono ?_;rintro e w24 ⟨da5,dc5,db5,de5,dg5,dh5,rfl,hd,hx⟩;clear T8;replace X:=AI (X.trans (hx.mono X.size));replace PR:=AI (ak PR hx);replace D4:=AI (D4.below hx);replace B4:=AI (B4.below hx B4.lt);have D5:=AI hd.df;clear hd hx;obtain⟨⟨g0,g1,g2⟩,_⟩:=B4.three;go_upto_region 10 with fail
 refine aA ?_;intro V8 hV;have hb:aa w24 V8:=by rw[hV];exact((Ext.refl w24).alloc _).below
 have kb:ar V8 w24.heap.size #[An da5 2 dc5,An db5 4 de5,An dg5 4 dh5] 29:=by rw[hV];exact ar.new _ _ _
 replace g0:=j6 hb g0;replace g1:=j6 hb g1;replace g2:=j6 hb g2;replace X:=AI (X.trans (hb.mono X.size));replace PR:=AI (ak PR hb);replace D4:=AI (D4.below hb);replace D5:=AI (D5.below hb);obtain⟨⟨h0,h1,h2⟩,_⟩:=kb.three;clear hb kb hV B4;go_wp2_with fail
 refine(CE V8 _ _ D4 D5).mono ?_;rintro e w25 ⟨qa,qc,rfl,hp,hx⟩;clear D4;clear D5;replace X:=AI (X.trans (hx.mono X.size));replace PR:=AI (ak PR hx);have QR:=AI hp;clear hp hx g0 g1 g2 h0 h1 h2;have hst:=AQ QR;go_wp2_with fail
 refine aI ?_;intro V9 hV;have hb:aa w25 V9:=by rw[hV];exact((Ext.refl w25).alloc _).below
 have kb:ar V9 w25.heap.size #[As AN 0,As AN 1,As AN 0,As AN 1] 3:=by rw[hV];exact ar.new _ _ _
 replace X:=AI (X.trans (hb.mono X.size));replace PR:=AI (ak PR hb);replace QR:=AI (QR.below hb);have h01:=qO [0,1,0,1] kb rfl rfl;clear hb kb hV hst;refine(JU (l:=[0,1,0,1]) (by decide) V9 _ _ (cZ (l:=[0,1,0,1]) PR rfl) h01).mono ?_;rintro e w26 ⟨rfl,hx⟩;clear PR;replace X:=AI (X.trans (hx.mono X.size));replace QR:=AI (QR.below hx);clear hx h01;have hst:=AQ QR;have hs2:((⟨#[97]⟩:ByteArray)==⟨#[97]⟩)=true:=by kernel_rfl
 go_wp2;go_ret;exact⟨rfl,X⟩
end
end Go.Proofs.YtjgccapbphadjaaGreatDoor
