/- Automata that are written out: lists of lists in blocks of their own; a row of automata in one block. -/
import Derived.Test.YtjgccapbphadjaaGreatDoorOM23
set_option maxRecDepth 100000
set_option maxHeartbeats 16000000
open Go.Lib (hid)
open Go.Value renaming slice->An,int->At,pointer->AI,agg->By,bool->B',tuple->C_,oneCell'->C'
open Option renaming none->As,some->AF
open Go.IntKind renaming i64->AM,u64->Bm,u8->DH
open Go.Ending renaming returned->AN
open Go renaming World->AS,Value->AT,bodyPost_ret->A',TypeId->DE
open Go.RowKit renaming Hid->A_
open Go.Lib renaming bytesWorld->Bs
open Bool renaming true->B_,false->Cd
namespace Go.Proofs.YtjgccapbphadjaaGreatDoor
section
open Go Go.RowKit Go.Shelf Go.Maps
theorem Tryz.ZN:(Tryz.prog.info? 133).map (fun i=>(i.zero,i.size,i.bytes))=AF (AF (By #[At AM 0,At AM 0]),2,16):=by kernel_rfl
theorem cU.box {w:AS} {base b:Nat} {v:AT} {p:List BS} {cs:Array AT} (h:cU w base v p) (hb:ar w b cs 190) (x:AT):cU (w.setCell ⟨b,0,As⟩ x) base v p:=by
 have hk:ae (· ≠b) w (w.setCell ⟨b,0,As⟩ x):=(ae.refl _ _).setCell (p:=⟨b,0,As⟩) (fun h=>h rfl) _;rcases h with h | ⟨g,sl,h1,h2,h3,h4,h5⟩
 ·exact .inl h
 ·refine .inr ⟨g,sl,h1,h2,h3.keeps hk fun e=>?_,ai h4 hk fun k e=>cm hb h4 (by decide) k e,h5⟩
  subst e;unfold ar at h3 hb;rw[h3]at hb;injection hb with hb
  injection hb with _ hb
  exact absurd hb (by decide)
def PartsAt (a b:DF) (p:Nat×Nat) (W:AS) (e:Ending) (w':AS):Prop:=∃ v,e=AN (C_ #[v,B' (ee a b p).isSome])/\bZ et w' v ((ee a b p).getD [])/\aa W w'
theorem SR (w:AS) (x y:AT) (t:DE):∀ j v,[x,y][j]? =AF v->(w.alloc (.cells #[x,y] t)).cell? ((⟨w.heap.size,0,As⟩:Addr).add j)=AF v:=by
 intro j v hj;match j,hj with
 | 0,hj=>simp at hj;subst hj;simp[Addr.add]
 | 1,hj=>simp at hj;subst hj;simp[Addr.add]
theorem yq {a b:DF} (ra:Rt a) (rb:Rt b) (p:Nat×Nat) (hp:fU a b p) (hM:a.nx.length*b.nx.length<=900000) (w:AS) (v v':AT) (h:cS w v a) (h':cS w v' b): ah 68 #[v,v',By #[At AM p.1,At AM p.2]] w (PartsAt a b p w):=by
 obtain⟨iP,hiP,Vt,Vu,ZI⟩:=info_parts Tryz.ZN;obtain⟨iB,Ym,IJ,IK,IM⟩:=info_parts Tryz.Sd;obtain⟨F,hF⟩:=ag (rj a b);obtain⟨pj,NT⟩:=ag (partsOf (a.cl++b.cl));obtain⟨K,hK⟩:=ag pj.length;have WD:K<=256:=by rw[hK,NT,(fA _).length_eq];exact eu _
 have CA:A_ (∀ W v,cW W v a.cl->ah 110 #[v] W fun e w'=>∃ b,e=AN (AI (AF ⟨b,0,As⟩))/\cU w' W.heap.size (AI (AF ⟨b,0,As⟩)) a.cl/\aa W w'):=hid fun W v h=>by
  have:=lK a.cl v W h (by have:=ra.En;omega);rwa[ra.cl]at this
 have CB:A_ (∀ W v,cW W v b.cl->ah 110 #[v] W fun e w'=>∃ x,e=AN (AI (AF ⟨x,0,As⟩))/\cU w' W.heap.size (AI (AF ⟨x,0,As⟩)) b.cl/\aa W w'):=hid fun W v h=>by
  have:=lK b.cl v W h (by have:=rb.En;omega);rwa[rb.cl]at this
 have CJ:A_ (∀ W x y bx bY,cU W bx (AI (AF ⟨x,0,As⟩)) a.cl->cU W bY (AI (AF ⟨y,0,As⟩)) b.cl->ah 121 #[AI (AF ⟨x,0,As⟩),AI (AF ⟨y,0,As⟩)] W fun e w'=>∃ b,e=AN (AI (AF ⟨b,0,As⟩))/\cU w' W.heap.size (AI (AF ⟨b,0,As⟩)) pj/\aa W w'):=hid fun W x y bx bY hx hy=>by
  refine(Pt _ _ _ _ _ _ W hx hy).mono fun e w' hj=>?_
  unfold Bh at hj;have e1:a.cl.isEmpty=Cd:=by have:=ra.Pz;cases h:a.cl with | nil=>rw[h]at this;simp at this | cons _ _=>rfl
  have e2:b.cl.isEmpty=Cd:=by have:=rb.Pz;cases h:b.cl with | nil=>rw[h]at this;simp at this | cons _ _=>rfl
  rw[e1,e2,if_neg (by decide)]at hj;rw[NT];exact hj
 have CL:A_ (∀ W x bx,cU W bx (AI (AF ⟨x,0,As⟩)) pj->ah 111 #[AI (AF ⟨x,0,As⟩)] W fun e w'=>e=AN (At AM K)/\w'=W):=hid fun W x bx h=>by rw[hK];exact J3 _ _ _ _ h
 have CM:A_ (∀ W x bx (k:Nat),k<K->cU W bx (AI (AF ⟨x,0,As⟩)) pj->ah 113 #[AI (AF ⟨x,0,As⟩),At AM k] W fun e w'=>e=AN (C_ #[At DH (lb pj k),B' B_])/\Ext W w'):=hid fun W x bx k hk h=>by
  have:=zH _ bx pj k W h;rw[NT,vZ (by rw[<-NT, <-hK];exact hk), <-NT]at this;exact this
 have Zi:A_ (∀ k,k<K->lb pj k<256):=hid fun k hk=>by rw[NT];exact Kd (by rw[<-NT, <-hK];exact hk)
 have CN:A_ (∀ (q:Nat×Nat) (k ab xb bb yb xa ya base base':Nat) (va vb:AT) (W:AS),fU a b q->k<K->W.cell? ⟨ab,1,As⟩=AF va->gT W va a.nx->W.cell? ⟨bb,1,As⟩=AF vb->gT W vb b.nx->W.cell? ⟨xb,0,As⟩=AF (AI (AF ⟨xa,0,As⟩))->cU W base (AI (AF ⟨xa,0,As⟩)) a.cl->W.cell? ⟨yb,0,As⟩=AF (AI (AF ⟨ya,0,As⟩))->cU W base' (AI (AF ⟨ya,0,As⟩)) b.cl->
   ah 122 #[By #[At AM q.1,At AM q.2],At DH (lb pj k),AI (AF ⟨ab,0,As⟩),AI (AF ⟨xb,0,As⟩),AI (AF ⟨bb,0,As⟩),AI (AF ⟨yb,0,As⟩)] W fun e w'=>e=AN (By #[At AM (F q k).1,At AM (F q k).2])/\aa W w'):=hid fun q k ab xb bb yb xa ya base base' va vb W hq hk h1 h2 h3 h4 h5 h6 h7 h8=>by
  have:=JO ra rb q.1 q.2 (lb pj k) hq.1 hq.2 (Zi k hk) ab xb bb yb xa ya base base' va vb W h1 h2 h3 h4 h5 h6 h7 h8;rw[hF,NT]at*;exact this
 have PI:A_ (∀ n,((cd a b p n).map Prod.fst).Nodup/\∀ y∈cd a b p n,fU a b y.1):=hid fun n=>F8 ra rb hp n
 have PL:A_ (∀ n,(cd a b p n).length<=a.nx.length*b.nx.length):=hid fun n=>AB ra rb hp n
 have PS:A_ (∀ n x,(cd a b p n)[n]? =AF x->cd a b p (n+1)=ib F (lb pj) x (cd a b p n) K):=hid fun n x hx=>by
  have hx2:(cY (rj a b) (lb (partsOf (a.cl++b.cl))) (partsOf (a.cl++b.cl)).length p n)[n]? =AF x:=hx;show cY (rj a b) (lb (partsOf (a.cl++b.cl))) (partsOf (a.cl++b.cl)).length p (n+1)=_;rw[cY,hx2,hF,hK,NT];rfl
 have RI:A_ (∀ n x k,(cd a b p n)[n]? =AF x->k<=K->((ib F (lb pj) x (cd a b p n) k).map Prod.fst).Nodup/\∀ y∈ib F (lb pj) x (cd a b p n) k,fU a b y.1):=hid fun n x k hx hk=>by
  refine C7 (PI n).1 (PI n).2 k fun j hj=>?_
  rw[hF];exact vU ra rb x.1 j ((PI n).2 x (aw hx)) (by rw[<-NT, <-hK];omega)
 have WL:A_ (∀ n,∀ y∈cd a b p n,y.2.length<=n):=hid fun n y hy=>oO n y hy
 have FI:A_ (∀ q k,fU a b q->k<K->fU a b (F q k)):=hid fun q k hq hk=>by rw[hF];exact vU ra rb q k hq (by rw[<-NT, <-hK];exact hk)
 have L4:A_ (∀ q:Nat×Nat,fU a b q->q.1<=4000/\q.2<=4000):=hid fun q hq=>⟨Nat.le_of_lt (aA hq.1 ra.le),Nat.le_of_lt (aA hq.2 rb.le)⟩
 obtain⟨M,hMe⟩:=ag (a.nx.length*b.nx.length);have PD:A_ (ee a b p=ic a b p (M+1) 0):=hid (by rw[hMe];rfl);have PR:A_ (∀ f n,ic a b p (f+1) n=match(cd a b p n)[n]? with | none=>As | some x=>if uW a b x.1 then AF x.2 else ic a b p f (n+1)):=hid fun f n=>rfl
 rw[<-hMe]at PL hM;have CE:A_ (∀ (s t:Nat) (u u':AT) (W:AS),s<a.nx.length->t<b.nx.length->bZ aN W u (a.mr.getD s [])->bZ aN W u' (b.mr.getD t [])->ah 33 #[u,u'] W fun e w'=>e=AN (B' (!uW a b (s,t)))/\Ext W w'):=hid fun s t u u' W hs ht h1 h2=>by
  have h3:=AO u u' _ _ W (.inl h1) (.inl h2) (ra.UZ.mks _ (aw (aV [] (by rw[ra.mr];exact hs))));have e:(a.mr.getD s []==b.mr.getD t [])= !uW a b (s,t):=by unfold uW;show _= !decide (a.mr.getD s []≠b.mr.getD t []);rw[Bool.eq_iff_iff];simp
  rw[e]at h3;exact h3
 have HMA:A_ (∀ s W u,s<a.nx.length->gT W u a.mr->∀ ad n cp,u=An ad n cp->∃ g o a' l c',ad=AF ⟨g,o,As⟩/\g<W.heap.size/\W.cell? ⟨g,o+s,As⟩=AF (An a' l c')/\bZ aN W (An a' l c') (a.mr.getD s [])):=hid fun s W u hs hu ad n cp e=>by
  subst e;obtain⟨g,o,a',c',e1,e2,e3,e4⟩:=hu.elem (i:=s) (l:=a.mr.getD s []) (aV [] (by rw[ra.mr];exact hs));exact⟨g,o,a',_,c',e1,e2,e3,e4⟩
 have Tz:A_ (∀ s W u,s<b.nx.length->gT W u b.mr->∀ ad n cp,u=An ad n cp->∃ g o a' l c',ad=AF ⟨g,o,As⟩/\g<W.heap.size/\W.cell? ⟨g,o+s,As⟩=AF (An a' l c')/\bZ aN W (An a' l c') (b.mr.getD s [])):=hid fun s W u hs hu ad n cp e=>by
  subst e;obtain⟨g,o,a',c',e1,e2,e3,e4⟩:=hu.elem (i:=s) (l:=b.mr.getD s []) (aV [] (by rw[rb.mr];exact hs));exact⟨g,o,a',_,c',e1,e2,e3,e4⟩
 obtain⟨v0,v1,v2,rfl,h0,h1,h2⟩:=h;obtain⟨u0,u1,u2,rfl,g0,g1,g2⟩:=h';obtain⟨a0,c0,rfl⟩:=h0.1.form;obtain⟨a1,c1,rfl⟩:=h1.form;obtain⟨a2,c2,rfl⟩:=h2.form;obtain⟨b0,d0,rfl⟩:=g0.1.form;obtain⟨b1,d1,rfl⟩:=g1.form;obtain⟨b2,d2,rfl⟩:=g2.form;have ado:=ra.mr;have adp:=rb.mr;rw[ado]at h2 ⊢;rw[adp]at g2 ⊢;obtain⟨n0,dh⟩:=ag a.cl.length;obtain⟨n1,fE⟩:=ag a.nx.length;obtain⟨m0,ve⟩:=ag b.cl.length;obtain⟨m1,rK⟩:=ag b.nx.length;rw[<-fE]at HMA;rw[<-rK]at Tz;rw[<-fE, <-rK]at CE;rw[<-dh]at h0;rw[<-fE]at h1 h2;rw[<-ve]at g0;rw[<-rK]at g1 g2;rw[<-dh, <-fE, <-ve, <-rK];have PII:A_ (∀ q,fU a b q->q.1<n1/\q.2<m1):=hid fun q hq=>by rw[fE,rK];exact hq
 have H0:=hid h0.1;have H1:=hid h1;have H2:=hid h2;have G0:=hid g0.1;have G1:=hid g1;have G2:=hid g2;have HP:=hid hp;have HPJ:=hid NT;clear h0 h1 h2 g0 g1 g2 NT hK ra rb dh fE ve rK ado adp hF hMe hp;obtain⟨Ot,ZO⟩:=ag p.1;obtain⟨Ou,ZP⟩:=ag p.2;have Oq:p=(Ot,Ou):=Prod.ext ZO.symm ZP.symm;rw[<-ZO, <-ZP];have HPE:=hid Oq;clear ZO ZP Oq;have sw:= @run_makeMap Tryz.prog;go_enter Tryz.func68,Tryz.ntmps68;go_upto_region 1 with fail
 refine ax ?_;intro V hV;have B3:A_ (ar V w.heap.size #[An a0 n0 c0,An a1 n1 c1,An a2 n1 c2] 29):=hid (by rw[hV];exact((ar.new w _ _).alloc _).alloc _);have B4:A_ (ar V (w.heap.size+1) #[An b0 m0 d0,An b1 m1 d1,An b2 m1 d2] 29):=hid (by rw[hV];exact((ar.new (w.alloc _) _ _).at (by simp)).alloc _);have B5:A_ (ar V (w.heap.size+1+1) #[At AM Ot,At AM Ou] 133):=hid (by rw[hV];exact(ar.new ((w.alloc _).alloc _) _ _).at (by simp));have X1:A_ (aa w V):=hid (by rw[hV];exact((((Ext.refl w).alloc _).alloc _).alloc _).below);clear hV;refine RegF.uX (fun _=>False) (by kernel_rfl) 8 [0,1,3,0,8,31,0,0,255,511] (fun i=>i==2 || i==5 || i==6 || i==7 || i==8 || i==9) (by kernel_rfl) [6,7] (by kernel_rfl) (fun i=>if i=2 then aZ.Uk V.heap.size a.cl else if i=5 then aZ.Uk V.heap.size b.cl else if i=6 then aZ.uP V.heap.size #[AI As] 190 else if i=7 then aZ.uP V.heap.size #[AI As] 190 else aZ.any _) ?_;intro C hC hne;have HC:=hid hC;have f0:=aC hC (p:=⟨w.heap.size,0,As⟩) (by have:=B3.lt;exact this) (fun h=>h) (B3.cell 0);have f1:=aC hC (p:=⟨w.heap.size+1,0,As⟩) (by have:=B4.lt;exact this) (fun h=>h) (B4.cell 0);clear hC
 repeat (refine RegF.au (fun K hK=>?_);first | (refine RegF.bX rfl ?_;try go_simp;refine hK _ _ ?_;clear hK K) | (refine RegF.bR rfl rfl ?_;unfold aB;go_simp;refine hK _ _ ?_;clear hK K))
 refine RegF.au (fun K hK=>?_);refine RegF.ck rfl rfl rfl (aZ.Uk V.heap.size a.cl) rfl (fun W hW hN=>?_) (fun v hv=>?_)
 ·have hM:=(HC.out W).1 hW
  clear hW;go_simp;refine bM ((CA _ _ ((H0.below X1).below hM.below)).mono ?_);rintro e w2 ⟨b,rfl,ha,hx⟩;exact⟨_,rfl,Move.ak hx,⟨b,rfl⟩,ha.base hM.size⟩
 obtain⟨bx,rfl⟩:=hv;go_simp;refine hK _ _ ?_;clear hK K
 repeat (refine RegF.au (fun K hK=>?_);first | (refine RegF.bX rfl ?_;try go_simp;refine hK _ _ ?_;clear hK K) | (refine RegF.bR rfl rfl ?_;unfold aB;go_simp;refine hK _ _ ?_;clear hK K))
 refine RegF.au (fun K hK=>?_);refine RegF.ck rfl rfl rfl (aZ.Uk V.heap.size b.cl) rfl (fun W hW hN=>?_) (fun v hv=>?_)
 ·have hM:=(HC.out W).1 hW
  clear hW;go_simp;refine bM ((CB _ _ ((G0.below X1).below hM.below)).mono ?_);rintro e w2 ⟨b,rfl,ha,hx⟩;exact⟨_,rfl,Move.ak hx,⟨b,rfl⟩,ha.base hM.size⟩
 obtain⟨bY,rfl⟩:=hv;go_simp;refine hK _ _ ?_;clear hK K;refine RegF.au (fun K hK=>?_);refine RegF.adb rfl rfl rfl (aZ.uP V.heap.size #[AI As] 190) rfl (fun W hW hN=>?_) (fun v hv=>?_)
 ·have hM:=(HC.out W).1 hW
  clear hW hK K
  (have sX:=hM.size;go_simp;exact⟨⟨_,rfl,aD _,by simp⟩,Move.ak ((Ext.refl _).alloc _).below,⟨_,rfl⟩,fun b hb=>by cases hb;exact⟨ar.new _ _ _,sX⟩⟩)
 obtain⟨xb,rfl⟩:=hv;go_simp;refine hK _ _ ?_;clear hK K;refine RegF.au (fun K hK=>?_);refine RegF.adb rfl rfl rfl (aZ.uP V.heap.size #[AI As] 190) rfl (fun W hW hN=>?_) (fun v hv=>?_)
 ·have hM:=(HC.out W).1 hW
  clear hW hK K
  (have sX:=hM.size;go_simp;exact⟨⟨_,rfl,aD _,by simp⟩,Move.ak ((Ext.refl _).alloc _).below,⟨_,rfl⟩,fun b hb=>by cases hb;exact⟨ar.new _ _ _,sX⟩⟩)
 obtain⟨yb,rfl⟩:=hv;go_simp;refine hK _ _ ?_;clear hK K;refine RegF.bG (fun W hW hH hap=>?_);have Tv:=(HC.out W).1 hW;have hne:fS.Lx (AI (AF ⟨xb,0,As⟩))≠fS.Lx (AI (AF ⟨yb,0,As⟩)):=hap.ne 6 7 8 9 rfl rfl (by decide) rfl rfl rfl rfl;have Og:xb≠yb:=fun e=>hne (by rw[e])
 have A1:A_ (cU W V.heap.size (AI (AF ⟨bx,0,As⟩)) a.cl):=hid (hH _ (aw (show _=AF _ from rfl:_[3]? =AF _)));have A2:A_ (cU W V.heap.size (AI (AF ⟨bY,0,As⟩)) b.cl):=hid (hH _ (aw (show _=AF _ from rfl:_[2]? =AF _)));have hzx:(aZ.uP V.heap.size #[AI As] 190).H (AI (AF ⟨xb,0,As⟩)) W:=hH _ (aw (show _=AF _ from rfl:_[1]? =AF _));have hzy:(aZ.uP V.heap.size #[AI As] 190).H (AI (AF ⟨yb,0,As⟩)) W:=hH _ (aw (show _=AF _ from rfl:_[0]? =AF _));have BX:=hid (hzx xb rfl);have BY:=hid (hzy yb rfl);have C3:=hid (B3.below Tv.below B3.lt);have C4:=hid (B4.below Tv.below B4.lt);have C5:=hid (B5.below Tv.below B5.lt);have X2:=hid (X1.trans (Tv.below.mono X1.size));have yX:w.heap.size+2<V.heap.size:=B5.lt;have hVW:V.heap.size<=W.heap.size:=Tv.size;clear Tv hW hH HC f0 f1 B3 B4 B5 X1 hap hne hzx hzy CA CB H0 G0;have x0:=BX.1.cell 0;have y0:=BY.1.cell 0;have zx:=BX.1.frozen 0;have zy:=BY.1.frozen 0;simp only[List.getElem?_toArray,List.getElem?_cons_zero]at x0 y0;have hyx:¬ (yb=xb):=fun e=>Og e.symm
 go_upto_region 2 with fail
 refine ax ?_;intro V2 hV;have KV:A_ (ae (fun x=>x≠xb/\x≠yb) W V2):=hid (by rw[hV];exact((ae.refl _ _).setCell (p:=⟨xb,0,As⟩) (fun h=>h.1 rfl) _).setCell (p:=⟨yb,0,As⟩) (fun h=>h.2 rfl) _);have BX2:A_ (ar V2 xb #[AI (AF ⟨bx,0,As⟩)] 190):=hid (by rw[hV];exact(BX.1.set 0 _).other (p:=⟨yb,0,As⟩) hyx _);have BY2:A_ (ar V2 yb #[AI (AF ⟨bY,0,As⟩)] 190):=hid (by rw[hV];exact(BY.1.other (p:=⟨xb,0,As⟩) Og _).set 0 _);have A1b:A_ (cU V2 V.heap.size (AI (AF ⟨bx,0,As⟩)) a.cl):=hid (by rw[hV];exact(A1.box BX.1 _).box (BY.1.other (p:=⟨xb,0,As⟩) Og _) _);have A2b:A_ (cU V2 V.heap.size (AI (AF ⟨bY,0,As⟩)) b.cl):=hid (by rw[hV];exact(A2.box BX.1 _).box (BY.1.other (p:=⟨xb,0,As⟩) Og _) _);have zD:=BX.2;have hby:=BY.2;have D3:=hid (C3.keeps KV ⟨by omega,by omega⟩);have D4:=hid (C4.keeps KV ⟨by omega,by omega⟩);have D5:=hid (C5.keeps KV ⟨by omega,by omega⟩);have X3:A_ (aa w V2):=hid (X2.trans (KV.mono fun x (hx:x<w.heap.size)=>⟨by omega,by omega⟩:ae (· <w.heap.size) W V2).below);clear hV x0 y0 zx zy KV BX BY A1 A2 C3 C4 C5 X2;have x0:=BX2.cell 0;have y0:=BY2.cell 0;simp only[List.getElem?_toArray,List.getElem?_cons_zero]at x0 y0;go_wp2_with fail
 refine(CJ V2 bx bY _ _ A1b A2b).mono ?_;rintro e w3 ⟨bj,rfl,hj,hx⟩;have AJ:=hid hj;have A1c:=hid (A1b.below hx);have A2c:=hid (A2b.below hx);have BX3:=hid (BX2.below hx BX2.lt);have BY3:=hid (BY2.below hx BY2.lt);have E3:=hid (D3.below hx D3.lt);have E4:=hid (D4.below hx D4.lt);have E5:=hid (D5.below hx D5.lt);have X4:=hid (X3.trans (hx.mono X3.size));clear hj hx x0 y0 A1b A2b BX2 BY2 D3 D4 D5 X3 CJ Og hyx;obtain⟨e0,e1⟩:w3.cell? ⟨w.heap.size+1+1,0,As⟩=AF (At AM Ot)/\w3.cell? ⟨w.heap.size+1+1,1,As⟩=AF (At AM Ou):=⟨E5.cell 0,E5.cell 1⟩;obtain⟨w4,hp4,ui,hk4,ID⟩:=SQ Tryz.vr Tryz.underlying206 (w:=w3.alloc (.map #[] 0)) (b:=w3.heap.size) (l:=[]) (AS.alloc_heap_new w3 _) (fun p hp=>by cases hp) (er (Ot,Ou)) (Gw (Ot,Ou) (by rw[<-HPE.out];exact(L4 p HP).1) (by rw[<-HPE.out];exact(L4 p HP).2)) (fun p hp=>by cases hp) (An As 0 0);replace hp4:(Instr.mapUpdate 206 (.map (AF w3.heap.size)) (By #[At AM Ot,At AM Ou]) (An As 0 0)).run Tryz.prog (w3.alloc (.map #[] 0))=.ok () w4:=hp4;have PE4:A_ (zk w4 w3.heap.size w3.heap.size [((Ot,Ou),[])] [(er (Ot,Ou),An As 0 0)]):=hid (zk.one ui);have K4:A_ (ae (· <w3.heap.size) w3 w4):=hid ((ae.ak ((Ext.refl w3).alloc _).below fun _ h=>h:ae (· <w3.heap.size) w3 (w3.alloc (.map #[] 0))).tr (hk4.mono fun x (hx:x<w3.heap.size)=>by show x≠w3.heap.size;omega));have hs5:w4.heap.size=w3.heap.size+1:=by rw[ID,World.size_alloc]
 have HS5:=hid hs5;clear ui hk4 ID hs5;have e0':w4.cell? ⟨w.heap.size+1+1,0,As⟩=AF (At AM Ot):=(K4.cell (p:=⟨w.heap.size+1+1,0,As⟩) E5.lt).trans e0;have e1':w4.cell? ⟨w.heap.size+1+1,1,As⟩=AF (At AM Ou):=(K4.cell (p:=⟨w.heap.size+1+1,1,As⟩) E5.lt).trans e1;go_upto_region 3 with fail
 have e0a:(w3.alloc (.map #[] 0)).cell? ⟨w.heap.size+1+1,0,As⟩=AF (At AM Ot):=((ae.ak ((Ext.refl w3).alloc _).below fun _ h=>h:ae (· <w3.heap.size) w3 (w3.alloc (.map #[] 0))).cell (p:=⟨w.heap.size+1+1,0,As⟩) E5.lt).trans e0;have e1a:(w3.alloc (.map #[] 0)).cell? ⟨w.heap.size+1+1,1,As⟩=AF (At AM Ou):=((ae.ak ((Ext.refl w3).alloc _).below fun _ h=>h:ae (· <w3.heap.size) w3 (w3.alloc (.map #[] 0))).cell (p:=⟨w.heap.size+1+1,1,As⟩) E5.lt).trans e1;go_upto_region 5 with fail
 refine ax ?_;intro V5 hV
 have FV:A_ (V5.ownsRow w3.heap.size 133 2 (An (AF ⟨w4.heap.size,0,As⟩) 1 1) 1 (nA [(Ot,Ou)])):=hid (by
  rw[hV]
  exact⟨rfl,.inr ⟨_,1, #[At AM Ot,At AM Ou],rfl,by rw[HS5.out];omega,AS.alloc_heap_new w4 _,aD _,by unfold maxLen;omega,rfl,rfl⟩⟩)
 have YI:aa w4 V5:=by rw[hV];exact((Ext.refl _).alloc _).below
 have PE5:=hid (PE4.below YI);have K5:A_ (ae (· <w3.heap.size) w3 V5):=hid (K4.tr (ae.ak YI fun x (hx:x<w3.heap.size)=>by have:=HS5.out;omega:ae (· <w3.heap.size) w4 V5));obtain⟨fg,hfg⟩:=ag w4.heap.size;obtain⟨g0,hg0⟩:=ag w3.heap.size;rw[<-hfg]at FV ⊢;rw[<-hg0]at FV PE5 ⊢;have hwg:w.heap.size+2<g0:=by rw[hg0];exact E5.lt
 have Lj:=hid hg0;clear hV YI PE4 K4 HS5 e0 e1 e0' e1' e0a e1a hp4 hfg hg0;go_wp2_with fail
 go_loopw [12,14] (fun fv iv wr=>∃ (n L:Nat) (es:List (AT×AT)),L=(cd a b p n).length/\n<=L/\iv=At AM n/\wr.ownsRow g0 133 2 fv L (nA ((cd a b p n).map Prod.fst))/\zk wr g0 g0 (cd a b p n) es/\ee a b p=ic a b p (M+1-n) n/\ae (· <w3.heap.size) w3 wr) (fun _ iv _=>M+1-(intOf iv).toNat)
 case atStart=>exact⟨0,1,_,rfl,by omega,rfl,by rw[HPE.out];exact FV,by rw[HPE.out];exact PE5,PD,K5⟩
 case round=>
  obtain⟨n,L,es,hL,hn,rfl,hfv,Oq,hpd,hx⟩:=hrel;obtain⟨wo,rfl⟩:=ag (wr:AS);have hLM:L<=M:=by rw[hL];exact PL n
  obtain⟨fa,fc,rfl⟩:=ownsRow_form hfv;have HL:=hid hL;have HFV:=hid hfv;have Vx:=hid Oq;have HPD:=hid hpd;have HX:=hid hx;clear hL hfv Oq hpd hx FV PE5 K5;by_cases hlt:n<L
  ·have hni:(n:Int)<L:=by omega
   obtain⟨x,hxn⟩:∃ x,(cd a b p n)[n]? =AF x:=⟨_,az (by rw[<-HL.out];exact hlt)⟩;have ZQ:=(PI.out n).2 x (aw hxn);obtain⟨hx1,hx2⟩:=PII.out x.1 ZQ;have hxm:((cd a b p n).map Prod.fst)[n]? =AF x.1:=by rw[aO,hxn];rfl
   obtain⟨q0,q1⟩:=zO _ _ _ hxm;obtain⟨fgg,rfl,hfgg⟩:∃ g,fa=AF ⟨g,0,As⟩/\g<wo.heap.size:=by
    rcases HFV.2 with⟨h5,_⟩ | ⟨g,c,cur,h5,_,h6,_⟩
    ·cases h5;omega
    ·cases h5;exact⟨g,rfl,(Array.getElem?_eq_some_iff.1 h6).1⟩
   have c0':=HFV.cells (g:=fgg) rfl _ _ q0;have c1':=HFV.cells (g:=fgg) rfl _ _ q1;rw[Addr.add_mid]at c0' c1';simp only[Nat.zero_add]at c0' c1';have wl:=WL.out n x (aw hxn);obtain⟨xa,xc,adr,SS⟩:=Vx.val (fun y hy=>L4 _ ((PI n).2 y hy)) (PI n).1 hxn;have ads:=hid ZQ;have HXN:=hid hxn;have SU:=hid SS;have XWO:A_ (aa w wo):=hid (X4.trans (HX.mono fun z (hz:z<w.heap.size)=>by show z<w3.heap.size;have:=Lj.out;omega:ae (· <w.heap.size) w3 wo).below);obtain⟨s1,hs1⟩:=ag x.1.1;obtain⟨s2,hs2⟩:=ag x.1.2;have hxe:x.1=(s1,s2):=Prod.ext hs1.symm hs2.symm;rw[<-hs1]at c0' hx1;rw[<-hs2]at c1' hx2;have HXE:=hid hxe;clear hxn ZQ hxm q0 q1 SS hs1 hs2 hxe adr;go_upto_region 10 with fail
   refine ax ?_;intro V6 hV;obtain⟨pb,om⟩:=ag wo.heap.size;have P6:A_ (ar V6 pb #[At AM s1,At AM s2] 133):=hid (by rw[hV,om];exact ar.new wo _ _);have qK:aa wo V6:=by rw[hV];exact((Ext.refl _).alloc _).below
   have X6:=hid qK;have hgo:g0<=wo.heap.size:=by rw[Lj.out];exact HX.size
   have Tk:g0<pb:=by rw[om];exact Vx.map.lt
   have hfp:(An (AF ⟨fgg,0,As⟩) L fc).ownBlock≠AF pb:=fun e=>by
    have e2:fgg=pb:=by simpa[Value.ownBlock]using e
    omega
   rw[<-om];clear hV qK c0' c1' om;have KV6:A_ (ae (· <w3.heap.size) w3 V6):=hid (HX.tr (ae.ak X6 fun z (hz:z<w3.heap.size)=>by have:=Lj.out;omega:ae (· <w3.heap.size) wo V6));have B3:=hid (E3.keeps KV6 E3.lt);have B4:=hid (E4.keeps KV6 E4.lt);have FV6:=hid (aj HFV X6);have PE6:=hid (Vx.below X6);have XV6:=hid (XWO.trans (X6.mono XWO.size));obtain⟨mg,mo,ma,ml,mc,e5,hmg,Tx,Jc⟩:=HMA.out s1 V6 _ hx1 (H2.below XV6) a2 n1 c2 rfl;obtain⟨kg,ko,ka,kl,kc,e6,VT,yE,Tf⟩:=Tz.out s2 V6 _ hx2 (G2.below XV6) b2 m1 d2 rfl;have WN:=hid Jc;have HKS:=hid Tf;have b32:V6.cell? ⟨w.heap.size,2,As⟩=AF (An (AF ⟨mg,mo,As⟩) n1 c2):=by rw[<-e5];exact B3.cell 2
   have b42:V6.cell? ⟨w.heap.size+1,2,As⟩=AF (An (AF ⟨kg,ko,As⟩) m1 d2):=by rw[<-e6];exact B4.cell 2
   have p0:V6.cell? ⟨pb,0,As⟩=AF (At AM s1):=P6.cell 0;have p1:V6.cell? ⟨pb,1,As⟩=AF (At AM s2):=P6.cell 1;have ao1:(s1:Int)<n1:=by omega
   have ao2:(s2:Int)<m1:=by omega
   have l1:=B3.lt;have l2:=B4.lt;clear e5 e6 Jc Tf;refine aK Cd (fun _=>False) (by kernel_rfl) 12 [0,1,0,4,15,31,0,64,0,256,960,1984,4095,8191] (fun i=>i==12) (by kernel_rfl) (fun _=>aZ.any _) ?_;intro C hC hne;have HC:=hid hC;have f0:=aC hC (p:=⟨w.heap.size,2,As⟩) l1 (fun h=>h) b32;have f1:=aC hC (p:=⟨mg,mo+s1,As⟩) hmg (fun h=>h) Tx;have f2:=aC hC (p:=⟨w.heap.size+1,2,As⟩) l2 (fun h=>h) b42;have f3:=aC hC (p:=⟨kg,ko+s2,As⟩) VT (fun h=>h) yE;have f4:=aC hC (p:=⟨pb,0,As⟩) P6.lt (fun h=>h) p0;have f5:=aC hC (p:=⟨pb,1,As⟩) P6.lt (fun h=>h) p1;clear hC b32 b42 p0 p1 Tx yE
   repeat (refine au (fun K hK=>?_);first | (refine bX rfl ?_;try go_simp;refine hK _ _ ?_;clear hK K) | (refine bR rfl rfl ?_;unfold aB;go_simp;refine hK _ _ ?_;clear hK K))
   refine bG (fun W6 hW hH=>?_);have hM6:=(HC.out W6).1 hW;have Y6:=hid hM6.below;clear hM6 hW hH HC hne f0 f1 f2 f3 f4 f5;go_wp2_with fail
   refine(CE s1 s2 _ _ W6 hx1 hx2 (WN.below Y6) (HKS.below Y6)).mono ?_;rintro e w7 ⟨rfl,hx⟩;have Z7:A_ (aa V6 w7):=hid (Y6.trans (hx.below.mono Y6.size));have FV7:=hid (aj FV6 Z7);have PE7:=hid (PE6.below Z7);have P7:=hid (P6.below Z7 P6.lt);have KV7:A_ (ae (· <w3.heap.size) w3 w7):=hid (KV6.tr (ae.ak Z7 fun z (hz:z<w3.heap.size)=>by have:=Lj.out;have:=X6.size;omega:ae (· <w3.heap.size) V6 w7));clear hx WN HKS B3 B4 FV6 PE6 P6 KV6 X6 XV6 Z7 Y6 HFV Vx XWO;have hlk:=SU.out w7 PE7.map;rw[HXE.out]at hlk;replace hlk:(Instr.lookup 206 (.map (AF g0)) (By #[At AM s1,At AM s2]) Cd).run Tryz.prog w7=.ok (An xa x.2.length xc) w7:=hlk;have XW7:A_ (aa w w7):=hid (X4.trans (KV7.mono fun z (hz:z<w.heap.size)=>by show z<w3.heap.size;have:=Lj.out;omega:ae (· <w.heap.size) w3 w7).below);have p0:w7.cell? ⟨pb,0,As⟩=AF (At AM s1):=P7.cell 0;have p1:w7.cell? ⟨pb,1,As⟩=AF (At AM s2):=P7.cell 1;obtain⟨bd,YZ⟩:=ag (uW a b (s1,s2));rw[<-YZ];have HBD:=hid YZ
   have Lk:A_ (ee a b p=if bd=B_ then AF x.2 else ic a b p (M+1-(n+1)) (n+1)):=hid (by
    rw[HPD.out,show M+1-n=(M-n)+1 by omega,PR.out,HXN.out,show M+1-(n+1)=M-n by omega];show(if uW a b x.1=B_ then _ else _)=_
    rw[HXE.out, <-HBD.out])
   obtain⟨xl,zI⟩:=ag x.2.length;rw[<-zI]at hlk;have Hu:=hid zI;clear YZ zI;cases bd with
   | true=>
    have ah5:A_ (bZ et w7 (An xa xl xc) x.2):=hid (by
     obtain⟨xa',xc',h5,h6⟩:=PE7.val (fun y hy=>L4 _ ((PI n).2 y hy)) (PI n).1 HXN;have h7:=h6 w7 PE7.map;have h8:=SU.out w7 PE7.map;rw[h7]at h8;injection h8 with h8
     rw[Hu.out, <-h8]
     exact dc h5 rfl)
    go_wp2;refine A' (v:=C_ #[An xa xl xc,B' B_]) (by simp[results,Tryz.results68,go_sem]) rfl ⟨An xa xl xc,?_,?_,XW7⟩
    ·rw[Lk.out];rfl
    ·rw[Lk.out];exact ah5
   | false=>
    have ah6:A_ (ee a b p=ic a b p (M+1-(n+1)) (n+1)):=hid (by rw[Lk.out];rfl);clear hlk Lk;have AJ7:=hid (AJ.keeps KV7 fun _ _ h=>h);go_wp2_with fail
    refine(CL w7 bj _ AJ7).mono ?_;rintro e w8 ⟨rfl,hw⟩;replace hw:=hw.symm;subst hw;clear p0 p1;go_wp2_with fail
    go_loopw [12,66] (fun fv kv wr=>∃ (k L:Nat) (es:List (AT×AT)),k<=K/\kv=At AM k/\L=(ib F (lb pj) x (cd a b p n) k).length/\wr.ownsRow g0 133 2 fv L (nA ((ib F (lb pj) x (cd a b p n) k).map Prod.fst))/\zk wr g0 g0 (ib F (lb pj) x (cd a b p n) k) es/\ar wr pb #[At AM s1,At AM s2] 133/\fv.ownBlock≠AF pb/\ae (· <w3.heap.size) w3 wr) (fun _ kv _=>K-(intOf kv).toNat)
    case atStart=>exact⟨0,L,es,Nat.zero_le _,rfl,HL,FV7,PE7,P7,hfp,KV7⟩
    case round=>
     obtain⟨k,L2,es2,hk,rfl,hL2,hfv,Oq,om,Jh,hx⟩:=hrel;obtain⟨wi,rfl⟩:=ag (wr:AS);obtain⟨fa2,fc2,rfl⟩:=ownsRow_form hfv;have ao8:L2<=M:=by rw[hL2];have h5:=PL.out (n+1);rw[PS.out n x HXN.out]at h5;exact Nat.le_trans (Gy hk) h5
     have VN:=hid hL2;have IFV:=hid hfv;have IPE:=hid Oq;have IPB:=hid om;have IX:=hid hx;clear hL2 hfv Oq om hx FV7 PE7 P7 KV7;by_cases WQ:k<K
     ·have eG:(k:Int)<K:=by omega
      have RK:=hid (RI.out n x k HXN (by omega));have AJI:=hid (AJ.keeps IX fun _ _ h=>h);go_wp2_with fail
      refine(CM wi bj _ k WQ AJI).mono ?_;rintro e w9 ⟨rfl,hx⟩;have Y9:=hid hx.below;have hgi:g0<wi.heap.size:=IPE.map.lt;have hi9:wi.heap.size<=w9.heap.size:=Y9.size;have TC:A_ (ae (· <w3.heap.size) w3 w9):=hid (IX.tr (ae.ak Y9 fun z (hz:z<w3.heap.size)=>by have:=IX.size;omega:ae (· <w3.heap.size) wi w9));have FV9:=hid (aj IFV Y9);have PE9:=hid (IPE.below Y9);have P9:=hid (IPB.below Y9 IPB.lt);clear hx Y9 IFV IPE IPB IX AJI;obtain⟨c,hc⟩:=ag (lb pj k);have kT:c<256:=by rw[hc];exact Zi k WQ
      obtain⟨q,hq⟩:=ag (F x.1 k);have adu:fU a b q:=by rw[hq];exact FI _ _ ads WQ
      have XW9:A_ (aa w w9):=hid (X4.trans (TC.mono fun z (hz:z<w.heap.size)=>by show z<w3.heap.size;have:=Lj.out;omega:ae (· <w.heap.size) w3 w9).below);have B3:=hid (E3.keeps TC E3.lt);have B4:=hid (E4.keeps TC E4.lt);have CN9:=hid (CN.out x.1 k w.heap.size xb (w.heap.size+1) yb bx bY V.heap.size V.heap.size _ _ w9 ads WQ (B3.cell 1) (H1.below XW9) (B4.cell 1) (G1.below XW9) ((BX3.keeps TC BX3.lt).cell 0) (A1c.keeps TC fun _ _ h=>h) ((BY3.keeps TC BY3.lt).cell 0) (A2c.keeps TC fun _ _ h=>h));rw[<-hc, <-hq]at CN9;rw[show(By #[At AM x.1.1,At AM x.1.2]:AT)=By #[At AM s1,At AM s2] by rw[HXE.out]]at CN9;rw[<-hc];obtain⟨t1,ht1⟩:=ag q.1;obtain⟨t2,ht2⟩:=ag q.2;have hqe:q=(t1,t2):=Prod.ext ht1.symm ht2.symm;rw[<-ht1, <-ht2]at CN9;have HC9:=hid hc;have HQ:=hid hq;have HQE:=hid hqe;have Vy:=hid adu;obtain⟨p0,p1⟩:w9.cell? ⟨pb,0,As⟩=AF (At AM s1)/\w9.cell? ⟨pb,1,As⟩=AF (At AM s2):=⟨P9.cell 0,P9.cell 1⟩;clear hc hq hqe ht1 ht2 adu B3 B4 XW9;go_wp2_with fail
      refine CN9.mono ?_;rintro e Vz ⟨rfl,hx⟩;have Y10:=hid hx;have apa:w9.heap.size<=Vz.heap.size:=Y10.size;clear hx p0 p1 CN9;go_upto_region 17 with fail
      refine ax ?_;intro VA hV;obtain⟨qb,Ma⟩:=ag Vz.heap.size;have QA:A_ (ar VA qb #[At AM t1,At AM t2] 133):=hid (by rw[hV,Ma];exact ar.new Vz _ _);have hbA:aa w9 VA:=by rw[hV];exact Y10.trans (((Ext.refl Vz).alloc _).below.mono Y10.size)
      have FVA:=hid (aj FV9 hbA);have ZT:=hid (PE9.below hbA);have PA:=hid (P9.below hbA P9.lt);have KVA:A_ (ae (· <w3.heap.size) w3 VA):=hid (TC.tr (ae.ak hbA fun z (hz:z<w3.heap.size)=>by have:=TC.size;omega:ae (· <w3.heap.size) w9 VA));have hgA:g0<=VA.heap.size:=by rw[Lj.out];exact KVA.size
      have hqg:g0<qb:=by omega
      rw[<-Ma];clear hV hbA Ma Y10 FV9 PE9 P9 TC;obtain⟨t0,t1'⟩:VA.cell? ⟨qb,0,As⟩=AF (At AM t1)/\VA.cell? ⟨qb,1,As⟩=AF (At AM t2):=⟨QA.cell 0,QA.cell 1⟩;have oX:=ZT.look (fun y hy=>L4 _ (RK.2 y hy)) q (L4 q Vy).1 (L4 q Vy).2;have Vl:er q=By #[At AM t1,At AM t2]:=by rw[HQE.out];rfl
      rw[Vl]at oX;have HPV:=hid Vl;clear Vl;rcases oX with⟨Kv,Th,hlk⟩ | ⟨i,wd,v,hi,_,hlk,_⟩
      ·have ZU:A_ (ib F (lb pj) x (cd a b p n) (k+1)=ib F (lb pj) x (cd a b p n) k++ [(q,x.2++ [c])]):=hid (by rw[ib,nR,if_neg (by rw[<-HQ.out];exact Kv), <-HQ.out, <-HC9.out])
       have HQ2:=hid Th;clear Kv Th;go_upto_region 19 with fail
       have aie:A_ ((ib F (lb pj) x (cd a b p n) k)[n]? =AF x):=hid (xM _ _ _ _ HXN k);obtain⟨ya,yc,SV,Dl⟩:=ZT.val (fun y hy=>L4 _ (RK.2 y hy)) RK.1 aie;rw[<-Hu.out]at SV Dl;have SY:=hid SV;have adx:er x.1=By #[At AM s1,At AM s2]:=by rw[HXE.out];rfl
       rw[adx]at Dl;have Xz:=hid Dl;obtain⟨p0,p1⟩:VA.cell? ⟨pb,0,As⟩=AF (At AM s1)/\VA.cell? ⟨pb,1,As⟩=AF (At AM s2):=⟨PA.cell 0,PA.cell 1⟩;have apd:xl<=900000:=by rw[Hu.out];omega
       have ady:=QA.lt;have adz:=PA.lt;have adA:=ZT.map.lt;clear SV Dl adx hlk;refine bB (mC VA.heap.size (yn VA.heap.size xl (x.2.map et) (At DH c))) (mC.below (oN _ _ _ _) (Ext.refl VA).drew.below) (fun _ _ _ h k=>h.trans k) (by kernel_rfl) 9 [0,0,0,0,12,28,0,64,252,511] (fun i=>i==5 || i==7 || i==8) (by kernel_rfl) (fun i=>if i=5 then aZ.fact _ _ 0 (fun v=>∃ a c,v=An a xl c) (An As xl 0) ⟨As,0,rfl⟩else if i=7 then aZ.fact _ _ 2 (fun v=>∃ b,v=An (AF ⟨b,0,As⟩) 1 1) (An (AF ⟨0,0,As⟩) 1 1) ⟨0,rfl⟩else if i=8 then aZ.fact _ _ 1 (fun v=>∃ a c,v=An a (xl+1) c) (An As (xl+1) 0) ⟨As,0,rfl⟩else aZ.any _) ?_;intro C hC hne;have HC:=hid hC;have mA:∀ (b o:Nat) (u:AT),b<VA.heap.size->VA.cell? ⟨b,o,As⟩=AF u->∀ W: {W//C W},W.1.cell? ⟨b,o,As⟩=AF u:=fun b o u hb hu W=>(((hC W.1).1 W.2).1.cell (p:=⟨b,o,As⟩) ⟨hb,hb⟩).trans hu
       have f0:=mA _ _ _ ady t0;have f1:=mA _ _ _ ady t1';have f2:=mA _ _ _ adz p0;have f3:=mA _ _ _ adz p1;have f4:∀ W: {W//C W},(Instr.lookup 206 (.map (AF g0)) (By #[At AM s1,At AM s2]) Cd).run Tryz.prog W.1=.ok (An ya xl yc) W.1:=fun W=>Xz W.1 (ZT.map.keeps ((hC W.1).1 W.2).1 ⟨adA,adA⟩)
       clear hC mA t0 t1' p0 p1
       repeat (refine au (fun K hK=>?_);first | (refine bX rfl ?_;try go_simp;refine hK _ _ ?_;clear hK K) | (refine bR rfl rfl ?_;unfold aB;go_simp;refine hK _ _ ?_;clear hK K))
       refine au (fun K0 hK=>?_);refine ck rfl rfl (aZ.fact _ _ 0 (fun v=>∃ a c,v=An a xl c) (An As xl 0) ⟨As,0,rfl⟩) rfl (fun W hW hN=>?_) (fun v hv=>?_)
       ·have VB:=(HC.out W).1 hW
        have sX:=VB.1.size;have hr9:=ai SY VB.1 fun z e=>⟨(SY.lt z e).2,(SY.lt z e).2⟩
        clear hW hK K0 hN VB;go_simp;refine bM ((vW _ x.2 W (dc hr9 Hu) (by rw[<-Hu.out];omega)).mono ?_);rintro e w2 ⟨u,rfl,ho,hx⟩;rw[<-Hu.out]at ho;have Oe:w2.ownsRow VA.heap.size 5 1 u xl (x.2.map et):=aF ho sX;exact⟨_,rfl,mC.below (oN _ _ _ _) hx,ownsRow_form Oe,Oe⟩
       obtain⟨a5,c5,rfl⟩:=hv;go_simp;refine hK _ _ ?_;clear hK K0
       repeat (refine au (fun K hK=>?_);first | (refine bX rfl ?_;try go_simp;refine hK _ _ ?_;clear hK K) | (refine bR rfl rfl ?_;unfold aB;go_simp;refine hK _ _ ?_;clear hK K))
       refine au (fun K0 hK=>?_);refine ck rfl rfl (aZ.fact _ _ 2 (fun v=>∃ b,v=An (AF ⟨b,0,As⟩) 1 1) (An (AF ⟨0,0,As⟩) 1 1) ⟨0,rfl⟩) rfl (fun W hW hN=>?_) (fun v hv=>?_)
       ·clear hW hK K0 hN
        go_simp;exact⟨mC.below (oN _ _ _ _) ((Ext.refl _).alloc _).below,⟨_,rfl⟩,fun b hb=>by cases hb;exact ar.new _ _ _⟩
       obtain⟨b7,rfl⟩:=hv;go_simp;refine hK _ _ ?_;clear hK K0;refine au (fun K0 hK=>?_);refine ck rfl rfl (aZ.fact _ _ 1 (fun v=>∃ a c,v=An a (xl+1) c) (An As (xl+1) 0) ⟨As,0,rfl⟩) rfl (fun W hW hN=>?_) (fun v hv=>?_)
       ·have VB:=(HC.out W).1 hW
        have sX:=VB.1.size;have h0:W.ownsRow VA.heap.size 5 1 (An a5 xl c5) xl (x.2.map et):=hN.at 1 rfl (by kernel_rfl);have hb9:∀ b,(An (AF ⟨b7,0,As⟩) 1 1:AT)=An (AF ⟨b,0,As⟩) 1 1->ar W b #[At DH c] 5:=hN.at 0 rfl (by kernel_rfl);clear hW hK K0 hN VB;refine Bj (.tmp 92) (.tmp 94) 44 rfl VA.heap.size 5 iB (At DH 0) 1 1 Tryz.underlying44 Ym IJ IK IM rfl (by decide) (An a5 xl c5) xl (x.2.map et) rfl h0 (An (AF ⟨b7,0,As⟩) 1 1) 1 [At DH c] rfl (.inr ⟨⟨b7,0,As⟩,1,rfl,cK (hb9 b7 rfl)⟩) rfl (by simp[C']) (by unfold maxLen;omega) (by omega) sX ?_;intro v' w' ho hg halt;rcases halt with hb | ⟨g,cap,y1,y2,y3⟩
        ·exact⟨mC.below (oN _ _ _ _) hb,ownsRow_form ho,ho⟩
        ·subst y2
         rw[y1]at h0 hg;exact⟨⟨ae.bw hg fun x hx=>⟨hx.2,fun e=>by cases e;have:=(h0.lt _ rfl).1;have:=hx.1;omega⟩,Dk h0 ho hg⟩,⟨_,_,rfl⟩,ho⟩
       obtain⟨a8,c8,rfl⟩:=hv;go_simp;refine hK _ _ ?_;clear hK K0;refine bG (fun W hW hH=>?_);have VB:=(HC.out W).1 hW;have RO:A_ (W.ownsRow g0 5 1 (An a8 (xl+1) c8) (xl+1) (x.2.map et++ [At DH c])):=hid (aF (hH _ (aw (show _=AF _ from rfl:_[0]? =AF _))) hgA);have YW:A_ (aa VA W):=hid (VB.1.mono fun z (hz:z<VA.heap.size)=>⟨hz,hz⟩:ae (· <VA.heap.size) VA W).below;have FVW:=hid (aj FVA YW);have PEW:=hid (ZT.below YW);have PW:=hid (PA.below YW PA.lt);have QW:=hid (QA.below YW QA.lt);have KVW:A_ (ae (· <w3.heap.size) w3 W):=hid (KVA.tr (ae.ak YW fun z (hz:z<w3.heap.size)=>by have:=Lj.out;omega:ae (· <w3.heap.size) VA W));clear VB hW hH HC hne f0 f1 f2 f3 f4 YW FVA ZT PA QA KVA;obtain⟨WB,hput,hmB,hkB,hsB⟩:=SQ Tryz.vr Tryz.underlying206 PEW.map (PEW.keys fun y hy=>L4 _ (RK.2 y hy)) (er q) (Gw q (L4 q Vy).1 (L4 q Vy).2) (by rw[HPV.out];exact HQ2) (An a8 (xl+1) c8);have RO2:W.ownsRow g0 5 1 (An a8 (xl+1) c8) (x.2++ [c]).length ((x.2++ [c]).map et):=by
        have e:(x.2++ [c]).map et=x.2.map et++ [At DH c]:=by rw[List.map_append];rfl
        rw[e,aG,List.length_singleton, <-Hu.out];exact RO
       have PEB:=hid (PEW.put RO2 hmB hkB);have FVB:=hid (ai FVW hkB fun z e=>lW FVW PEW.map (fun c fz e=>by cases e) z e);have PB:=hid (PW.keeps hkB (by show pb≠g0;omega));have QB:=hid (QW.keeps hkB (by show qb≠g0;omega));have KVB:A_ (ae (· <w3.heap.size) w3 WB):=hid (KVW.tr (hkB.mono fun z (hz:z<w3.heap.size)=>by show z≠g0;have:=Lj.out;omega));have hgB:g0<=WB.heap.size:=by rw[Lj.out];exact KVB.size
       rw[HPV.out]at hput;obtain⟨t0,t1'⟩:WB.cell? ⟨qb,0,As⟩=AF (At AM t1)/\WB.cell? ⟨qb,1,As⟩=AF (At AM t2):=⟨QB.cell 0,QB.cell 1⟩;obtain⟨w0',w1'⟩:W.cell? ⟨qb,0,As⟩=AF (At AM t1)/\W.cell? ⟨qb,1,As⟩=AF (At AM t2):=⟨QW.cell 0,QW.cell 1⟩;clear hmB hkB hsB RO RO2 PEW FVW PW QW KVW;go_wp2_with (at_builtin;refine Hid.out ?_);refine hid ?_;refine wpList_append_own_at _ rfl (.tmp 96) (.tmp 98) 207 rfl g0 133 iP (By #[At AM 0,At AM 0]) 2 16 Tryz.underlying207 hiP Vt Vu ZI rfl (by decide) (An fa2 L2 fc2) L2 _ rfl (FVB.alloc _) ⟨WB.heap.size,0,As⟩ 1 1 [At AM t1,At AM t2] rfl rfl (SR _ _ _ _) (by simp[C']) (by unfold maxLen;omega) (by omega) (by simp;omega) ?_;intro v' w5 hown' hgrow hh hat;have Jg:=hid hown';have lF:=hid hgrow;have LL:=hid hat;clear hown' hgrow hh hat hput t0 t1' w0' w1';go_wp2;go_roundw;case rel=>
        refine⟨k+1,L2+1,es2++ [(er q,An a8 (xl+1) c8)],by omega,by go_num,?_,?_,?_,?_,?_,?_⟩
        ·rw[ZU.out,aG, <-VN.out];rfl
        ·rw[ZU.out,List.map_append]
         show w5.ownsRow g0 _ _ _ _ (nA (_++ [q]));rw[Bo,HQE.out];exact Jg
        ·rw[ZU.out]
         exact(PEB.below ((Ext.refl WB).alloc _).below).kept (FVB.alloc _) (by decide) lF
        ·exact(PB.alloc _).grown lF (Ne.symm Jh)
        ·rcases LL.out with h5 | h5
         ·rw[h5];exact Jh
         ·rw[h5]
          intro e;have e2:(WB.alloc (.cells #[At AM t1,At AM t2] 133)).heap.size=pb:=by simpa using e
          have h6:=PB.lt;rw[World.size_alloc]at e2;omega
        ·exact(KVB.tr (ae.ak ((Ext.refl WB).alloc _).below fun z (hz:z<w3.heap.size)=>by have:=Lj.out;omega:ae (· <w3.heap.size) WB _)).tr (ae.bw lF fun z (hz:z<w3.heap.size)=>⟨by have:=Lj.out;simp;omega,fun e=>by have:=(FVB.lt z e.symm).1;have:=Lj.out;omega⟩)
       case measure=>simp[intOf];omega
      ·have HOLD:A_ (ib F (lb pj) x (cd a b p n) (k+1)=ib F (lb pj) x (cd a b p n) k):=hid (by rw[ib,nR,if_pos (by rw[<-HQ.out];exact List.mem_map.2 ⟨_,aw hi,rfl⟩)])
       clear hi;go_wp2_with fail
       go_roundw
       case rel=>exact⟨k+1,L2,es2,by omega,by go_num,by rw[HOLD.out];exact VN,by rw[HOLD.out];exact FVA,by rw[HOLD.out];exact ZT,PA,Jh,KVA⟩
       case measure=>simp[intOf];omega
     ·obtain rfl:k=K:=by omega
      have eG:¬ ((k:Int)<k):=by omega
      have HSE:A_ (cd a b p (n+1)=ib F (lb pj) x (cd a b p n) k):=hid (PS.out n x HXN);have hnL:n+1<=L2:=by have h5:=Gx (F:=F) (lt:=lb pj) (x:=x) (E:=cd a b p n) k;have:=VN.out;have:=HL.out;omega
      go_wp2_with fail
      go_roundw
      case rel=>exact⟨n+1,L2,es2,by rw[HSE.out];exact VN,hnL,by go_num,by rw[HSE.out];exact IFV,by rw[HSE.out];exact IPE,ah6,IX⟩
      case measure=>simp[intOf];omega
  ·have hni:¬ ((n:Int)<L):=by omega
   have adC:A_ (ee a b p=As):=hid (by
    rw[HPD.out];by_cases h5:M+1-n=0
    ·rw[h5];rfl
    ·obtain⟨f,hf⟩:∃ f,M+1-n=f+1:=⟨M-n,by omega⟩
     rw[hf,PR.out,aX (by rw[<-HL.out];omega)])
   have XWO:A_ (aa w wo):=hid (X4.trans (HX.mono fun z (hz:z<w.heap.size)=>by show z<w3.heap.size;have:=Lj.out;omega:ae (· <w.heap.size) w3 wo).below);go_wp2;refine A' (v:=C_ #[An As 0 0,B' Cd]) (by simp[results,Tryz.results68,go_sem]) rfl ⟨An As 0 0,?_,?_,XWO⟩
   ·rw[adC.out];rfl
   ·rw[adC.out];exact .inl ⟨rfl,rfl⟩
def Dm (r:Option (List Nat)) (W:AS) (e:Ending) (w':AS):Prop:=∃ a c,e=AN (C_ #[An a (r.getD []).length c,B' (!r.isSome),At AM 0])/\bZ et w' (An a (r.getD []).length c) (r.getD [])/\aa W w'
theorem NV {d:DF} (rt:Rt d) (hM:d.nx.length*d.nx.length<=900000) (s t:Nat) (hs:s<d.nx.length) (ht:t<d.nx.length) (w:AS) (v:AT) (h:cS w v d): ah 18 #[v,At AM s,At AM t] w (Dm (ee d d (s,t)) w):=by
 have CL:A_ (∀ W,aa w W->ah 68 #[v,v,By #[At AM s,At AM t]] W (PartsAt d d (s,t) W)):=hid fun W hW=>yq rt rt (s,t) ⟨hs,ht⟩ hM W v v (h.below hW) (h.below hW)
 have CR:A_ (∀ W,aa w W->ah 16 #[v] W fun e w'=>e=AN (B' B_)/\aa W w'):=hid fun W hW=>fp rt v W (h.below hW)
 obtain⟨n0,dh⟩:=ag d.cl.length;obtain⟨n1,fE⟩:=ag d.nx.length;obtain⟨n2,jk⟩:=ag d.mr.length;obtain⟨a0,c0,a1,c1,a2,c2,rfl⟩:=h.form;rw[<-dh, <-fE, <-jk]at h CR CL ⊢;have H:=hid h;have sK:=hid fE;rw[<-fE]at hs ht hM;obtain⟨r,hr⟩:=ag (ee d d (s,t));unfold PartsAt at CL;rw[<-hr]at CL ⊢;clear h dh fE jk hr;go_enter Tryz.func18,Tryz.ntmps18;go_upto_region 1 with fail
 refine ax ?_;intro V hV;have B0:A_ (ar V w.heap.size #[An a0 n0 c0,An a1 n1 c1,An a2 n2 c2] 29):=hid (by rw[hV];exact ar.new w _ _);have X0:A_ (aa w V):=hid (by rw[hV];exact((Ext.refl w).alloc _).below);clear hV;obtain⟨p0,p1,p2⟩:=bA.mO B0;go_wp2_with fail
 refine(CR V X0).mono ?_;rintro e w1 ⟨rfl,hx⟩;have B1:=hid (B0.below hx B0.lt);have X1:=hid (X0.trans (hx.mono X0.size));clear hx p0 p1 p2 B0 X0 CR;obtain⟨p0,p1,p2⟩:=bA.mO B1;have d1:decide ((s:Int)<0)=Cd:=decide_eq_false (by omega);have d2:decide ((n1:Int)<=s)=Cd:=decide_eq_false (by omega);have d3:decide ((t:Int)<0)=Cd:=decide_eq_false (by omega);have d4:decide ((n1:Int)<=t)=Cd:=decide_eq_false (by omega);have d5:¬ ((n1:Int)<=s):=by omega
 have d6:¬ ((n1:Int)<=t):=by omega
 have d7:¬ (n1<=s):=by omega
 have d8:¬ (n1<=t):=by omega
 go_wp2_with fail
 refine(CL w1 X1).mono ?_;rintro e w2 ⟨u,rfl,hu,hx⟩;obtain⟨ua,uc,rfl⟩:=hu.form;have HU:=hid hu;have X2:=hid (X1.trans (hx.mono X1.size));obtain⟨ln,Oh⟩:=ag ((r.getD []).length);rw[<-Oh]at HU ⊢;obtain⟨q,hq⟩:=ag r.isSome;rw[<-hq];have QT:=hid Oh;have HQ:=hid hq;clear hu hx Oh hq p0 p1 p2 d1 d2 d3 d4 d5 d6 d7 d8 CL;go_wp2;exact A' (v:=C_ #[An ua ln uc,B' (!q),At AM 0]) (by simp[results,Tryz.results18,go_sem]) rfl ⟨ua,uc,by rw[<-QT.out, <-HQ.out],by rw[<-QT.out];exact HU,X2⟩
theorem NW {a b:DF} (ra:Rt a) (rb:Rt b) (hM:a.nx.length*b.nx.length<=900000) (w:AS) (v v':AT) (h:cS w v a) (h':cS w v' b): ah 32 #[v,v'] w (Dm (ee a b (0,0)) w):=by
 have CA:A_ (∀ W,aa w W->ah 16 #[v] W fun e w'=>e=AN (B' B_)/\aa W w'):=hid fun W hW=>fp ra v W (h.below hW)
 have CB:A_ (∀ W,aa w W->ah 16 #[v'] W fun e w'=>e=AN (B' B_)/\aa W w'):=hid fun W hW=>fp rb v' W (h'.below hW)
 have CL:A_ (∀ W,aa w W->ah 68 #[v,v',By #[At AM (0:Nat),At AM (0:Nat)]] W (PartsAt a b (0,0) W)):=hid fun W hW=>yq ra rb (0,0) ⟨ra.pos,rb.pos⟩ hM W v v' (h.below hW) (h'.below hW)
 obtain⟨n0,dh⟩:=ag a.cl.length;obtain⟨n1,fE⟩:=ag a.nx.length;obtain⟨n2,jk⟩:=ag a.mr.length;obtain⟨m0,ve⟩:=ag b.cl.length;obtain⟨m1,rK⟩:=ag b.nx.length;obtain⟨m2,tN⟩:=ag b.mr.length;obtain⟨a0,c0,a1,c1,a2,c2,rfl⟩:=h.form;obtain⟨b0,d0,b1,d1,b2,d2,rfl⟩:=h'.form;rw[<-dh, <-fE, <-jk]at CA CL ⊢;rw[<-ve, <-rK, <-tN]at CB CL ⊢;obtain⟨r,hr⟩:=ag (ee a b (0,0));unfold PartsAt at CL;rw[<-hr]at CL ⊢;clear hr;clear h h' dh fE jk ve rK tN;go_enter Tryz.func32,Tryz.ntmps32;go_upto_region 1 with fail
 refine ax ?_;intro V hV;have B0:A_ (ar V w.heap.size #[An a0 n0 c0,An a1 n1 c1,An a2 n2 c2] 29):=hid (by rw[hV];exact(ar.new w _ _).alloc _);have R0:A_ (ar V (w.heap.size+1) #[An b0 m0 d0,An b1 m1 d1,An b2 m2 d2] 29):=hid (by rw[hV];exact(ar.new (w.alloc _) _ _).at (by simp));have X0:A_ (aa w V):=hid (by rw[hV];exact(((Ext.refl w).alloc _).alloc _).below);clear hV;obtain⟨p0,p1,p2⟩:=bA.mO B0;go_wp2_with fail
 refine(CA V X0).mono ?_;rintro e w1 ⟨rfl,hx⟩;have B1:=hid (B0.below hx B0.lt);have R1:=hid (R0.below hx R0.lt);have X1:=hid (X0.trans (hx.mono X0.size));clear hx p0 p1 p2 B0 R0 X0 CA;obtain⟨r0,r1,r2⟩:=bA.mO R1;go_wp2_with fail
 refine(CB w1 X1).mono ?_;rintro e w2 ⟨rfl,hx⟩;have B2:=hid (B1.below hx B1.lt);have R2:=hid (R1.below hx R1.lt);have X2:=hid (X1.trans (hx.mono X1.size));clear hx r0 r1 r2 B1 R1 X1 CB;obtain⟨p0,p1,p2⟩:=bA.mO B2;obtain⟨r0,r1,r2⟩:=bA.mO R2;go_wp2_with fail
 refine(CL w2 X2).mono ?_;rintro e w3 ⟨u,rfl,hu,hx⟩;obtain⟨ua,uc,rfl⟩:=hu.form;have HU:=hid hu;have X3:=hid (X2.trans (hx.mono X2.size));obtain⟨ln,Oh⟩:=ag ((r.getD []).length);rw[<-Oh]at HU ⊢;obtain⟨q,hq⟩:=ag r.isSome;rw[<-hq];have QT:=hid Oh;have HQ:=hid hq;clear hu hx Oh hq p0 p1 p2 r0 r1 r2 CL;go_wp2;exact A' (v:=C_ #[An ua ln uc,B' (!q),At AM 0]) (by simp[results,Tryz.results32,go_sem]) rfl ⟨ua,uc,by rw[<-QT.out, <-HQ.out],by rw[<-QT.out];exact HU,X3⟩
end
section
open Go Go.RowKit
set_option maxRecDepth 100000
def yr (a b:DF) (P:List BS) (p:Nat×Nat) (k:Nat):Nat×Nat:=(dL a p.1 (cls a.cl (lb P k)),dL b p.2 (cls b.cl (lb P k)))
def vu (a b:DF) (P:List BS) (p:Nat×Nat):Nat->Nat->Option (List Nat)
 | 0,_=>As
 | f+1,i=>match(cY (yr a b P) (lb P) P.length p i)[i]? with
  | none=>As
  | some x=>if uW a b x.1 then AF x.2 else vu a b P p f (i+1)
theorem AQ {a b:DF} {P:List BS} (hP:partsOf (a.cl++b.cl)=P) (p:Nat×Nat):∀ f i,ic a b p f i=vu a b P p f i
 | 0,_=>rfl
 | f+1,i=>by
  have ih:=AQ hP p f (i+1);have e:cd a b p i=cY (yr a b P) (lb P) P.length p i:=by
   unfold cd;have e2:rj a b=yr a b P:=by
    funext p k
    unfold rj yr;rw[hP]
   rw[e2,hP]
  rw[ic,vu,e,ih];cases (cY (yr a b P) (lb P) P.length p i)[i]? <;>rfl
theorem NY {a b:DF} {P:List BS} (hP:partsOf (a.cl++b.cl)=P) (p:Nat×Nat):ee a b p=vu a b P p (a.nx.length*b.nx.length+1) 0:=AQ hP p _ _
def kC:DF:=⟨[BitVec.allOnes 256],[[1],[0],[3],[2]],[[],[0],[],[0]]⟩
theorem SZ:(List.range 4).map (gI kC)=[0,1,0,1]:=by kernel_rfl
end
section
open Go Go.RowKit Go.Shelf Go.Maps
theorem S7 (a b c:BS) (h:(!ltOf aT b a)=B_) (k:(!ltOf aT c b)=B_):(!ltOf aT c a)=B_:=by
 simp only[Bool.not_eq_true']at*;cases XD:ltOf aT c a with
 | false=>rfl
 | true=>
  exfalso;rw[<-Bool.not_eq_true,eU]at h k;rw[eU]at XD;rcases oh a b with e | e | e
  ·subst e;exact k XD
  ·exact k (iz XD e)
  ·exact h e
theorem S8 (a b:BS):((!ltOf aT b a) || (!ltOf aT a b))=B_:=by
 cases Xy:ltOf aT b a with
 | false=>rfl
 | true=>
  cases hab:ltOf aT a b with
  | false=>rfl
  | true=>
   rw[eU]at Xy hab;exact absurd (iz Xy hab) (jH b)
theorem fP {l L:List BS} (hp:(bc l).isPerm L=B_) (hs:decide (L.Pairwise fun x y=>(!ltOf aT y x)=B_)=B_):partsOf l=L:=
 List.Perm.eq_of_pairwise (fun a b _ _ h k=>abj a b (by simpa using k) (by simpa using h)) (List.pairwise_mergeSort S7 S8 _) (of_decide_eq_true hs) ((List.mergeSort_perm _ _).trans (List.isPerm_iff.1 hp))
def zl (l:List Nat):BS:=pM fun c=>l.contains c
theorem Dn {ps:List PT} {P:List BS} {f:Nat} {st:List (List (List Int))×List (List Nat)} (hP:partsOf (cC ps)=P) (hl:¬64<ps.length) (ho:ps.all PT.ok=B_) (h1:1<=f) (h2:f<=4000) (hst:ju f (fun row k=>eZ ps row (lb P k)) P.length (lN ps) f=AF st):kP ps f=(⟨P,st.2.map fun r=>r.map Int.ofNat,st.1.map (dM ps)⟩,0):=by subst hP;unfold kP sO;rw[if_neg hl,if_neg (by rw[ho];decide),if_neg (by omega),Int.toNat_natCast,if_neg (by omega),hst]
def uY (l:List Nat):RX:=.nd 2 (zl l) 0 0 []
def VC (l:List Nat):RX:=.nd 3 0 0 0 (l.map fun c=>uY [c])
def pK (t:RX):RX:=.nd 5 0 0 (-1) [t]
def Ll (t:RX) (b:Bool):PT:=⟨t.nf,b,0⟩
end
section
open Go Go.RowKit
set_option maxRecDepth 100000
def adD (l:List RX):RX:=.nd 4 0 0 0 l
def Gz:RX:=adD [uY [97],uY [98]]
def VD:RX:=adD [pK Gz,pK (uY [97])]
def tAA:RX:=pK (VC [97,97])
def cl3:List BS:=[~~~(zl [97,98]),zl [97],zl [98]]
def ED:List BS:=[~~~(zl [97]),zl [97]]
def NZ:DF:=⟨cl3,[[1,2,3],[1,1,1],[1,1,1],[1,1,1]],[[],[],[0],[0]]⟩
def GA:DF:=⟨cl3,[[0,1,2],[0,1,2],[0,1,2]],[[0],[0],[0]]⟩
def Ta:DF:=⟨ED,[[1,2],[1,1],[1,2]],[[0],[],[0]]⟩
def GC:DF:=⟨ED,[[1,2],[1,1],[1,3],[1,2]],[[0],[],[],[0]]⟩
theorem adE:kP [Ll Gz B_] 9=(NZ,0):=
 (Dn (P:=cl3) (f:=9) (st:=([[[-1]],[[]],[[0]],[[1]]],[[1,2,3],[1,1,1],[1,1,1],[1,1,1]])) (fP (by kernel_rfl) (by kernel_rfl)) (by decide) (by kernel_rfl) (by decide) (by decide) (by kernel_rfl)).trans (by kernel_rfl)
theorem adF:kP [Ll VD Cd] 99=(GA,0):=
 (Dn (P:=cl3) (f:=99) (st:=([[[-1]],[[-1,0,2]],[[-1,1]]],[[0,1,2],[0,1,2],[0,1,2]])) (fP (by kernel_rfl) (by kernel_rfl)) (by decide) (by kernel_rfl) (by decide) (by decide) (by kernel_rfl)).trans (by kernel_rfl)
theorem adG:kP [Ll (pK (uY [97])) B_] 9=(Ta,0):=
 (Dn (P:=ED) (f:=9) (st:=([[[-1]],[[]],[[0]]],[[1,2],[1,1],[1,2]])) (fP (by kernel_rfl) (by kernel_rfl)) (by decide) (by kernel_rfl) (by decide) (by decide) (by kernel_rfl)).trans (by kernel_rfl)
theorem ZV:kP [Ll tAA B_] 9=(GC,0):=
 (Dn (P:=ED) (f:=9) (st:=([[[-1]],[[]],[[0]],[[1]]],[[1,2],[1,1],[1,3],[1,2]])) (fP (by kernel_rfl) (by kernel_rfl)) (by decide) (by kernel_rfl) (by decide) (by decide) (by kernel_rfl)).trans (by kernel_rfl)
theorem WT:(aP NZ).nx.length=3/\(aP NZ).cl.length=2:=by constructor<;>kernel_rfl
theorem WU:(aP GA).nx.length=1/\(aP GA).cl.length=1:=by constructor<;>kernel_rfl
theorem p_a:ee Ta GC (0,0)=AF [97]:=(NY (P:=ED) (fP (by kernel_rfl) (by kernel_rfl)) (0,0)).trans (by kernel_rfl)
theorem adH:NZ.right=B_:=((dH _).2 ⟨by decide,by decide,by decide,fP (by kernel_rfl) (by kernel_rfl),by decide,by decide,by decide⟩)
theorem adI:GA.right=B_:=((dH _).2 ⟨by decide,by decide,by decide,fP (by kernel_rfl) (by kernel_rfl),by decide,by decide,by decide⟩)
theorem adJ:Ta.right=B_:=((dH _).2 ⟨by decide,by decide,by decide,fP (by kernel_rfl) (by kernel_rfl),by decide,by decide,by decide⟩)
theorem ZW:GC.right=B_:=((dH _).2 ⟨by decide,by decide,by decide,fP (by kernel_rfl) (by kernel_rfl),by decide,by decide,by decide⟩)
theorem ZY:kC.right=B_:=((dH _).2 ⟨by decide,by decide,by decide,fP (by kernel_rfl) (by kernel_rfl),by decide,by decide,by decide⟩)
end
section
open Go Go.RowKit Go.Shelf Go.Maps
theorem zm (W:AS) (e:DE) (s:ByteArray):aa W (Bs W e s):=by refine⟨?_,?_,?_,by rw[Lib.bytesWorld_size];omega,fun k hk=>Lib.bytesWorld_at_old W e s k hk⟩<;>(unfold Bs World.freeze;split<;>rfl)
theorem N4 (k:Nat) (s:BS) (mn mx:Int) (a:AT) {i:Nat} (hi:i<4):(aq k s mn mx a)[1+i]? =AF (At Bm (wd s i).toNat):=by
 match i,hi with
 | 0,_=>rfl
 | 1,_=>rfl
 | 2,_=>rfl
 | 3,_=>rfl
theorem JP {s t:BS} {q:Nat} {x:AT} (hq4:q<4) (h:(encS s).setIfInBounds q x=encS t) (k:Nat) (mn mx:Int) (a:AT):(aq k s mn mx a).setIfInBounds (1+q) x=aq k t mn mx a:=by unfold encS at h;unfold aq;have h0:=congrArg (·[0]?) h;have h1:=congrArg (·[1]?) h;have h2:=congrArg (·[2]?) h;have h3:=congrArg (·[3]?) h;clear h;rcases(show q=0\/q=1\/q=2\/q=3 by omega)with rfl | rfl | rfl | rfl<;>(simp at h0 h1 h2 h3;simp[h0,h1,h2,h3])
theorem GD (k:Nat) (s:BS) (mn mx:Int) (a:AT) {c:Nat} (hc:c<256):(aq k s mn mx a).setIfInBounds (1+c/64) (At Bm (bits .or Bm (wd s (c/64)).toNat (Bm.wrap (2^ (c%64)))))=aq k (mX s c) mn mx a:=JP (by omega) (vG s hc) k mn mx a
theorem uI (s:ByteArray) (l:List Nat) (lQ:s.data.toList.map (·.toNat)=l) (hn:l.length<=1000000) (w:AS): ah 55 #[.string s] w fun e w'=>e=AN (By (aq 2 (pM fun c=>l.contains c) 0 0 (An As 0 0)))/\aa w w':=by
 obtain⟨u,hu⟩:=ag (pM fun c=>l.contains c);rw[<-hu];have HU:=hid hu;have hcv:∀ W:AS,(convert 9 44 (.string s)).run Tryz.prog W=.ok (An (AF ⟨W.heap.size,0,As⟩) s.size (grownCap W s.size 0 5)) (Bs W 5 s):=fun W=>Lib.run_convert_string_bytes W 9 44 5 s Tryz.underlying9 Tryz.underlying44 Tryz.underlying5
 have hsz:s.size=l.length:=by rw[<-lQ];simp
 have HCE:A_ (∀ (W:AS) (i x:Nat),l[i]? =AF x->(Bs W 5 s).cell? ⟨W.heap.size,i,As⟩=AF (At DH x)):=hid fun W i x h=>by
  have hi:i<s.size:=by rw[hsz];exact(List.getElem?_eq_some_iff.1 h).1
  rw[Lib.bytesWorld_cell W 5 s i hi];rw[<-lQ,aO]at h;cases hq:s.data.toList[i]? with
  | none=>rw[hq]at h;cases h
  | some b=>rw[hq]at h;cases h;rw[bh,hq];rfl
 have HL:A_ (∀ c∈l,c<256):=hid fun c hc=>by
  rw[<-lQ]at hc;obtain⟨b,_,rfl⟩:=List.mem_map.1 hc;exact b.toNat_lt
 rw[hsz]at hcv;have Uq:A_ (∀ W:AS,aa W (Bs W 5 s)):=hid fun W=>zm W _ s
 clear hu lQ hsz;go_enter Tryz.func55,Tryz.ntmps55;go_upto_region 2 with fail
 refine ax ?_;intro V hV;have R0:A_ (ar V w.heap.size eM 97):=by rw[hV];exact hid ((ar.new _ _ _).alloc _)
 have B0:A_ (ar V (w.heap.size+1) (aq 2 0 0 0 (An As 0 0)) 97):=by rw[hV,bP];exact hid ((ar.new _ _ _).at (by simp))
 have X0:A_ (aa w V):=by rw[hV];exact hid (((Ext.refl w).alloc _).alloc _).below
 have yX:V.heap.size=w.heap.size+2:=by rw[hV];simp
 have qE:=hid yX;clear hV yX;go_wp2;go_loopw [10] (fun i wr=>∃ (k:Nat) (s':BS),k<=l.length/\i=At AM k/\(∀ c,c<256->s'.getLsbD c=(l.take k).contains c)/\ar wr (w.heap.size+1) (aq 2 s' 0 0 (An As 0 0)) 97/\ar wr w.heap.size eM 97/\(∀ i x:Nat,l[i]? =AF x->wr.cell? ⟨V.heap.size,i,As⟩=AF (At DH x))/\aa w wr) (fun i _=>l.length-(intOf i).toNat);case atStart=>
  have hb:=Uq.out V;exact⟨0,0,by omega,rfl,fun c hc=>by simp,B0.below hb B0.lt,R0.below hb R0.lt,fun i x h=>HCE V i x h,X0.trans (hb.mono X0.size)⟩
 case round=>
  obtain⟨k,s',hk,rfl,hs,hB,hR,hce,hx⟩:=hrel;obtain⟨wo,rfl⟩:=ag (wr:AS);have HS:=hid hs;have HCR:=hid hce;clear hs hce;by_cases hlt:k<l.length
  ·obtain⟨c,mA⟩:∃ c,l[k]? =AF c:=⟨l[k],az hlt⟩
   have kT:c<256:=HL.out c (aw mA);have hcc:wo.cell? ⟨V.heap.size,k,As⟩=AF (At DH c):=HCR.out k c mA;have hw:(aq 2 s' 0 0 (An As 0 0))[1+c/64]? =AF (At Bm (wd s' (c/64)).toNat):=N4 _ _ _ _ _ (by omega);have hc1:wo.cell? ⟨w.heap.size+1,1+c/64,As⟩=AF (At Bm (wd s' (c/64)).toNat):=(hB.cell _).trans hw;have hf:=hB.frozen (1+c/64);have fD:l.take (k+1)=l.take k++ [c]:=by rw[List.take_add_one,mA];rfl
   have HT:=hid fD;have HB:=hid hB;have HR:=hid hR;have HX:=hid hx;have eG:(k:Int)<l.length:=by omega
   clear hB hR hx hw fD mA Uq hcv;go_wp2;go_roundw;case rel=>
    refine⟨k+1,mX s' c,by omega,by go_num,fun d hd=>?_,?_,?_,fun i x h=>?_,?_⟩
    ·rw[kS s' kT,HS.out d hd,HT.out,List.contains_eq_any_beq,List.contains_eq_any_beq,List.any_append]
     simp
    ·rw[<-GD 2 s' 0 0 _ kT];exact HB.set _ _
    ·exact HR.other (by simp) _
    ·rw[cell_far _ _ _ _ (by have:=qE.out;simp;omega)];exact HCR i x h
    ·exact HX.trans (((ae.refl (· <w.heap.size) _).setCell (p:=⟨w.heap.size+1,1+c/64,As⟩) (fun h=>by have h':w.heap.size+1<w.heap.size:=h;omega) _).below)
   case measure=>simp[intOf];omega
  ·have Rf:s'=u:=by rw[HU.out];exact BS.JZ fun c hc=>by rw[HS.out c hc,List.take_of_length_le (by omega)]
   subst Rf;obtain rfl:k=l.length:=by omega
   have HR:=hid hR;have HX:=hid hx;have eG:¬ ((l.length:Int)<l.length):=by omega
   obtain⟨c0,c1,c2,c3,c4,c5,c6,c7⟩:=hB.eight;clear hB hR hx hcv Uq;go_wp2_with (refine wpList_store_row rfl 97 (.tmp 2) (.tmp 26) rfl w.heap.size (aq 2 s' 0 0 (An As 0 0)) rfl rfl 97 eM HR (cX _ _ _ _ _) rfl (kr _ _ _ _ _ _ _) ?_;refine Hid.out ?_);refine hid ?_;obtain⟨V3,cT⟩:=ag (wo.setRow w.heap.size (aq 2 s' 0 0 (An As 0 0)));rw[<-cT];have R9:A_ (ar V3 w.heap.size (aq 2 s' 0 0 (An As 0 0)) 97):=by rw[cT];exact hid HR.setRow
   have X9:aa w V3:=by rw[cT];exact HX.trans ((bI wo w.heap.size _).mono fun x (hx:x<w.heap.size)=>by show x≠_;omega:ae (· <w.heap.size) wo _).below
   clear cT;go_wp2;obtain⟨m0,m1,m2,m3,m4,m5,m6,m7⟩:=R9.eight;exact A' (v:=By (aq 2 s' 0 0 (An As 0 0))) (by simp[results,Tryz.results55,aq,go_sem,m0,m1,m2,m3,m4,m5,m6,m7]) rfl ⟨rfl,X9⟩
theorem N7 (p:Option Addr) (n c:Nat) (w:AS): ah 54 #[An p n c] w fun e w'=>e=AN (By (aq 4 0 0 0 (An p n c)))/\aa w w':=by
 rw[bP];go_enter Tryz.func54,Tryz.ntmps54;go_wp2;refine bu ?_;intro V hV;have R1:A_ (ar V w.heap.size #[At DH 4,At Bm 0,At Bm 0,At Bm 0,At Bm 0,At AM 0,At AM 0,An p n c] 97):=by rw[hV];exact hid (ar.new _ _ _)
 have X1:A_ (aa w V):=by rw[hV];exact hid ((Ext.refl w).alloc _).below
 clear hV;obtain⟨m0,m1,m2,m3,m4,m5,m6,m7⟩:=R1.eight;exact A' (v:=By #[At DH 4,At Bm 0,At Bm 0,At Bm 0,At Bm 0,At AM 0,At AM 0,An p n c]) (by simp[results,Tryz.results54,go_sem,m0,m1,m2,m3,m4,m5,m6,m7]) rfl ⟨rfl,X1⟩
theorem N8 (p:Option Addr) (n c:Nat) (w:AS): ah 58 #[An p n c] w fun e w'=>e=AN (By (aq 3 0 0 0 (An p n c)))/\aa w w':=by
 rw[bP];go_enter Tryz.func58,Tryz.ntmps58;go_wp2;refine bu ?_;intro V hV;have R1:A_ (ar V w.heap.size #[At DH 3,At Bm 0,At Bm 0,At Bm 0,At Bm 0,At AM 0,At AM 0,An p n c] 97):=by rw[hV];exact hid (ar.new _ _ _)
 have X1:A_ (aa w V):=by rw[hV];exact hid ((Ext.refl w).alloc _).below
 clear hV;obtain⟨m0,m1,m2,m3,m4,m5,m6,m7⟩:=R1.eight;exact A' (v:=By #[At DH 3,At Bm 0,At Bm 0,At Bm 0,At Bm 0,At AM 0,At AM 0,An p n c]) (by simp[results,Tryz.results58,go_sem,m0,m1,m2,m3,m4,m5,m6,m7]) rfl ⟨rfl,X1⟩
theorem mh (v:AT) (t:RX) (F:Nat->Prop) (w:AS) (hF:∀ x,F x->x<w.heap.size) (h:aJ F w v t): ah 56 #[v] w fun e w'=>∃ b,e=AN (By #[At DH 5,At Bm 0,At Bm 0,At Bm 0,At Bm 0,At AM 0,At AM (-1),An (AF ⟨b,0,As⟩) 1 1])/\aJ (fun x=>x<w'.heap.size/\(F x\/w.heap.size<=x)) w' (By #[At DH 5,At Bm 0,At Bm 0,At Bm 0,At Bm 0,At AM 0,At AM (-1),An (AF ⟨b,0,As⟩) 1 1]) (pK t)/\aa w w':=by
 obtain⟨p,c,rfl⟩:=h.form;have H:=hid h;obtain⟨k,hk⟩:=ag t.kind;obtain⟨nl,uK⟩:=ag t.subs.length;obtain⟨st,hst⟩:=ag t.set;obtain⟨tn,s7⟩:=ag t.mn;obtain⟨tx,Ky⟩:=ag t.mx;rw[<-hk, <-uK, <-hst, <-s7, <-Ky]at H ⊢;clear h hk uK hst s7 Ky;unfold aq;go_enter Tryz.func56,Tryz.ntmps56;go_wp2;refine bu ?_;intro V hV;have B2:A_ (ar V (w.heap.size+1+1) (aq k st tn tx (An p nl c)) 97):=by rw[hV];exact hid ((ar.new _ _ _).at (by simp))
 have R1:A_ (ar V (w.heap.size+1) #[At DH 5,At Bm 0,At Bm 0,At Bm 0,At Bm 0,At AM 0,At AM (-1),An (AF ⟨w.heap.size+1+1,0,As⟩) 1 1] 97):=by rw[hV];exact hid (((ar.new _ _ _).at (by simp)).alloc _)
 have X1:A_ (aa w V):=by rw[hV];exact hid ((((Ext.refl w).alloc _).alloc _).alloc _).below
 clear hV;obtain⟨m0,m1,m2,m3,m4,m5,m6,m7⟩:=R1.eight;refine A' (v:=By #[At DH 5,At Bm 0,At Bm 0,At Bm 0,At Bm 0,At AM 0,At AM (-1),An (AF ⟨w.heap.size+1+1,0,As⟩) 1 1]) (by simp[results,Tryz.results56,go_sem,m0,m1,m2,m3,m4,m5,m6,m7]) rfl ⟨_,rfl,?_,X1⟩;have e:=aJ.one hF H X1 B2 (by omega) 5 0 0 (-1);rw[bP]at e;exact e
def kD (w:AS):List AT->List (List Int)->Prop
 | [],[]=>True
 | u::us,l::ll=>bZ aN w u l/\kD w us ll
 | _,_=>False
theorem kD.len {w:AS} :∀ {us:List AT} {ll:List (List Int)},kD w us ll->us.length=ll.length
 | [],[],_=>rfl
 | u::us,l::ll,h=>by simp only[List.length_cons];rw[kD.len h.2]
 | [],_::_,h=>h.elim
 | _::_,[],h=>h.elim
theorem kD.at {w:AS} :∀ {us:List AT} {ll:List (List Int)},kD w us ll->∀ (i:Nat) (u:AT) (l:List Int),us[i]? =AF u->ll[i]? =AF l->bZ aN w u l
 | [],[],_,i,u,l,hu,_=>by simp at hu
 | x::us,y::ll,h,i,u,l,hu,hl=>by
  cases i with
  | zero=>
   simp at hu hl;subst hu hl;exact h.1
  | succ i=>exact kD.at h.2 i u l (by simpa using hu) (by simpa using hl)
 | [],_::_,h,_,_,_,_,_=>h.elim
 | _::_,[],h,_,_,_,_,_=>h.elim
theorem Lm {w:AS} {B n:Nat} {c:Array AT} {t:DE} (us:List AT) {ll:List (List Int)} (h:ar w B c t) (hc:c.toList=us) (hn:n=us.length) (hr:kD w us ll):gT w (An (AF ⟨B,0,As⟩) n n) ll:=by subst hn;exact⟨us,hr.len,Ek us h (by rw[hc];simp) rfl (aD _),hr.at⟩
theorem JQ {w:AS} {B n:Nat} {c:Array AT} {t:DE} (l:List BS) (h:ar w B c t) (hc:c.toList=aM l) (hn:n=l.length):oo w (An (AF ⟨B,0,As⟩) n n) l:=⟨Hy l h hc hn,fun a n cap e=>by cases e;exact aD _⟩
theorem qC {w:AS} {B n:Nat} {c:Array AT} {t:DE} (l:List Int) (h:ar w B c t) (hc:c.toList=l.map aN) (hn:n=l.length):bZ aN w (An (AF ⟨B,0,As⟩) n n) l:=by subst hn;exact Ek l h hc rfl (aD _)
theorem Ln {w:AS} :bZ aN w (An As 0 0) []:=.inl ⟨rfl,rfl⟩
end
end Go.Proofs.YtjgccapbphadjaaGreatDoor
