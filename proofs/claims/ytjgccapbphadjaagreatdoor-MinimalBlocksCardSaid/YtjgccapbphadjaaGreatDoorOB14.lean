/- minimal.Least, IsLeast, Size, Blocks of automata that are right; they and Classes refuse others. Printed by wip/gen/mwrap.py. -/
import Derived.Test.YtjgccapbphadjaaGreatDoorOB13
set_option maxRecDepth 100000
set_option maxHeartbeats 16000000
open Go.Lib (hid)
open Go.Value renaming slice->An,int->AS,bool->C_,pointer->DE,tuple->E_,agg->Ft
open Option renaming none->As,some->AM,map_eq_some_iff->D_
open Go renaming Value->AF,World->A_,bodyPost_ret->Dl,run_underlying->D',info_parts->GO,TypeId->H'
open Go.Lib renaming hid->AI
open Go.Proofs.Tryz renaming prog->AN,underlying133->GA,underlying115->GS,underlying206->GW,results11->Is,results12->It,ntmps33->IT,ntmps67->I_,ntmps12->I',func33->JZ,func67->J1,func12->J2
open Go.Ending renaming returned->AT
open List renaming getElem?_eq_some_iff->A',eq_nil_of_length_eq_zero->B_,length_range->B',mem_iff_getElem?->C',take_of_length_le->Dn,range->DH,replicate->DP,getElem?_cons_succ->DQ,length_take->FF,getElem?_cons_zero->GC,getElem?_toArray->GF,length_singleton->GG,take_add_one->G'
open Go.IntKind renaming i64->Bm,u64->FG
open Go.Instr renaming lookup->Bs,mapUpdate->If
open Go.RowKit renaming Hid->By
open Go.MapKept renaming run_getObj_map->Cd
open Go.World renaming block_lt_of_cell?->Dm,ownsRow->Iv,cell?->JY
open Bool renaming false->D0,true->H_
open Go.Result renaming andThen->EV
open Array renaming length_toList->F_,toArray_toList->GH
open Go.RowKit.Below renaming refl->Gz
open Nat renaming zero_le->GB,zero_add->G_,le_trans->IF,sub_self->IN
namespace Go.Proofs.YtjgccapbphadjaaGreatDoor
section
open Go Go.RowKit Go.Shelf Go.Maps
attribute [local go_sem] encS
theorem AG (q:BS):∀ (l:List BS) (b:Nat),b<l.length->((((aP l).set (b*4) (AS FG (wd q 0).toNat)).set (b*4+1) (AS FG (wd q 1).toNat)).set (b*4+2) (AS FG (wd q 2).toNat)).set (b*4+3) (AS FG (wd q 3).toNat)=aP (l.set b q)
 | [],b,h=>absurd h (Nat.not_lt_zero b)
 | a::l,0,_=>rfl
 | a::l,b+1,h=>by
  have ih:=AG q l b (by simpa using h);have e:∀ (X:List AF) (j:Nat) (v:AF),((encS a).toList++X).set (j+4) v=(encS a).toList++X.set j v:=fun X j v=>rfl
  show(((((encS a).toList++aP l).set ((b+1)*4) _).set ((b+1)*4+1) _).set ((b+1)*4+2) _).set ((b+1)*4+3) _=(encS a).toList++aP (l.set b q);rw[show(b+1)*4=b*4+4 by omega,show b*4+4+1=b*4+1+4 by omega,show b*4+4+2=b*4+2+4 by omega,show b*4+4+3=b*4+3+4 by omega,e,e,e,e,ih]
theorem dD.store {W:A_} {base b2 n m c g s:Nat} {us ws:List AF} {ll:List (List Int)} (h:dD W base n us ll) (hr:W.ownsRow b2 39 1 (An (AM ⟨g,0,As⟩) m c) m ws) (v:AF):dD (W.setCell ⟨g,s,As⟩ v) base n us ll:=by
 refine⟨h.l1,h.l2,fun i u l hu hl=>?_,h.far⟩;have ho:=h.rows i u l hu hl;refine aj ho ((ae.refl (· ≠g) W).setCell (p:=⟨g,s,As⟩) (fun h=>h rfl) _) fun x hx e=>?_
 rcases ownBlock_ne (by decide) ho hr with h5 | h5
 ·rw[h5]at hx;cases hx
 ·exact h5 (by rw[hx,e];rfl)
def yj (lo:Nat) (v:AF) (n:Nat) (xs:List AF) (x:AF):ij.App:=⟨3,1,v,n,xs,1,lo,fun ns _=>ns=[x],fun _ _ _ _ h=>h⟩
theorem De (base:Nat) (v:AF) (d:DF) (rt:Rt d) (w:A_) (hd:bN base w v d) (rV:base<=w.heap.size): ah 116 #[v] w fun e w'=>∃ u,e=AT u/\bN base w' u (ic d)/\aa w w':=by
 have pd:By (∀ u0 u1 u2,v=Ft #[u0,u1,u2]->bw base w u2 d.mr):=AI fun u0 u1 u2 e=>by
  obtain⟨v0,v1,v2,e',h0,h1,h2⟩:=hd;rw[e']at e;cases e;exact h2
 have h:=hd.df;clear hd;obtain⟨iI,y8,kP,kQ,kR⟩:=GO Tryz.mH;obtain⟨iL,zY,mR,mS,mU⟩:=GO Tryz.tX;obtain⟨iS,hiS,MZ,M7,Na⟩:=GO Tryz.zE;have eg1:∀ (args:Array AF) (w:A_),(callFunc 174 args).run AN w=.ok (.enter 174 args) w:=fun args w=>rfl
 obtain⟨v0,v1,v2,rfl,h0,h1,h2⟩:=h;obtain⟨a0,c0,rfl⟩:=h0.1.form;obtain⟨a1,c1,rfl⟩:=h1.form;obtain⟨a2,c2,rfl⟩:=h2.form;clear h2;have yB:=rt.mr;obtain⟨n,hn⟩:=ag d.nx.length;obtain⟨K,hK⟩:=ag d.cl.length;obtain⟨N,hN⟩:=ag (fj (cA d) d.cl.length);have RA:n<=4000:=by have:=rt.le;omega
 have fH:1<=n:=by have:=rt.pos;omega
 have hK2:K<=256:=by have:=rt.Bk;omega
 have hNK:N<=K:=by rw[hN,hK];exact C0 (mm d)
 have h2:=pd.out _ _ _ rfl;rw[yB, <-hn]at h2 ⊢;rw[<-hn]at h1;rw[<-hK]at h0 ⊢;have CP:By (∀ W (db:Nat),aa w W->ar W db #[An a0 K c0,An a1 n c1,An a2 n c2] 29->ah 137 #[AS Bm K,.func (.func 174) #[] #[DE (AM ⟨db,0,As⟩)]] W fun e w'=>∃ u,e=AT (E_ #[u,AS Bm N])/\w'.ownsRow W.heap.size 3 1 u K ((DH K).map fun k=>cV (cA d k))/\aa W w'):=AI fun W db hW hB=>by
  obtain⟨k1,k2⟩:=Tg rt;rw[<-hK]at k1 k2;rw[<-hK]at hN;refine(qG 174 #[DE (AM ⟨db,0,As⟩)] (Oc d) K (by omega) W (fun s hs=>?_) eg1 (fun s W2 hs hW2=>?_)).mono ?_
  ·unfold Oc
   rw[xF];unfold xU;rw[aQ,B', <-hn];omega
  ·exact Gf s db d rt (by rw[<-hK];exact hs) (An a1 n c1) W2 ((hB.below hW2 hB.lt).cell 1) ((h1.below hW).below hW2)
  ·rintro e w' ⟨u,rfl,h5,h6⟩
   refine⟨u,by rw[k1, <-hN],?_,h6⟩;have e:(DH K).map (fun s=>cV (dL (Oc d) K s))=(DH K).map fun k=>cV (cA d k):=List.map_congr_left fun s hs=>by rw[k2 s (List.mem_range.1 hs)]
   rw[<-e];exact h5
 have HCL:By (∀ k,k<K->∃ (b off:Nat),a0=AM ⟨b,off,As⟩/\b<w.heap.size/\w.cell? ⟨b,off+k*4,As⟩=AM (AS FG (wd (d.cl.getD k 0) 0).toNat)/\w.cell? ⟨b,off+k*4+1,As⟩=AM (AS FG (wd (d.cl.getD k 0) 1).toNat)/\w.cell? ⟨b,off+k*4+2,As⟩=AM (AS FG (wd (d.cl.getD k 0) 2).toNat)/\w.cell? ⟨b,off+k*4+3,As⟩=AM (AS FG (wd (d.cl.getD k 0) 3).toNat)):=AI fun k hk=>by
  obtain⟨b,off,e1,e2,e3⟩:=h0.1.elem (i:=k) (s:=d.cl.getD k 0) (by rw[bu,az (by rw[<-hK];exact hk)];rfl);exact⟨b,off,e1,e2,e3⟩
 have GX:By (∀ s,s<n->∃ (b:Nat) (off:Nat) (ad:Option Addr) (cp:Nat),a1=AM ⟨b,off,As⟩/\b<w.heap.size/\w.cell? ⟨b,off+s,As⟩=AM (An ad K cp)/\bQ aM w (An ad K cp) (d.nx.getD s [])):=AI fun s hs=>by
  have hrow:d.nx[s]? =AM (d.nx.getD s []):=by rw[bu,az (by rw[<-hn];exact hs)];rfl
  obtain⟨b,off,a',c',e1,e2,e3,e4⟩:=h1.elem hrow;rw[rt.len s (by rw[<-hn];exact hs), <-hK]at e3 e4;exact⟨b,off,a',c',e1,e2,e3,e4⟩
 have H2:=AI h2;have HN:=AI hn;have HK:=AI hK;have pA:=AI hN;have RT:=AI rt;clear h0 h1 h2 hn hK hN yB rt eg1 pd;go_enter Tryz.func116,Tryz.ntmps116;go_wp2_with fail
 refine aI ?_;intro V hV;have B1:By (ar V w.heap.size #[An a0 K c0,An a1 n c1,An a2 n c2] 29):=AI (by rw[hV];exact(ar.new w _ _).alloc _);have R1:By (ar V (w.heap.size+1) #[An As 0 0,An As 0 0,An As 0 0] 29):=AI (by rw[hV];exact(ar.new (w.alloc _) _ _).at (by simp));have X1:By (aa w V):=AI (by rw[hV];exact(((Ext.refl w).alloc _).alloc _).below);clear hV;have hsV:w.heap.size+1<V.heap.size:=R1.lt;refine(CP V w.heap.size X1 B1).mono ?_;rintro e w5 ⟨u,rfl,ho,hx⟩;obtain⟨pa,pc,rfl⟩:=ownsRow_form ho;have P5:=AI ho;have B5:=AI (B1.below hx B1.lt);have R5:=AI (R1.below hx R1.lt);have X5:=AI (X1.trans (hx.mono X1.size));have hs5:V.heap.size<=w5.heap.size:=hx.size;clear ho hx B1 R1 X1 CP;obtain⟨b0,b1,b2⟩:=bN.qC B5;go_upto_region 3 with fail
 refine aL D0 (fun _=>False) (by kernel_rfl) 10 [0,1,0,4,12,28,0,64,255,0,1023] (fun i=>i==1 || i==5 || i==9 || i==10) (by kernel_rfl) (fun i=>if i=1 then aX.row w5.heap.size 56 4 N (aP (DP N 0))else if i=5 then aX.row w5.heap.size 39 1 n (DP n (An As 0 0))else if i=9 then aX.uQ w5.heap.size #[An As 0 0,An As 0 0,An As 0 0] 29 else aX.any _) ?_;intro C hC hne;have HC:=AI hC;have f1:=aC hC (p:=⟨w.heap.size,1,As⟩) B5.lt (fun h=>h) b1;have f2:=aC hC (p:=⟨w.heap.size,2,As⟩) B5.lt (fun h=>h) b2;clear hC b0 b1 b2
 repeat (refine au (fun K hK=>?_);first | (refine cg rfl ?_;try go_simp;refine hK _ _ ?_;clear hK K) | (refine bV rfl rfl ?_;unfold aF;go_simp;refine hK _ _ ?_;clear hK K))
 refine au (fun K0 hK=>?_);refine ct rfl rfl (aX.row w5.heap.size 56 4 N (aP (DP N 0))) rfl (fun W hW hN=>?_) (fun v hv=>?_)
 ·have hM:=(HC.out W).1 hW
  clear hW hN hK K0;refine AE (.tmp 20) (.tmp 20) 26 rfl 56 iS (Ft #[AS FG 0,AS FG 0,AS FG 0,AS FG 0]) 4 Tryz.underlying26 hiS MZ M7 Bm Bm _ _ N rfl rfl rfl rfl (by rw[Na];omega) (by unfold maxLen;omega) (fun w' hr hg=>?_);rw[Ig]at hr;exact⟨Move.ai (ae.bB hg fun x hx=>⟨hx,fun e=>by cases e⟩:ae (· <W.heap.size) W w').below,⟨_,_,rfl⟩,aH hr hM.size⟩
 obtain⟨x0,y0,rfl⟩:=hv;go_simp;refine hK _ _ ?_;clear hK K0
 repeat (refine au (fun K hK=>?_);first | (refine cg rfl ?_;try go_simp;refine hK _ _ ?_;clear hK K) | (refine bV rfl rfl ?_;unfold aF;go_simp;refine hK _ _ ?_;clear hK K))
 refine au (fun K0 hK=>?_);refine ct rfl rfl (aX.row w5.heap.size 39 1 n (DP n (An As 0 0))) rfl (fun W hW hN=>?_) (fun v hv=>?_)
 ·have hM:=(HC.out W).1 hW
  clear hW hN hK K0;refine AE (.tmp 24) (.tmp 24) 27 rfl 39 iL (An As 0 0) 1 Tryz.underlying27 zY mR mS Bm Bm _ _ n rfl rfl rfl rfl (by rw[mU];omega) (by unfold maxLen;omega) (fun w' hr hg=>?_);rw[Ie]at hr;exact⟨Move.ai (ae.bB hg fun x hx=>⟨hx,fun e=>by cases e⟩:ae (· <W.heap.size) W w').below,⟨_,_,rfl⟩,aH hr hM.size⟩
 obtain⟨x1,y1,rfl⟩:=hv;go_simp;refine hK _ _ ?_;clear hK K0
 repeat (refine au (fun K hK=>?_);first | (refine cg rfl ?_;try go_simp;refine hK _ _ ?_;clear hK K) | (refine bV rfl rfl ?_;unfold aF;go_simp;refine hK _ _ ?_;clear hK K))
 refine au (fun K0 hK=>?_);refine ct rfl rfl (aX.uQ w5.heap.size #[An As 0 0,An As 0 0,An As 0 0] 29) rfl (fun W hW hN=>?_) (fun v hv=>?_)
 ·have hM:=(HC.out W).1 hW
  have s7:=hM.size;clear hW hN hK K0;go_simp;exact⟨Move.ai ((Ext.refl _).alloc _).below,⟨_,rfl⟩,fun b hb=>by cases hb;exact⟨ar.new _ _ _,s7⟩⟩
 obtain⟨bx,rfl⟩:=hv;go_simp;refine hK _ _ ?_;clear hK K0;refine bM (fun W hW hH=>?_);have hM:=(HC.out W).1 hW;have hb8:(aX.uQ w5.heap.size #[An As 0 0,An As 0 0,An As 0 0] 29).H (DE (AM ⟨bx,0,As⟩)) W:=hH _ (aw (show _=AM _ from rfl:_[0]? =AM _));have LN:By (W.ownsRow w5.heap.size 39 1 (An x1 n y1) n (DP n (An As 0 0))):=AI (hH _ (aw (show _=AM _ from rfl:_[1]? =AM _)));have LC:By (W.ownsRow w5.heap.size 56 4 (An x0 N y0) N (aP (DP N 0))):=AI (hH _ (aw (show _=AM _ from rfl:_[2]? =AM _)));have BX:=AI (hb8 bx rfl);have XW:=AI hM.below;have U8:w5.heap.size<=W.heap.size:=hM.size;clear hM hW hH HC hne f1 f2 hb8;obtain⟨⟨q0,q1,q2⟩,z0,z1,z2⟩:=BX.1.three;go_upto_region 4 with fail
 refine aA ?_;intro W2 hV;have KV:By (ae (· ≠bx) W W2):=AI (by rw[hV];exact fE _ _ _ _ _);have BO:By (ar W2 bx #[An x0 N y0,An x1 n y1,An a2 n c2] 29):=AI (by rw[hV];exact((BX.1.set 0 _).set 1 _).set 2 _);clear hV q0 q1 q2 z0 z1 z2;have zD:w5.heap.size<=bx:=BX.2;have LN2:=AI (aj LN KV fun x e=>cy BX.1 LN (by decide) x e);have LC2:=AI (aj LC KV fun x e=>cy BX.1 LC (by decide) x e);have KW:By (ae (· <w5.heap.size) w5 W2):=AI ((ae.ai XW fun _ h=>h:ae (· <w5.heap.size) w5 W).tr (KV.mono fun x (hx:x<w5.heap.size)=>by show x≠bx;omega));clear KV BX LN LC XW;obtain⟨g5,SI⟩:=ag w5.heap.size;have P2:=AI (aj P5 KW fun x e=>(P5.lt x e).2);have aai:∀ x,(An pa K pc).ownBlock=AM x->x<w5.heap.size:=fun x e=>(P5.lt x e).2
 have B2:=AI (B5.keeps KW B5.lt);have R2:=AI (R5.keeps KW R5.lt);have X2:By (aa w W2):=AI (X5.trans (KW.mono fun x (hx:x<w.heap.size)=>by show x<w5.heap.size;omega:ae (· <w.heap.size) w5 W2).below);have Zc:w.heap.size+1<w5.heap.size:=by omega
 have aiA:w5.heap.size<=W2.heap.size:=KW.size;rw[<-SI]at LN2 LC2 zD aai Zc aiA;clear SI KW P5 B5 R5 X5 U8;have aiB:=AI aai;clear aai;go_wp2_with fail
 go_loopw [31] (fun kv wr=>∃ (k:Nat) (us:List AF),k<=K/\kv=AS Bm k/\ar wr bx #[An x0 N y0,An x1 n y1,An a2 n c2] 29/\wr.ownsRow g5 56 4 (An x0 N y0) N (aP (kV d N k))/\wr.ownsRow g5 39 1 (An x1 n y1) n us/\dD wr g5 n us (j4 d k)/\ae (· <g5) W2 wr) (fun kv _=>K-(intOf kv).toNat)
 case atStart=>exact⟨0,_,GB _,rfl,BO,by rw[Ob];exact LC2,LN2,by rw[JF, <-HN.out];exact dD.start _ _ _,ae.refl _ _⟩
 case round=>
  obtain⟨k,us,hk,rfl,hb,hc,hr,uA,hx⟩:=hrel;obtain⟨wo,rfl⟩:=ag (wr:A_);have HB:=AI hb;have HC:=AI hc;have HR:=AI hr;have WY:=AI uA;have HX:=AI hx;clear hb hc hr uA hx;by_cases hlt:k<K
  ·have eE:(k:Int)<K:=by omega
   have Xt:k<d.cl.length:=by rw[<-HK.out];exact hlt
   obtain⟨b,hbe⟩:=ag (cA d k);have hbN:b<N:=by rw[hbe,pA.out];exact iM Xt
   have Uq:(b:Int)<N:=by omega
   obtain⟨o,hoe⟩:=ag (tD d.cl (cA d) b k);have PO:=aj P2 HX fun x e=>aiB x e
   obtain⟨pg,pu,rfl,_,_,hpu,hpc,_⟩:=fB PO hlt;rw[aO,List.getElem?_range hlt]at hpu;cases hpu;replace hpc:wo.cell? ⟨pg,k,As⟩=AM (AS Bm (cA d k:Nat)):=hpc;rw[<-hbe]at hpc
   have Fw:By (o=0↔ ¬cA d k<(dh (cA d) k).length):=AI (by
    rw[hoe,Ge (by omega) RT.part.ne,VQ (mm d) Xt,hbe]
    exact⟨fun h ⟨j,h1,h2⟩=>h j h1 h2,fun h j h1 h2=>h ⟨j,h1,h2⟩⟩)
   have BK:=AI (B2.keeps HX (by show w.heap.size<g5;omega));have XK:By (aa w wo):=AI (X2.trans (HX.mono fun x (hx:x<w.heap.size)=>by show x<g5;omega:ae (· <w.heap.size) W2 wo).below);obtain⟨gc,rfl,UC⟩:∃ gc,x0=AM ⟨gc,0,As⟩/\g5<=gc:=by
    rcases HC.2 with⟨h5,h6⟩ | ⟨g,c,cur,h5,h6,_⟩
    ·cases h5;omega
    ·cases h5;exact⟨g,rfl,h6⟩
   obtain⟨gc',oc,e1,_,c0,c1,Ue,c3⟩:=(fK (l:=kV d N k) (by unfold kV;rw[aQ,B'];exact HC)).1.elem (yi d hbN);cases e1;rw[<-hoe]at c0 c1 Ue c3;simp only[G_]at c0 c1 Ue c3;have HBE:=AI hbe;have HOE:=AI hoe;clear PO hbe hoe;obtain⟨k0,k1,k2⟩:=bN.qC HB;obtain⟨m0,m1,m2⟩:=bN.qC BK;have heq:∀ W,(Op.equalIn 10000 56 (Ft #[AS FG (wd o 0).toNat,AS FG (wd o 1).toNat,AS FG (wd o 2).toNat,AS FG (wd o 3).toNat]) (Ft #[AS FG 0,AS FG 0,AS FG 0,AS FG 0])).run AN W=(.ok (o==0) W):=fun W=>iu o 0 W
   obtain⟨q,hq⟩:=ag ((o==0));have HQ:=AI hq;rw[<-hq]at heq;clear hq
   go_upto_if 42 with fail
   go_cut [46] from 42 to 66 (fun _ wx=>∃ VN,ar wx bx #[An (AM ⟨gc,0,As⟩) N y0,An x1 n y1,An a2 n c2] 29/\wx.ownsRow g5 56 4 (An (AM ⟨gc,0,As⟩) N y0) N (aP (kV d N k))/\wx.ownsRow g5 39 1 (An x1 n y1) n VN/\dD wx g5 n VN (j4 d (k+1))/\ae (· <g5) wo wx)
   case first=>
    cases q with
    | false=>
     have hold:By (cA d k<(dh (cA d) k).length):=AI (Classical.byContradiction fun h=>by
      have h1:=Fw.2 h;have h2:=HQ.out;rw[h1]at h2
      cases h2)
     go_wp2_with fail
     go_meet
     exact⟨us,HB,HC,HR,by rw[N9 hold.out];exact WY,ae.refl _ _⟩
    | true=>
     have hnw:By (¬cA d k<(dh (cA d) k).length):=AI (Fw.1 (beq_iff_eq.1 HQ.symm));go_wp2_with fail
     go_loopw [46] (fun sv wr=>∃ (s:Nat) (VN:List AF),s<=n/\sv=AS Bm s/\ar wr bx #[An (AM ⟨gc,0,As⟩) N y0,An x1 n y1,An a2 n c2] 29/\wr.ownsRow g5 56 4 (An (AM ⟨gc,0,As⟩) N y0) N (aP (kV d N k))/\wr.ownsRow g5 39 1 (An x1 n y1) n VN/\dD wr g5 n VN (mN d k s)/\ae (· <g5) wo wr) (fun sv _=>n-(intOf sv).toNat)
     case atStart=>exact⟨0,us,GB _,rfl,HB,HC,HR,by rw[JE];exact WY,ae.refl _ _⟩
     case round=>
      obtain⟨s,us1,hs,rfl,hb,hc,hr,uA,hx⟩:=hrel;obtain⟨wi,rfl⟩:=ag (wr:A_);have IB:=AI hb;have IC:=AI hc;have IR:=AI hr;have IRS:=AI uA;have IX:=AI hx;clear hb hc hr uA hx;by_cases kS:s<n
      ·have GI:(s:Int)<n:=by omega
       obtain⟨xg,xu,rfl,Fl,hxg,hxu,hxc,hxf⟩:=fB IR kS;have hsN:s<d.nx.length:=by rw[<-HN.out];exact kS
       have hrow:=N8 d k hsN;obtain⟨l,hle⟩:=ag ((dh (cA d) k).map fun j=>(d.nx.getD s []).getD j 0);rw[<-hle]at hrow;have Xu:=IRS.rows s xu l hxu hrow;obtain⟨m,hme⟩:=ag l.length;have lH:m<=k:=by rw[hme,hle,aQ];exact Td _ _
       rw[<-hme]at Xu;obtain⟨ua,uc,rfl⟩:=ownsRow_form Xu;obtain⟨b1,NZ,ad1,cp1,rfl,hb1,hc1,hsl1⟩:=GX.out s kS;have XI:By (aa w wi):=AI (XK.trans (IX.mono fun x (hx:x<w.heap.size)=>by show x<g5;omega:ae (· <w.heap.size) wo wi).below);have uz:∀ b o u,b<w.heap.size->w.cell? ⟨b,o,As⟩=AM u->wi.cell? ⟨b,o,As⟩=AM u:=fun b o u hb h=>((ae.ai XI fun _ h=>h:ae (· <w.heap.size) w wi).cell (p:=⟨b,o,As⟩) hb).trans h
       obtain⟨aiF,aaj⟩:=tG RT hsN Xt;obtain⟨b2,fV,rfl,hb2,hc2⟩:=hsl1.elem aaj;replace hc1:=uz _ _ _ hb1 hc1;replace hc2:wi.cell? ⟨b2,fV+k,As⟩=AM (AS Bm (en d s k:Nat)):=uz _ _ _ hb2 hc2;obtain⟨x,VR⟩:=ag (en d s k);rw[<-VR]at hc2;have HX9:By ((d.nx.getD s []).getD k 0=((x:Nat):Int)):=AI (by rw[bu,aaj,VR];rfl);have HLE:=AI hle;have HME:=AI hme;have HUR:=AI Xu;have HXU:=AI hxu;have hZ:=AI hrow;have Xv:g5<=wi.heap.size:=by have:=IX.size;have:=HX.size;omega
       have aak:∀ z,(An ua m uc).ownBlock=AM z->g5<=z/\z<wi.heap.size:=fun z e=>HUR.lt z e
       have IBK:=AI (BK.keeps IX (by show w.heap.size<g5;omega));obtain⟨i0,i1,i2⟩:=bN.qC IB;obtain⟨j0,j1,j2⟩:=bN.qC IBK;clear hle hme Xu hxu hrow aaj aiF hsl1 uz VR;go_upto_region 11 with fail
       obtain⟨PL,vv⟩:=ag ([yj wi.heap.size (An ua m uc) m (l.map aM) (AS Bm x)]:List ij.App);have pB:PL[0]? =AM (yj wi.heap.size (An ua m uc) m (l.map aM) (AS Bm x)):=by rw[vv];rfl
       have hall:∀ q∈PL,q=yj wi.heap.size (An ua m uc) m (l.map aM) (AS Bm x):=fun q hq=>by rw[vv]at hq;simpa using hq
       have Dd:By (ij.ky wi PL):=AI ⟨fun q hq=>by rw[hall q hq];exact aG _,fun q hq x e=>by
        rw[hall q hq]at e;exact(aak x e).2,fun i j q q' hi hj mF=>by
        have hl:PL.length=1:=by rw[vv];rfl
        have h1:=(A'.1 hi).1;have h2:=(A'.1 hj).1
        omega⟩
       have pZ:∀ z,¬ (An ua m uc).ownBlock=AM z->¬ ∃ q∈PL,q.v.ownBlock=AM z:=fun z hz ⟨q,hq,e⟩=>by
        rw[hall q hq]at e;exact hz e
       have GR:=AI pZ;clear vv hall pZ;refine RegG.bL (ij.bZ g5 wi PL) (ij.bZ.drew) (fun _ _ _ h k=>h.trans k) (by kernel_rfl) 14 [0,1,0,0,8,0,56,120,0,0,768,1792,3840,8184,16383,32767] (fun i=>i==12 || i==13) (by kernel_rfl) (fun _=>As) (fun j hj=>(by first | rfl | (have kX:16<=j:=hj;first | exact if_neg (by omega) | (split<;>first | omega | rfl)))) (by kernel_rfl) (fun i=>if i=12 then ij.ie.vX g5 wi PL 1 #[AS Bm x] 3 else if i=13 then ij.ie.app g5 wi PL (yj wi.heap.size (An ua m uc) m (l.map aM) (AS Bm x)) (aw pB)else RegG.aX.any _) ?_;intro C hC hne;have HC:=AI hC;have j7:∀ {z:Nat},z<wi.heap.size->¬ (An ua m uc).ownBlock=AM z->∀ W: {W//C W},W.1.heap[z]? =wi.heap[z]? :=fun {z} h1 h2 W=>((hC W.1).1 W.2).keeps.keep z ⟨h1,GR z h2⟩
       have nbx:¬ (An ua m uc).ownBlock=AM bx:=fun e=>cy IB HUR (by decide) bx e rfl
       have ngx:¬ (An ua m uc).ownBlock=AM xg:=fun e=>by
        rcases ownBlock_ne (by decide) HUR IR.out with h5 | h5
        ·rw[h5]at e;cases e
        ·exact h5 (e.trans rfl)
       have o1:∀ W: {W//C W},W.1.cell? ⟨bx,1,As⟩=AM (An (AM ⟨xg,0,As⟩) n y1):=fun W=>(IB.same (j7 IB.lt nbx W)).cell 1
       have o2:∀ W: {W//C W},W.1.cell? ⟨xg,s,As⟩=AM (An ua m uc):=fun W=>by
        have e:W.1.cell? ⟨xg,s,As⟩=wi.cell? ⟨xg,s,As⟩:=by unfold JY;rw[j7 hxg ngx W]
        exact e.trans hxc
       have o3:∀ W: {W//C W},W.1.cell? ⟨b2,fV+k,As⟩=AM (AS Bm x):=fun W=>by
        have e:W.1.cell? ⟨b2,fV+k,As⟩=wi.cell? ⟨b2,fV+k,As⟩:=by unfold JY;rw[j7 (z:=b2) (by have:=XI.size;omega) (fun e=>by have:=(aak b2 e).1;omega) W]
        exact e.trans hc2
       clear hC j7
       repeat (refine RegG.au (fun K hK=>?_);first | (refine RegG.cg rfl ?_;try go_simp;refine hK _ _ ?_;clear hK K) | (refine RegG.bV rfl rfl ?_;unfold aF;go_simp;refine hK _ _ ?_;clear hK K))
       refine RegG.au (fun K hK=>?_);refine RegG.ct rfl rfl (ij.ie.vX g5 wi PL 1 #[AS Bm x] 3) rfl (fun W hW hN=>?_) (fun v hv=>?_)
       ·have hM:=(HC.out W).1 hW
        clear hW hK K
        (go_simp;exact⟨.below ((Ext.refl _).alloc _).below,⟨_,rfl⟩,fun b hb=>by cases hb;exact⟨ar.new _ _ _,Dd.fresh hM.size⟩⟩)
       obtain⟨x3,rfl⟩:=hv;go_simp;refine hK _ _ ?_;clear hK K;refine RegG.au (fun K hK=>?_);refine RegG.ct rfl rfl (ij.ie.app g5 wi PL (yj wi.heap.size (An ua m uc) m (l.map aM) (AS Bm x)) (aw pB)) rfl (fun W hW hN=>?_) (fun v hv=>?_)
       ·have hM:=(HC.out W).1 hW
        clear hW hK K;refine ij.dN (w0:=wi) (PL:=PL) (p:=yj wi.heap.size (An ua m uc) m (l.map aM) (AS Bm x)) (.tmp 58) (.tmp 63) 39 rfl iI (AS Bm 0) 8 Tryz.underlying39 y8 kP kQ kR rfl (show(0:Nat)<1 from by decide) Dd pB rfl (hM.old _ (aw pB) HUR) ⟨x3,0,As⟩ 1 rfl [AS Bm x] rfl rfl (cO (hN.at 0 rfl (by kernel_rfl) x3 rfl).1) (by intro u hu;simp at hu;rw[hu];rfl) (by show m+1<=maxLen;unfold maxLen;omega) (by show(m+1)*8<=_;omega) (IF Xv hM.size) (show(0:Nat)<1 from by decide) hM.size (fun v W2 g1 g2 g3 _=>⟨g1,g2,g3⟩)
       obtain⟨yg,yh,hv2⟩:=hv;replace hv2:v=An yg (m+1) yh:=hv2;subst hv2;go_simp;refine hK _ _ ?_;clear hK K;refine RegG.bM (fun W7 hW hH=>?_);have hM:=(HC.out W7).1 hW;have Q0:By (ij.After g5 wi (yj wi.heap.size (An ua m uc) m (l.map aM) (AS Bm x)) W7 (An yg (m+1) yh)):=AI (hH _ (aw (show _=AM _ from rfl:_[0]? =AM _)));have K7:By (ae (fun z=>z<wi.heap.size/\(An ua m uc).ownBlock≠AM z) wi W7):=AI (hM.keeps.mono fun z hz=>⟨hz.1,GR z hz.2⟩);clear hM hW hH hne o1 o2 o3 Dd GR pB hxc hc1 hc2 i0 i1 i2 j0 j1 j2;have IB7:=AI (IB.keeps K7 ⟨IB.lt,nbx⟩)
       have IR7:=AI (aj IR K7 fun z e=>⟨(IR.lt z e).2,fun e2=>by
        have e3:xg=z:=by simpa[Value.ownBlock]using e
        exact ngx (e3▸e2)⟩)
       have IC7:=AI (aj IC K7 fun z e=>⟨(IC.lt z e).2,fun e2=>by
        rcases ownBlock_ne (by decide) HUR IC.out with h5 | h5
        ·rw[h5]at e2;cases e2
        ·exact h5 (e2.trans e.symm)⟩)
       have RS7:By (dD W7 g5 n (us1.set s (An yg (m+1) yh)) (mN d k (s+1))):=AI (by
        obtain⟨⟨ns,h5,h6⟩,h7⟩:=Q0.out;have h6:ns=[AS Bm x]:=h6;subst h6;rw[<-N7 d k hsN, <-HLE.out,HX9.out];refine IRS.more HXU hZ K7 ?_ h7;have e:(l++ [((x:Nat):Int)]).map aM=l.map aM++ [AS Bm x]:=by rw[List.map_append];rfl
        rw[e,aJ, <-HME.out]
        exact h5)
       have IX7:By (ae (· <g5) wo W7):=AI (IX.tr (K7.mono fun z (hz:z<g5)=>⟨by omega,fun e=>by have:=(aak z e).1;omega⟩));obtain⟨sg,su,se,_,hsg,hsu,hsc,hsf⟩:=fB IR7 kS;cases se;clear Q0 K7;go_wp2;go_roundw;case rel=>
        have kg:ae (· ≠xg) W7 (W7.setCell ⟨xg,s,As⟩ (An yg (m+1) yh)):=(ae.refl _ _).setCell (p:=⟨xg,s,As⟩) (fun h=>h rfl) _;refine⟨s+1,us1.set s (An yg (m+1) yh),by omega,by go_num,IB7.keeps kg (fun e=>cy IB7 IR7 (by decide) xg rfl e.symm),aj IC7 kg fun z e e2=>?_,(IR7.stored s _).1,RS7.store IR7 _,IX7.tr (kg.mono fun z (hz:z<g5)=>by show z≠xg;omega)⟩;rcases ownBlock_ne (by decide) IC7 IR7.out with h5 | h5
        ·rw[h5]at e;cases e
        ·exact h5 (e.trans (by rw[e2];rfl))
       case measure=>simp[intOf];omega
      ·obtain rfl:s=n:=by omega
       have GI:¬ ((s:Int)<s):=by omega
       go_wp2_with fail
       go_meet
       refine⟨us1,IB,IC,IR,?_,IX⟩;have h5:=IRS.out;rw[show mN d k s=j4 d (k+1) by rw[HN.out];exact N4 hnw.out]at h5;exact h5
   case rest=>
   obtain⟨us2,jb,jc,jr,jrs,jx⟩:=hcut;obtain⟨W3,rfl⟩:=ag (wc:A_);have JB:=AI jb;have JC:=AI jc;have JR:=AI jr;have JRS:=AI jrs;have JX:=AI jx;clear jb jc jr jrs jx c0 c1 Ue c3 k0 k1 k2 m0 m1 m2 hpc heq HQ Fw;have JK:=AI (BK.keeps JX (by show w.heap.size<g5;omega));obtain⟨sb,sof,e5,kJ,d0,d1,d2,d3⟩:=HCL.out k hlt;cases e5;have JW:By (aa w W3):=AI (XK.trans (JX.mono fun x (hx:x<w.heap.size)=>by show x<g5;omega:ae (· <w.heap.size) wo W3).below);have uz:∀ b o u,b<w.heap.size->w.cell? ⟨b,o,As⟩=AM u->W3.cell? ⟨b,o,As⟩=AM u:=fun b o u hb h=>((ae.ai JW fun _ h=>h:ae (· <w.heap.size) w W3).cell (p:=⟨b,o,As⟩) hb).trans h
   have VS:sb<W3.heap.size:=by have:=JW.size;omega
   replace d0:=uz _ _ _ kJ d0;replace d1:=uz _ _ _ kJ d1;replace d2:=uz _ _ _ kJ d2;replace d3:=uz _ _ _ kJ d3;obtain⟨gc2,oc2,e6,Am,c0,c1,Ue,c3⟩:=(fK (l:=kV d N k) (by unfold kV;rw[aQ,B'];exact JC)).1.elem (yi d hbN);cases e6;rw[<-HOE.out]at c0 c1 Ue c3;simp only[G_]at c0 c1 Ue c3;obtain⟨t,hte⟩:=ag (d.cl.getD k 0);rw[<-hte]at d0 d1 d2 d3;have HTE:=AI hte;have CO:By (∀ W,ah 76 #[Ft (encS o),Ft (encS t)] W fun e w'=>e=AT (Ft (encS (o ||| t)))/\Ext W w'):=AI fun W=>PK o t W
   obtain⟨k0,k1,k2⟩:=bN.qC JB;obtain⟨m0,m1,m2⟩:=bN.qC JK;clear uz hte;go_upto_region 13 with fail
   refine aL D0 (fun _=>False) (by kernel_rfl) 14 [0,1,0,0,8,0,56,120,0,256,0,1792,3840,8184,16383,32767] (fun i=>i==13) (by kernel_rfl) (fun i=>if i=13 then aX.yw _ (Ft (encS (o ||| t)))else aX.any _) ?_;intro C hC hne;have HC:=AI hC;have o0:=aC hC (p:=⟨bx,0,As⟩) JB.lt (fun h=>h) k0;have o1:=aC hC (p:=⟨w.heap.size,0,As⟩) JK.lt (fun h=>h) m0;have p0:=aC hC (p:=⟨gc,b*4,As⟩) Am (fun h=>h) c0;have p1:=aC hC (p:=⟨gc,b*4+1,As⟩) Am (fun h=>h) c1;have p2:=aC hC (p:=⟨gc,b*4+2,As⟩) Am (fun h=>h) Ue;have p3:=aC hC (p:=⟨gc,b*4+3,As⟩) Am (fun h=>h) c3;have r0:=aC hC (p:=⟨sb,sof+k*4,As⟩) VS (fun h=>h) d0;have r1:=aC hC (p:=⟨sb,sof+k*4+1,As⟩) VS (fun h=>h) d1;have r2:=aC hC (p:=⟨sb,sof+k*4+2,As⟩) VS (fun h=>h) d2;have r3:=aC hC (p:=⟨sb,sof+k*4+3,As⟩) VS (fun h=>h) d3;clear hC k0 k1 k2 m0 m1 m2 c0 c1 Ue c3 d0 d1 d2 d3
   repeat (refine au (fun K hK=>?_);first | (refine cg rfl ?_;try go_simp;refine hK _ _ ?_;clear hK K) | (refine bV rfl rfl ?_;unfold aF;go_simp;refine hK _ _ ?_;clear hK K))
   refine au (fun K hK=>?_);refine ct rfl rfl (aX.yw _ (Ft (encS (o ||| t)))) rfl (fun W hW hN=>?_) (fun v hv=>?_)
   ·have hM:=(HC.out W).1 hW
    clear hW;go_simp;refine bI ((CO W).mono ?_);rintro e w2 ⟨rfl,hx⟩;exact⟨_,rfl,Move.ai hx.below,rfl,trivial⟩
   replace hv:v=_:=hv;subst hv;go_simp;refine hK _ _ ?_;clear hK K;refine bM (fun W hW hH=>?_);have hM:=(HC.out W).1 hW;have ZB:=AI (JB.below hM.below JB.lt);have ZC:=AI (ak JC hM.below);have ZR:=AI (ak JR hM.below);have ZRS:=AI (JRS.below hM.below);have ZX:By (ae (· <g5) W2 W):=AI ((HX.tr JX).tr (ae.ai hM.below fun z (hz:z<g5)=>by have:=JX.size;have:=HX.size;omega:ae (· <g5) W3 W));clear hM hW hH HC hne o0 o1 p0 p1 p2 p3 r0 r1 r2 r3 JB JC JR JRS JX CO;obtain⟨gc3,oc3,e7,apl,c0,c1,Ue,c3⟩:=(fK (l:=kV d N k) (by unfold kV;rw[aQ,B'];exact ZC)).1.elem (yi d hbN);cases e7;simp only[G_]at c0 c1 Ue c3;have y0':=ZC.frozenAt (b*4);have y1':=ZC.frozenAt (b*4+1);have y2':=ZC.frozenAt (b*4+2);have y3':=ZC.frozenAt (b*4+3);go_wp2;go_roundw;case rel=>
    obtain⟨W8,Xg⟩:=ag ((((W.setCell ⟨gc,b*4,As⟩ (AS FG (wd (o ||| t) 0).toNat)).setCell ⟨gc,b*4+1,As⟩ (AS FG (wd (o ||| t) 1).toNat)).setCell ⟨gc,b*4+2,As⟩ (AS FG (wd (o ||| t) 2).toNat)).setCell ⟨gc,b*4+3,As⟩ (AS FG (wd (o ||| t) 3).toNat));rw[<-Xg];have kg:ae (· ≠gc) W W8:=by rw[Xg];exact((((ae.refl _ _).setCell (p:=⟨gc,b*4,As⟩) (fun h=>h rfl) _).setCell (p:=⟨gc,b*4+1,As⟩) (fun h=>h rfl) _).setCell (p:=⟨gc,b*4+2,As⟩) (fun h=>h rfl) _).setCell (p:=⟨gc,b*4+3,As⟩) (fun h=>h rfl) _
    refine⟨k+1,us2,by omega,by go_num,ZB.keeps kg fun e=>cy ZB ZC (by decide) gc rfl e.symm,?_,aj ZR kg fun z e e2=>?_,ZRS.keeps kg fun u z hu e hz e2=>?_,ZX.tr (kg.mono fun z (hz:z<g5)=>by show z≠gc;omega)⟩
    ·have h5:=((((ZC.stored (b*4) (AS FG (wd (o ||| t) 0).toNat)).1.stored (b*4+1) (AS FG (wd (o ||| t) 1).toNat)).1.stored (b*4+2) (AS FG (wd (o ||| t) 2).toNat)).1.stored (b*4+3) (AS FG (wd (o ||| t) 3).toNat)).1
     rw[AG (o ||| t) (kV d N k) b (by unfold kV;rw[aQ,B'];exact hbN),HBE.out,HOE.out,HTE.out,HBE.out,Te d (by rw[<-HBE.out];exact hbN)]at h5;rw[Xg,HBE.out,HOE.out,HTE.out,HBE.out];exact h5
    ·rcases ownBlock_ne (by decide) ZR ZC.out with h5 | h5
     ·rw[h5]at e;cases e
     ·exact h5 (e.trans (by rw[e2];rfl))
    ·obtain⟨i,hi⟩:=C'.1 hu
     have gJ:=(A'.1 hi).1;have hr5:=ZRS.rows i u _ hi (az (by rw[ZRS.l2, <-ZRS.l1];exact gJ));rcases ownBlock_ne (by decide) hr5 ZC.out with h5 | h5
     ·rw[h5]at e;cases e
     ·exact h5 (e.trans (by rw[e2];rfl))
   case measure=>simp[intOf];omega
  ·obtain rfl:k=K:=by omega
   have eE:¬ ((k:Int)<k):=by omega
   have RF:=AI (R2.keeps HX (by show w.heap.size+1<g5;omega));have XK:By (aa w wo):=AI (X2.trans (HX.mono fun x (hx:x<w.heap.size)=>by show x<g5;omega:ae (· <w.heap.size) W2 wo).below);obtain⟨⟨k0,k1,k2⟩,_⟩:=HB.three;obtain⟨⟨l0,l1,l2⟩,z0,z1,z2⟩:=RF.three;go_wp2;refine bA ?_;intro W9 gj;have E9:By (ar W9 (w.heap.size+1) #[An x0 N y0,An x1 n y1,An a2 n c2] 29/\ae (· ≠w.heap.size+1) wo W9):=by rw[gj];exact AI ⟨RF.yU,fE _ _ _ _ _⟩
   clear gj z0 z1 z2 k0 k1 k2 l0 l1 l2;obtain⟨⟨m0,m1,m2⟩,_⟩:=E9.1.three;refine Dl (v:=Ft #[An x0 N y0,An x1 n y1,An a2 n c2]) (by simp[results,Tryz.results116,go_sem,m0,m1,m2]) rfl ⟨_,rfl,⟨_,_,_,rfl,?_,?_,?_⟩,XK.trans (E9.2.mono fun x (hx:x<w.heap.size)=>by show x≠w.heap.size+1;omega:ae (· <w.heap.size) wo W9).below⟩
   ·have h5:=aH (base':=base) (aj HC E9.2 fun x e=>by have:=(HC.lt x e).1;show x≠_;omega) (by omega)
    have e:kV d N k=(ic d).cl:=by rw[pA.out,HK.out];exact Tf d
    have e2:(ic d).cl.length=N:=by rw[<-e];unfold kV;rw[aQ,B']
    show W9.ownsRow base 56 4 _ (ic d).cl.length _;rw[e2, <-e];exact h5
   ·have e:j4 d k=(ic d).nx:=by rw[HK.out];exact Oa d
    have h5:bw g5 wo (An x1 n y1) (j4 d k):=RowsIn.ll WY.rows WY.l1 WY.l2 HR;rw[e]at h5;exact(h5.keeps E9.2 fun x h1 _=>by show x≠_;omega).base (by omega)
   ·exact H2.keeps (R:=(· <w.heap.size)) ((ae.ai XK fun _ h=>h:ae (· <w.heap.size) w wo).tr (E9.2.mono fun x (hx:x<w.heap.size)=>by show x≠w.heap.size+1;omega)) fun _ _ h=>h
end
section
open Go Go.RowKit Go.Shelf Go.Maps
def Gg (n0 n1 n2:Nat) (d:DF) (W:A_) (e:Ending) (w':A_):Prop:=
 ∃ a0 c0 a1 c1 a2 c2,e=AT (Ft #[An a0 n0 c0,An a1 n1 c1,An a2 n2 c2])/\bN W.heap.size w' (Ft #[An a0 n0 c0,An a1 n1 c1,An a2 n2 c2]) d/\aa W w'
theorem dr.form {w:A_} {v:AF} {d:DF} (h:dr w v d):∃ a0 c0 a1 c1 a2 c2,v=Ft #[An a0 d.cl.length c0,An a1 d.nx.length c1,An a2 d.mr.length c2]:=by obtain⟨v0,v1,v2,rfl,h0,h1,h2⟩:=h;obtain⟨a0,c0,rfl⟩:=h0.1.form;obtain⟨a1,c1,rfl⟩:=h1.form;obtain⟨a2,c2,rfl⟩:=h2.form;exact⟨_,_,_,_,_,_,rfl⟩
theorem Lp {d:DF} (rt:Rt d) {n0 n1 n2:Nat} (h0:n0=(bD d).cl.length) (h1:n1=(bD d).nx.length) (h2:n2=(bD d).mr.length) (W:A_) (u:AF) (h:dr W u d):ah 115 #[u] W (qB n0 n1 n2 0 (bD d) W):=
 (Tb u d rt rt.ZF W h).mono fun e w' ⟨r,hr,hd,hx⟩=>by
  subst h0 h1 h2;obtain⟨a0,c0,a1,c1,a2,c2,rfl⟩:=hd.form;exact⟨a0,c0,a1,c1,a2,c2,hr,hd,hx⟩
theorem Od {d:DF} (rt:Rt d) (p:Nat->Nat) {n0 n1 n2:Nat} (h0:n0=(dn d p).cl.length) (h1:n1=(dn d p).nx.length) (h2:n2=(dn d p).mr.length) (W:A_) (u pv:AF) (h:dr W u d) (hp:bQ (fun u:AF=>u) W pv ((DH d.nx.length).map fun s=>cV (p s))):ah 81 #[u,pv] W (Gg n0 n1 n2 (dn d p) W):=
 (JD u pv d rt rt.ZF p W h hp).mono fun e w' ⟨r,hr,hd,hx⟩=>by
  subst h0 h1 h2;obtain⟨a0,c0,a1,c1,a2,c2,rfl⟩:=hd.form;exact⟨a0,c0,a1,c1,a2,c2,hr,hd,hx⟩
def Lq (base n0 n1 n2:Nat) (d:DF) (W:A_) (e:Ending) (w':A_):Prop:=
 ∃ a0 c0 a1 c1 a2 c2,e=AT (Ft #[An a0 n0 c0,An a1 n1 c1,An a2 n2 c2])/\bN base w' (Ft #[An a0 n0 c0,An a1 n1 c1,An a2 n2 c2]) d/\aa W w'
theorem Gh {d:DF} (rt:Rt d) {n0 n1 n2:Nat} (h0:n0=(ic d).cl.length) (h1:n1=(ic d).nx.length) (h2:n2=(ic d).mr.length) (base:Nat) (W:A_) (u:AF) (h:bN base W u d) (hb:base<=W.heap.size):ah 116 #[u] W (Lq base n0 n1 n2 (ic d) W):=
 (De base u d rt W h hb).mono fun e w' ⟨r,hr,hd,hx⟩=>by
  subst h0 h1 h2;obtain⟨a0,c0,a1,c1,a2,c2,rfl⟩:=hd.form;exact⟨a0,c0,a1,c1,a2,c2,hr,hd,hx⟩
theorem Df {w:A_} {base n:Nat} {v:AF} {e:H'} {l:List AF} (h:w.ownsRow base e 1 v n l) (hn:n=l.length):bQ (fun u:AF=>u) w v l:=by
 have e1:l=l.map fun u:AF=>u:=by rw[List.map_id']
 rw[e1]at h;exact cZ h hn
theorem ar.yl {w:A_} {b:Nat} {x0 x1 x2 y0 y1 y2:AF} {t:H'} (h:ar w b #[x0,x1,x2] t):ar (((w.setCell ⟨b,0,As⟩ y0).setCell ⟨b,1,As⟩ y1).setCell ⟨b,2,As⟩ y2) b #[y0,y1,y2] t:=((h.set 0 _).set 1 _).set 2 _
theorem ym {d:DF} (rt:Rt d) {k0 k1 k2:Nat} (tJ:k0=(cq d).cl.length) (lM:k1=(cq d).nx.length) (hk2:k2=(cq d).mr.length) (w:A_) (v:AF) (h:dr w v d): ah 62 #[v] w (Gg k0 k1 k2 (cq d) w):=by
 have rt1:Rt (bD d):=mq rt;have rt2:Rt (dn (bD d) (kq (bD d))):=F5 rt1 (NY rt1);have rt3:Rt (uY d):=SN rt2;obtain⟨n0,dw⟩:=ag d.cl.length;obtain⟨n1,fH⟩:=ag d.nx.length;obtain⟨n2,jg⟩:=ag d.mr.length;obtain⟨n3,GV⟩:=ag ((bD d).cl.length);obtain⟨n4,RA⟩:=ag ((bD d).nx.length);obtain⟨n5,hn5⟩:=ag ((bD d).mr.length);obtain⟨m0,vn⟩:=ag ((dn (bD d) (kq (bD d))).cl.length);obtain⟨m1,rY⟩:=ag ((dn (bD d) (kq (bD d))).nx.length);obtain⟨m2,tT⟩:=ag ((dn (bD d) (kq (bD d))).mr.length);obtain⟨m3,hm3⟩:=ag ((uY d).cl.length);obtain⟨m4,uw⟩:=ag ((uY d).nx.length);obtain⟨m5,hm5⟩:=ag ((uY d).mr.length);obtain⟨R,hR⟩:=ag ((DH (bD d).nx.length).map fun s=>cV (kq (bD d) s));have CT:By (∀ W u,dr W u d->ah 115 #[u] W (qB n3 n4 n5 0 (bD d) W)):=AI fun W u h=>Lp rt GV RA hn5 W u h
 have CB:By (∀ W u,dr W u (bD d)->ah 79 #[u] W fun e w'=>∃ a c,e=AT (An a n4 c)/\w'.ownsRow W.heap.size 3 1 (An a n4 c) n4 R/\aa W w'):=AI fun W u h=>(yf u _ rt1 W h).mono fun e w' ⟨r,hr,ho,hx⟩=>by
  rw[<-hR, <-RA]at ho;obtain⟨a,c,rfl⟩:=ownsRow_form ho;exact⟨a,c,hr,ho,hx⟩
 have CM:By (∀ W u pv,dr W u (bD d)->bQ (fun u:AF=>u) W pv R->ah 81 #[u,pv] W (Gg m0 m1 m2 (dn (bD d) (kq (bD d))) W)):=AI fun W u pv h hp=>Od rt1 _ vn rY tT W u pv h (by rw[<-hR];exact hp)
 have CN:By (∀ base W u,bN base W u (dn (bD d) (kq (bD d)))->base<=W.heap.size->ah 116 #[u] W (Lq base m3 m4 m5 (uY d) W)):=AI fun base W u h hb=>Gh rt2 hm3 uw hm5 base W u h hb
 have CZ:By (∀ W u,dr W u (uY d)->ah 115 #[u] W (qB k0 k1 k2 0 (cq d) W)):=AI fun W u h=>Lp rt3 tJ lM hk2 W u h
 have YN:By (n4=R.length):=AI (by rw[hR,aQ,B'];exact RA);obtain⟨a0,c0,a1,c1,a2,c2,rfl⟩:=h.form;rw[<-dw, <-fH, <-jg]at h ⊢;have H:=AI h;generalize dn (bD d) (kq (bD d))=d2 at*;generalize bD d=d1 at*;generalize uY d=d3 at*;generalize cq d=d4 at*;clear h rt rt1 rt2 rt3 dw fH jg GV RA hn5 vn rY tT hm3 uw hm5 tJ lM hk2 hR;go_enter Tryz.func62,Tryz.ntmps62;go_upto_region 1 with fail
 refine aA ?_;intro V hV;have B0:By (ar V w.heap.size #[An a0 n0 c0,An a1 n1 c1,An a2 n2 c2] 29):=AI (by rw[hV];exact(ar.new w _ _).alloc _);have R0:By (ar V (w.heap.size+1) #[An As 0 0,An As 0 0,An As 0 0] 29):=AI (by rw[hV];exact(ar.new (w.alloc _) _ _).at (by simp));have X0:By (aa w V):=AI (by rw[hV];exact(((Ext.refl w).alloc _).alloc _).below);clear hV;obtain⟨p0,p1,p2⟩:=bN.qC B0;go_wp2_with fail
 refine(CT V _ (H.below X0)).mono ?_;rintro e w1 ⟨x0,y0,x1,y1,x2,y2,rfl,ho,hx⟩;have O1:=AI ho;have B1:=AI (B0.below hx B0.lt);have R1:=AI (R0.below hx R0.lt);have X1:=AI (X0.trans (hx.mono X0.size));have hV1:w.heap.size+1<V.heap.size:=R0.lt;have hW1:V.heap.size<=w1.heap.size:=hx.size;clear ho hx p0 p1 p2 B0 R0 X0 CT;obtain⟨⟨p0,p1,p2⟩,z0,z1,z2⟩:=B1.three;go_upto_region 2 with fail
 refine aA ?_;intro V1 hV;have KV:By (ae (· ≠w.heap.size) w1 V1):=AI (by rw[hV];exact fE _ _ _ _ _);have B2:By (ar V1 w.heap.size #[An x0 n3 y0,An x1 n4 y1,An x2 n5 y2] 29):=AI (by rw[hV];exact B1.yl);clear hV p0 p1 p2 z0 z1 z2;have R2:=AI (R1.keeps KV (by omega));have O2:=AI (O1.keeps KV fun x h1 _=>by show x≠w.heap.size;omega);have X2:By (aa w V1):=AI (X1.trans (KV.mono fun x (hx:x<w.heap.size)=>by show x≠w.heap.size;omega:ae (· <w.heap.size) w1 V1).below);have hW2:w1.heap.size<=V1.heap.size:=KV.size;clear B1 R1 O1 X1 KV;obtain⟨p0,p1,p2⟩:=bN.qC B2;refine aL D0 (fun _=>False) (by kernel_rfl) 3 [0,0,2,7,15,31] (fun i=>i==2) (by kernel_rfl) (fun i=>if i=2 then aX.row V1.heap.size 3 1 n4 R else aX.any _) ?_;intro C hC hne;have HC:=AI hC;have f0:=aC hC (p:=⟨w.heap.size,0,As⟩) B2.lt (fun h=>h) p0;have f1:=aC hC (p:=⟨w.heap.size,1,As⟩) B2.lt (fun h=>h) p1;have f2:=aC hC (p:=⟨w.heap.size,2,As⟩) B2.lt (fun h=>h) p2;clear hC p0 p1 p2
 repeat (refine au (fun K hK=>?_);first | (refine cg rfl ?_;try go_simp;refine hK _ _ ?_;clear hK K) | (refine bV rfl rfl ?_;unfold aF;go_simp;refine hK _ _ ?_;clear hK K))
 refine au (fun K hK=>?_);refine ct rfl rfl (aX.row V1.heap.size 3 1 n4 R) rfl (fun W hW hN=>?_) (fun v hv=>?_)
 ·have hM:=(HC.out W).1 hW
  clear hW;go_simp;refine bI ((CB W _ (O2.below hM.below).df).mono ?_);rintro e w2 ⟨pa,pc,rfl,ho,hx⟩;exact⟨_,rfl,Move.ai hx,⟨_,_,rfl⟩,aH ho hM.size⟩
 obtain⟨pa,pc,rfl⟩:=hv;go_simp;refine hK _ _ ?_;clear hK K;refine bM (fun W hW hH=>?_);have hM:=(HC.out W).1 hW;have PR:By (W.ownsRow V1.heap.size 3 1 (An pa n4 pc) n4 R):=AI (hH _ (aw (show _=AM _ from rfl:_[0]? =AM _)));have B3:=AI (B2.below hM.below B2.lt);have R3:=AI (R2.below hM.below R2.lt);have O3:=AI (O2.below hM.below);have X3:=AI (X2.trans (hM.below.mono X2.size));have hW3:V1.heap.size<=W.heap.size:=hM.size;clear hM hW hH HC hne f0 f1 f2 B2 R2 O2 X2 CB;go_wp2_with fail
 refine(CM W _ _ O3.df (Df PR YN)).mono ?_;rintro e w3 ⟨s0,t0,s1,t1,s2,t2,rfl,ho,hx⟩;have OM:=AI ho;have B4:=AI (B3.below hx B3.lt);have R4:=AI (R3.below hx R3.lt);have X4:=AI (X3.trans (hx.mono X3.size));have KM:W.heap.size<=w3.heap.size:=hx.size;clear ho hx B3 R3 X3 O3 PR CM;go_wp2_with fail
 refine(CN W.heap.size w3 _ OM KM).mono ?_;rintro e w4 ⟨q0,r0,q1,r1,q2,r2,rfl,hd,hx⟩;have ON:=AI hd;have B5:=AI (B4.below hx B4.lt);have R5:=AI (R4.below hx R4.lt);have X5:=AI (X4.trans (hx.mono X4.size));have Zc:w3.heap.size<=w4.heap.size:=hx.size;clear hd hx B4 R4 X4 OM CN;obtain⟨⟨p0,p1,p2⟩,z0,z1,z2⟩:=B5.three;go_upto_region 3 with fail
 refine aA ?_;intro V5 hV;have KV:By (ae (· ≠w.heap.size) w4 V5):=AI (by rw[hV];exact fE _ _ _ _ _);have B6:By (ar V5 w.heap.size #[An q0 m3 r0,An q1 m4 r1,An q2 m5 r2] 29):=AI (by rw[hV];exact B5.yl);clear hV p0 p1 p2 z0 z1 z2;have R6:=AI (R5.keeps KV (by omega));have O6:=AI (ON.keeps KV fun x h1 _=>by show x≠w.heap.size;omega);have X6:By (aa w V5):=AI (X5.trans (KV.mono fun x (hx:x<w.heap.size)=>by show x≠w.heap.size;omega:ae (· <w.heap.size) w4 V5).below);have uM:w4.heap.size<=V5.heap.size:=KV.size;clear B5 R5 ON X5 KV;obtain⟨p0,p1,p2⟩:=bN.qC B6;go_wp2_with fail
 refine(CZ V5 _ O6.df).mono ?_;rintro e w5 ⟨g0,h0,g1,h1,g2,h2,rfl,ho,hx⟩;have OZ:=AI ho;have B7:=AI (B6.below hx B6.lt);have R7:=AI (R6.below hx R6.lt);have X7:=AI (X6.trans (hx.mono X6.size));have hW7:V5.heap.size<=w5.heap.size:=hx.size;clear ho hx p0 p1 p2 B6 R6 X6 O6 CZ;obtain⟨⟨p0,p1,p2⟩,z0,z1,z2⟩:=B7.three;go_upto_region 4 with fail
 refine aA ?_;intro V6 hV;have KV:By (ae (· ≠w.heap.size) w5 V6):=AI (by rw[hV];exact fE _ _ _ _ _);have B8:By (ar V6 w.heap.size #[An g0 k0 h0,An g1 k1 h1,An g2 k2 h2] 29):=AI (by rw[hV];exact B7.yl);clear hV p0 p1 p2 z0 z1 z2;have R8:=AI (R7.keeps KV (by omega));have O8:=AI (OZ.keeps KV fun x h1 _=>by show x≠w.heap.size;omega);have X8:By (aa w V6):=AI (X7.trans (KV.mono fun x (hx:x<w.heap.size)=>by show x≠w.heap.size;omega:ae (· <w.heap.size) w5 V6).below);clear B7 R7 OZ X7 KV;obtain⟨p0,p1,p2⟩:=bN.qC B8;obtain⟨⟨l0,l1,l2⟩,z0,z1,z2⟩:=R8.three;go_wp2;refine bA ?_;intro W9 gj;have E9:By (ar W9 (w.heap.size+1) #[An g0 k0 h0,An g1 k1 h1,An g2 k2 h2] 29/\ae (· ≠w.heap.size+1) V6 W9):=by
  rw[gj];exact AI ⟨R8.yl,fE _ _ _ _ _⟩
 clear gj z0 z1 z2 p0 p1 p2 l0 l1 l2;obtain⟨m0,m1,m2⟩:=bN.qC E9.1;refine Dl (v:=Ft #[An g0 k0 h0,An g1 k1 h1,An g2 k2 h2]) (by simp[results,Tryz.results62,go_sem,m0,m1,m2]) rfl ⟨g0,h0,g1,h1,g2,h2,rfl,(O8.keeps E9.2 fun x h1 _=>by show x≠_;omega).base (by omega),X8.trans (E9.2.mono fun x (hx:x<w.heap.size)=>by show x≠w.heap.size+1;omega:ae (· <w.heap.size) V6 W9).below⟩
def Gi (w:A_) (v:AF) (l:List (List (Nat×Nat×Nat))):Prop:=(∃ p c,v=An p 0 c/\l=[])\/
 ∃ b off c,v=An (AM ⟨b,off,As⟩) l.length c/\b<w.heap.size/\l.length<=c/\l≠[]/\∀ (i:Nat) (s:List (Nat×Nat×Nat)),l[i]? =AM s->s.length<=1000000000000000/\∃ u,dT w u s/\w.cell? ⟨b,off+i,As⟩=AM u
theorem Gi.below {w w':A_} {v:AF} {l:List (List (Nat×Nat×Nat))} (h:Gi w v l) (hk:aa w w'):Gi w' v l:=by
 rcases h with h | ⟨b,off,c,hv,hb,hc,hl,h⟩
 ·exact .inl h
 ·have hcell:∀ j,w'.cell? ⟨b,j,As⟩=w.cell? ⟨b,j,As⟩:=fun j=>(ae.ai hk fun _ h=>h:ae (· <w.heap.size) w w').cell (p:=⟨b,j,As⟩) hb
  refine .inr ⟨b,off,c,hv,aD hb hk.size,hc,hl,fun i s hi=>?_⟩;rw[hcell];obtain⟨h1,u,h3,h4⟩:=h i s hi;exact⟨h1,u,h3.below hk,h4⟩
def pT (w:A_) (v:AF) (l:List (List (Nat×Nat×Nat))) (fl:Nat):Prop:=∃ u,v=Ft #[u,AS .u8 fl]/\Gi w u l
theorem pT.below {w w':A_} {v:AF} {l:List (List (Nat×Nat×Nat))} {fl:Nat} (h:pT w v l fl) (hk:aa w w'):pT w' v l fl:=by obtain⟨u,h1,h2⟩:=h;exact⟨u,h1,h2.below hk⟩
theorem dT.cap {w:A_} {a:Option Addr} {n c:Nat} {l:List (Nat×Nat×Nat)} (h:dT w (An a n c) l):l.length<=c:=by
 rcases h with⟨e,rfl⟩ | ⟨ad,c',e,rfl⟩ | ⟨b,off,c',e,hb,hc,hl,h⟩
 ·exact GB _
 ·exact GB _
 ·cases e;exact hc
theorem Th {m:Nat} (h:m<256):bits .and .u8 (m:Int) 1=((m%2:Nat):Int):=by
 have h1:∀ m:Fin 256,bits .and .u8 ((m.val:Nat):Int) 1=((m.val%2:Nat):Int):=by decide+kernel
 exact h1 ⟨m,h⟩
theorem aal {fl:Nat} (pG:fl<256) (k:Nat):(bits .and .u8 ((fl:Int)/2^k) 1==1)=(fl/2^k%2==1):=by
 have h1:(fl:Int)/2^k=((fl/2^k:Nat):Int):=by simp
 rw[h1,Th (Nat.lt_of_le_of_lt (Nat.div_le_self _ _) pG)];rcases Nat.mod_two_eq_zero_or_one (fl/2^k)with h | h<;>rw[h]<;>rfl
def yo (n0 n1 n2:Nat) (ok:Bool) (d:DF) (W:A_) (e:Ending) (w':A_):Prop:=
 ∃ a0 c0 a1 c1 a2 c2,e=AT (E_ #[Ft #[An a0 n0 c0,An a1 n1 c1,An a2 n2 c2],C_ ok])/\bN W.heap.size w' (Ft #[An a0 n0 c0,An a1 n1 c1,An a2 n2 c2]) d/\aa W w'
theorem dT.JG {w:A_} {a:Option Addr} {n c m:Nat} {l:List (Nat×Nat×Nat)} (h:dT w (An a n c) l) (hm:m=min n 12):dT w (An a m c) (l.take 12):=by
 rcases h with⟨e,rfl⟩ | ⟨ad,c',e,rfl⟩ | ⟨b,off,c',e,hb,hc,hl,h⟩
 ·cases e
  obtain rfl:m=0:=by omega
  exact .inl ⟨rfl,rfl⟩
 ·cases e
  obtain rfl:m=0:=by omega
  exact .inr (.inl ⟨ad,c,rfl,rfl⟩)
 ·cases e
  have hlen:(l.take 12).length=m:=by rw[FF];omega
  refine .inr (.inr ⟨b,off,c,by rw[hlen],hb,by omega,?_,fun i s hi=>h i s ?_⟩)
  ·intro e
   have h1:=congrArg List.length e;rw[hlen]at h1;have h2:l.length≠0:=fun e=>hl (B_ e)
   have h3:m=0:=h1;omega
  ·by_cases hi2:i<12
   ·rwa[List.getElem?_take_of_lt hi2]at hi
   ·rw[aS (by rw[FF];omega)]at hi;cases hi
theorem uI (p:Option Addr) (c:Nat) (fl:Nat) (pG:fl<256) (l:List (List (Nat×Nat×Nat))) {d:DF} {code:Int} (he:lp (di l fl) 60=(d,code)) (pE:code=0->0<d.nx.length) {n0 n1 n2:Nat} (h0:n0=d.cl.length) (h1:n1=d.nx.length) (h2:n2=d.mr.length) (w:A_) (hc:l.length<=c) (iT:l.length<=1000000000000000) (hS:∀ (i:Nat) (s:List (Nat×Nat×Nat)),l[i]? =AM s->∃ b off,p=AM ⟨b,off,As⟩/\b<w.heap.size/\s.length<=1000000000000000/\∃ u,dT w u s/\w.cell? ⟨b,off+i,As⟩=AM u) (hT:∀ W,aa w W->nN W): ah 11 #[Ft #[An p l.length c,AS .u8 fl]] w (yo n0 n1 n2 (code==0) d w):=by
 obtain⟨iP,hiP,VT,VU,aam⟩:=GO Tryz.ZG;have CO:By (∀ W u,aa w W->ji W u (di l fl)->ah 61 #[u,AS Bm 60] W (qB n0 n1 n2 code d W)):=AI fun W u hW hu=>FK (xE l fl pG) he h0 h1 h2 W u hu fun V hV=>hT V (hW.trans (hV.mono hW.size))
 have km:By (code=0->0<n1):=AI fun e=>by rw[h1];exact pE e
 obtain⟨ok,JH⟩:=ag ((code==0));rw[<-JH];have adU:=AI JH;clear JH;have HS:=AI hS;obtain⟨n,hn⟩:=ag l.length;obtain⟨N,hN⟩:=ag (min n 3);have l9:min (n:Int) 3=(N:Int):=by omega
 have Fm:N<=n:=by omega
 have hN3:N<=3:=by omega
 rw[<-hn]at hc iT ⊢;have Fo:N<=c:=by omega
 have pA:=AI hn;have HN:=AI hN;clear hS hn hN he pE h0 h1 h2 hT;go_enter Tryz.func11,Tryz.ntmps11;go_upto_region 1 with fail
 refine aA ?_;intro V hV;have B0:By (ar V w.heap.size #[An p n c,AS .u8 fl] 24):=AI (by rw[hV];exact(ar.new w _ _).alloc _);have R0:By (ar V (w.heap.size+1) #[An As 0 0,An As 0 0,An As 0 0] 29):=AI (by rw[hV];exact(ar.new (w.alloc _) _ _).at (by simp));have X0:By (aa w V):=AI (by rw[hV];exact(((Ext.refl w).alloc _).alloc _).below);clear hV;have b0:V.cell? ⟨w.heap.size,0,As⟩=AM (An p n c):=B0.cell 0;go_wp2_with fail
 clear b0;go_loopw [4,19] (fun pv iv wr=>∃ k:Nat,k<=N/\iv=AS Bm k/\fh V.heap.size wr pv ((di l fl).take k)/\aa V wr) (fun _ iv _=>N-(intOf iv).toNat);case atStart=>exact⟨0,by omega,rfl,fh.nil _ _,Gz _ _⟩
 case round=>
  obtain⟨k,hk,rfl,hI,hx⟩:=hrel;obtain⟨wo,rfl⟩:=ag (wr:A_);have HI:=AI hI;have HX:=AI (X0.trans (hx.mono X0.size));have HVX:=AI hx;have BO:=AI (B0.below hx B0.lt);have RO:=AI (R0.below hx R0.lt);clear hI hx;by_cases hlt:k<N
  ·have eE:(k:Int)<N:=by omega
   obtain⟨s,hsk⟩:∃ s,l[k]? =AM s:=⟨_,az (by have:=pA.out;omega)⟩;obtain⟨b,off,rfl,hb,hs9,u,hu,c0⟩:=HS.out k _ hsk;have wc:∀ (o:Nat) (u:AF),w.cell? ⟨b,o,As⟩=AM u->wo.cell? ⟨b,o,As⟩=AM u:=fun o u h=>((ae.ai HX fun _ h=>h:ae (· <w.heap.size) w wo).cell (p:=⟨b,o,As⟩) hb).trans h
   replace c0:=wc _ _ c0;obtain⟨ua,uc,rfl⟩:=hu.form;obtain⟨sn,kS⟩:=ag s.length;obtain⟨S,hSe⟩:=ag (min sn 12);have adV:min (sn:Int) 12=(S:Int):=by omega
   have hSn:S<=sn:=by omega
   have hsc:sn<=uc:=by rw[kS];exact hu.cap
   have hSc:S<=uc:=by omega
   rw[<-kS]at hu c0;have HU:=AI (hu.JG hSe);obtain⟨m,hm⟩:=ag (((di l fl).take k).length);obtain⟨pa,pc,OP,HI2⟩:∃ pa pc,_=An pa m pc/\By (fh V.heap.size wo (An pa m pc) ((di l fl).take k)):=by
    obtain⟨pa,pc,e⟩:=HI.form;rw[<-hm]at e;exact⟨pa,pc,e,AI (e▸HI.out)⟩
   subst OP;have HM:=AI hm;have hmN:m<=3:=by rw[hm,FF];omega
   have HSK:=AI hsk;have hT9:(s.take 12).length<=1000000000000000:=by rw[FF];omega
   clear HI hm hu hsk wc kS hSe;go_wp2_with fail
   refine(Jd _ (s.take 12) hT9 wo (HU.below HX)).mono ?_;rintro e w1 ⟨t,rfl,ht,hx1⟩;have HT:=AI ht;have X1:By (aa w w1):=AI (HX.trans (hx1.mono HX.size));have V1:By (aa V w1):=AI (HVX.trans (hx1.mono HVX.size));have P1:=AI (HI2.below hx1);have B1:=AI (BO.below hx1 BO.lt);obtain⟨tp,tc,rfl⟩:=ht.form;clear ht hx1 HI2 c0 HVX BO;go_wp2_with fail
   refine(Al _ (gY (s.take 12)) w1 HT (nR _).fine (by have:=(nR (s.take 12)).size;omega) (nR _).cI).mono ?_;rintro e w2 ⟨u2,rfl,ho,hx2⟩;obtain⟨xa0,xn0,xc0,xa1,xn1,xc1,xa2,xn2,xc2,xa3,xn3,xc3,rfl⟩:=ho.form;have HO:=AI (ho.base (base':=V.heap.size) V1.size);have X2:By (aa w w2):=AI (X1.trans (hx2.mono X1.size));have V2:By (aa V w2):=AI (V1.trans (hx2.mono V1.size));have P2:=AI (P1.below hx2);have B2:=AI (B1.below hx2 B1.lt);clear ho hx2 X1 P1 HT V1 B1;go_upto_region 8 with fail
   refine aA ?_;intro V3 cX;have BN:By (ar V3 w2.heap.size #[An xa0 xn0 xc0,An xa1 xn1 xc1,An xa2 xn2 xc2,An xa3 xn3 xc3,C_ (gY (s.take 12)).nf.emp] 118):=AI (by rw[cX];exact ar.new w2 _ _);have XV3:By (aa w2 V3):=AI (by rw[cX];exact((Ext.refl w2).alloc _).below);clear cX;have B3:=AI (B2.below XV3 B2.lt);have P3:=AI (P2.below XV3);have O3:=AI (HO.below XV3);have X3:By (aa w V3):=AI (X2.trans (XV3.mono X2.size));have V3':By (aa V V3):=AI (V2.trans (XV3.mono V2.size));obtain⟨f0,f1,f2,f3,f4⟩:=BN.five;have g1:V3.cell? ⟨w.heap.size,1,As⟩=AM (AS .u8 fl):=B3.cell 1;have NI:=BN.lt;have hb3:=B3.lt;clear B2 P2 HO X2 V2 XV3;have hk3:k<3:=by omega
   obtain⟨bg,hbg⟩:=ag ((fl/2^k%2==1));obtain⟨mk,lH⟩:=ag (k*(fl/64):Nat);have Zi:qE fl k s=⟨(gY (s.take 12)).nf,bg,(mk:Int)⟩:=by rw[hbg,lH];rfl
   have HPT:=AI Zi;clear Zi;refine aL D0 (fun _=>False) (by kernel_rfl) 16 [0,0,0,4,0,28,60,124,0,0,512,1536,3584,7936,16382,32766,65535,131071] (fun i=>i==15) (by kernel_rfl) (fun i=>if i=15 then aX.rowOf 1 #[An xa0 xn0 xc0,An xa1 xn1 xc1,An xa2 xn2 xc2,An xa3 xn3 xc3,C_ (gY (s.take 12)).nf.emp,C_ bg,AS Bm mk] 124 else aX.any _) ?_;intro C hC hne;have HC:=AI hC;have e0:=aC hC (p:=⟨w2.heap.size,0,As⟩) NI (fun h=>h) f0;have e1:=aC hC (p:=⟨w2.heap.size,1,As⟩) NI (fun h=>h) f1;have e2:=aC hC (p:=⟨w2.heap.size,2,As⟩) NI (fun h=>h) f2;have e3:=aC hC (p:=⟨w2.heap.size,3,As⟩) NI (fun h=>h) f3;have e4:=aC hC (p:=⟨w2.heap.size,4,As⟩) NI (fun h=>h) f4;have r1:=aC hC (p:=⟨w.heap.size,1,As⟩) hb3 (fun h=>h) g1;clear hC g1 f0 f1 f2 f3 f4
   repeat (refine au (fun K hK=>?_);first | (refine cg rfl ?_;try go_simp;refine hK _ _ ?_;clear hK K) | (refine bV rfl rfl ?_;unfold aF;go_simp;refine hK _ _ ?_;clear hK K))
   have fb:=aal pG k;rw[<-hbg]at fb;have fq:((fl:Int)/2^6)=((fl/64:Nat):Int):=by simp
   have hfm:fl/64<=3:=by omega
   have hfk:k*(fl/64)<=2*3:=Nat.mul_le_mul (by omega) hfm;have fw:Bm.wrap ((fl/64:Nat):Int)=((fl/64:Nat):Int):=IntWalk.i64_in _ (by omega);have fm:Bm.wrap ((k:Int)*Bm.wrap ((fl:Int)/64))=(mk:Int):=by rw[show((fl:Int)/64)=((fl/64:Nat):Int) by simp,fw,show(k:Int)*((fl/64:Nat):Int)=((k*(fl/64):Nat):Int) by simp, <-lH];exact IntWalk.i64_in _ (by omega)
   have fm2:Bm.wrap ((k:Int)*Bm.wrap ((fl:Int)/2^6))=(mk:Int):=fm;clear fq fw hbg lH;refine au (fun K hK=>?_);refine ct rfl rfl (aX.rowOf 1 #[An xa0 xn0 xc0,An xa1 xn1 xc1,An xa2 xn2 xc2,An xa3 xn3 xc3,C_ (gY (s.take 12)).nf.emp,C_ bg,AS Bm mk] 124) rfl (fun W hW hN=>?_) (fun v hv=>?_)
   ·clear hW hK K hN
    refine Eo 115 124 (.tmp 51) rfl GS hiP VT VU (by decide) (by decide) #[An xa0 xn0 xc0,An xa1 xn1 xc1,An xa2 xn2 xc2,An xa3 xn3 xc3,C_ (gY (s.take 12)).nf.emp,C_ bg,AS Bm mk] (by simp[Act.eval,fb,fm]) rfl ?_;exact⟨Move.ai ((Ext.refl _).alloc _).below,⟨_,rfl⟩,fun b hb=>by cases hb;exact ar.new _ _ _⟩
   obtain⟨bl,rfl⟩:=hv;go_simp;refine hK _ _ ?_;clear hK K;refine bM (fun W4 hW hH=>?_);have hM:=(HC.out W4).1 hW;have B4:By (ar W4 bl #[An xa0 xn0 xc0,An xa1 xn1 xc1,An xa2 xn2 xc2,An xa3 xn3 xc3,C_ (gY (s.take 12)).nf.emp,C_ bg,AS Bm mk] 124):=AI (hH _ (aw (show _=AM _ from rfl:_[0]? =AM _)) bl rfl);have E4:By (aa V3 W4):=AI hM.below;clear hM hW hH HC fb fm fm2 e0 e1 e2 e3 e4 r1;have X4:By (aa w W4):=AI (X3.trans (E4.mono X3.size));have V4:By (aa V W4):=AI (V3'.trans (E4.mono V3'.size));have P4:=AI (P3.below E4);have O4:=AI (O3.below E4);have aiL:V.heap.size<=W4.heap.size:=V4.size;clear P3 E4 O3 BN B3 X3 V3';obtain⟨cs,g1,g2⟩:=P4.out;rw[<-HM.out]at g1;have G1:=AI g1;have G2:=AI g2;clear g1 g2 P4
   go_wp2_with (at_builtin;refine wpList_append_own_at _ rfl (.tmp 37) (.tmp 52) 115 rfl V.heap.size 124 iP (Ft #[An As 0 0,An As 0 0,An As 0 0,An As 0 0,C_ D0,C_ D0,AS Bm 0]) 7 120 GS hiP VT VU aam rfl (by decide) _ _ _ rfl G1 ⟨bl,0,As⟩ 1 1 [An xa0 xn0 xc0,An xa1 xn1 xc1,An xa2 xn2 xc2,An xa3 xn3 xc3,C_ (gY (s.take 12)).nf.emp,C_ bg,AS Bm mk] rfl rfl (cO B4) (by
    intro u hu;simp only[List.mem_cons,List.not_mem_nil,or_false]at hu
    rcases hu with rfl | rfl | rfl | rfl | rfl | rfl | rfl<;>rfl) (by unfold maxLen;omega) (by omega) aiL ?_;intro v' w5 hown' hgrow hh hat;obtain⟨pa3,pc3,rfl⟩:=ownsRow_form hown';have Jk:=AI hown';have HG5:=AI hgrow;clear hown' hgrow hh hat)
   have P5:By (fh V.heap.size w5 (An pa3 (m+1) pc3) ((di l fl).take k++ [qE fl k s])):=AI (fh.more (by rw[<-HM.out];exact G1) G2 O4 HG5 (by rw[<-HM.out,HPT.out];exact Jk));have X5:By (aa V w5):=AI (V4.trans ((Gz _ _).grown HG5 V4.size (fun c e=>(G1.lt c e).1)));clear Jk HG5;go_roundw;case rel=>
    refine⟨k+1,by omega,by go_num,?_,X5⟩;rw[CG HSK.out hk3];exact P5
   case measure=>simp[intOf];omega
  ·obtain rfl:k=N:=by omega
   have Il:¬ ((k:Int)<k):=by omega
   have G6:By (fh V.heap.size wo _ (di l fl)):=AI (by
    have h5:=HI.out;rw[Dn (by rw[uD];have:=HN.out;have:=pA.out;omega)]at h5
    exact h5)
   clear HI;obtain⟨pa,pc,rfl⟩:=G6.form;go_wp2_with fail
   refine(CO wo _ HX G6.pts).mono ?_;rintro e w5 ⟨a0,c0,a1,c1,a2,c2,rfl,ho,hx⟩;have O5:=AI ho;have R5:=AI (RO.below hx RO.lt);have X5:=AI (HX.trans (hx.mono HX.size));have hsO:w.heap.size+1<wo.heap.size:=RO.lt;clear ho hx CO;go_upto_region 11 with fail
   refine aA ?_;intro V6 hV;obtain⟨db,hdb⟩:=ag w5.heap.size;have D6:By (ar V6 db #[An a0 n0 c0,An a1 n1 c1,An a2 n2 c2] 29):=AI (by rw[hV,hdb];exact ar.new w5 _ _);have uX:aa w5 V6:=by rw[hV];exact((Ext.refl _).alloc _).below
   have O6:=AI (O5.below uX);have R6:=AI (R5.below uX R5.lt);have X6:=AI (X5.trans (uX.mono X5.size));have hdr:w.heap.size+1<db:=by rw[hdb];exact R5.lt
   rw[<-hdb];have q0:V6.cell? ⟨db,0,As⟩=AM (An a0 n0 c0):=D6.cell 0;have q1:V6.cell? ⟨db,1,As⟩=AM (An a1 n1 c1):=D6.cell 1;have q2:V6.cell? ⟨db,2,As⟩=AM (An a2 n2 c2):=D6.cell 2;clear hV uX O5 R5 X5 hdb;have aan:=D6.lt;have HF:By (∃ c,ar V6 (w.heap.size+1) c 29/\c.size=(#[An a0 n0 c0,An a1 n1 c1,An a2 n2 c2]:Array AF).size):=AI ⟨_,R6,rfl⟩;have JH:=adU.out;have hn:ok=H_->decide ((0:Int)<n1)=true:=fun e=>by
    rw[JH]at e;have:=km.out (by simpa using e);exact decide_eq_true (by omega)
   have HN9:=AI hn;have alE:((code:Int)==0)=ok:=JH.symm;clear hn JH adU;refine bL (iU (w.heap.size+1) 29 #[An a0 n0 c0,An a1 n1 c1,An a2 n2 c2]) (iU.drew _ _ _ _) (fun _ _ _ h k=>h.trans k) (by kernel_rfl) 10 [0,0,2,6,14,30,62,126,254,15,1023] (fun i=>i==9) (by kernel_rfl) (fun i=>if i=9 then aX.wrote (w.heap.size+1) 29 #[An a0 n0 c0,An a1 n1 c1,An a2 n2 c2]else aX.any _) ?_;intro C hC _;have HC:=AI hC;have k0:∀ W: {W//C W},W.1.cell? ⟨db,0,As⟩=AM (An a0 n0 c0):=fun W=>(((hC W.1).1 W.2).keeps.cell (p:=⟨db,0,As⟩) ⟨aan,by show ¬db=_;omega⟩).trans q0
   have k1:∀ W: {W//C W},W.1.cell? ⟨db,1,As⟩=AM (An a1 n1 c1):=fun W=>(((hC W.1).1 W.2).keeps.cell (p:=⟨db,1,As⟩) ⟨aan,by show ¬db=_;omega⟩).trans q1
   have k2:∀ W: {W//C W},W.1.cell? ⟨db,2,As⟩=AM (An a2 n2 c2):=fun W=>(((hC W.1).1 W.2).keeps.cell (p:=⟨db,2,As⟩) ⟨aan,by show ¬db=_;omega⟩).trans q2
   clear hC q0 q1 q2;cases ok with
   | false=>
    repeat (refine au (fun K hK=>?_);first | (refine cg rfl ?_;try go_simp;refine hK _ _ ?_;clear hK K) | (refine bV rfl rfl ?_;unfold aF;go_simp;refine hK _ _ ?_;clear hK K))
    refine au (fun K hK=>?_);refine ct rfl rfl (aX.wrote (w.heap.size+1) 29 #[An a0 n0 c0,An a1 n1 c1,An a2 n2 c2]) rfl (fun W hW hN=>?_) (fun v hv=>?_)
    ·have hM:=(HC.out W).1 hW
     obtain⟨c,hb,hcs⟩:=hM.old HF;obtain⟨x0,x1,x2,rfl⟩:∃ x0 x1 x2,c= #[x0,x1,x2]:=by
      have h4:c.toList.length=3:=by rw[F_,hcs];rfl
      match hc:c.toList,h4 with
      | [x0,x1,x2],_=>exact⟨x0,x1,x2,by rw[<-GH (xs:=c),hc]⟩
     have HB:=AI hb;obtain⟨⟨y0,y1,y2⟩,z0,z1,z2⟩:=hb.three;clear hW hN hK K hb hcs hM;go_simp;exact⟨iU.store ⟨(fE _ _ _ _ _).mono fun _ h=>h.2,fun h=>by cases h⟩ HB.yl,trivial,HB.yl⟩
    go_simp;refine hK _ _ ?_;clear hK K hv
    repeat (refine au (fun K hK=>?_);first | (refine cg rfl ?_;try go_simp;refine hK _ _ ?_;clear hK K) | (refine bV rfl rfl ?_;unfold aF;go_simp;refine hK _ _ ?_;clear hK K))
    refine bM (fun w9 hW hH=>?_);have hM:=(HC.out w9).1 hW;have H4:By (ar w9 (w.heap.size+1) #[An a0 n0 c0,An a1 n1 c1,An a2 n2 c2] 29):=hH _ (aY ..);have K9:By (ae (fun k=>k<V6.heap.size/\¬k=w.heap.size+1) V6 w9):=AI hM.keeps;clear hM hW hH HC HF k0 k1 k2;go_wp2;obtain⟨m0,m1,m2⟩:=bN.qC (H4.out:ar w9 (w.heap.size+1) #[An a0 n0 c0,An a1 n1 c1,An a2 n2 c2] 29);refine Dl (v:=E_ #[Ft #[An a0 n0 c0,An a1 n1 c1,An a2 n2 c2],C_ D0]) (by simp[results,Is,go_sem,m0,m1,m2]) rfl ⟨a0,c0,a1,c1,a2,c2,rfl,(O6.keeps K9 fun x h1 h2=>⟨h2,by omega⟩).base (by omega),X6.trans (K9.mono fun x (hx:x<w.heap.size)=>⟨by have:=X6.size;omega,by omega⟩:ae (· <w.heap.size) V6 w9).below⟩
   | true=>
    have d1:=HN9.out rfl;have d2:0<n1:=by have:=of_decide_eq_true d1;omega
    repeat (refine au (fun K hK=>?_);first | (refine cg rfl ?_;try go_simp;refine hK _ _ ?_;clear hK K) | (refine bV rfl rfl ?_;unfold aF;go_simp;refine hK _ _ ?_;clear hK K))
    refine au (fun K hK=>?_);refine ct rfl rfl (aX.wrote (w.heap.size+1) 29 #[An a0 n0 c0,An a1 n1 c1,An a2 n2 c2]) rfl (fun W hW hN=>?_) (fun v hv=>?_)
    ·have hM:=(HC.out W).1 hW
     obtain⟨c,hb,hcs⟩:=hM.old HF;obtain⟨x0,x1,x2,rfl⟩:∃ x0 x1 x2,c= #[x0,x1,x2]:=by
      have h4:c.toList.length=3:=by rw[F_,hcs];rfl
      match hc:c.toList,h4 with
      | [x0,x1,x2],_=>exact⟨x0,x1,x2,by rw[<-GH (xs:=c),hc]⟩
     have HB:=AI hb;obtain⟨⟨y0,y1,y2⟩,z0,z1,z2⟩:=hb.three;clear hW hN hK K hb hcs hM;go_simp;exact⟨iU.store ⟨(fE _ _ _ _ _).mono fun _ h=>h.2,fun h=>by cases h⟩ HB.yl,trivial,HB.yl⟩
    go_simp;refine hK _ _ ?_;clear hK K hv
    repeat (refine au (fun K hK=>?_);first | (refine cg rfl ?_;try go_simp;refine hK _ _ ?_;clear hK K) | (refine bV rfl rfl ?_;unfold aF;go_simp;refine hK _ _ ?_;clear hK K))
    refine bM (fun w9 hW hH=>?_);have hM:=(HC.out w9).1 hW;have H4:By (ar w9 (w.heap.size+1) #[An a0 n0 c0,An a1 n1 c1,An a2 n2 c2] 29):=hH _ (aY ..);have K9:By (ae (fun k=>k<V6.heap.size/\¬k=w.heap.size+1) V6 w9):=AI hM.keeps;clear hM hW hH HC HF k0 k1 k2;go_wp2;obtain⟨m0,m1,m2⟩:=bN.qC (H4.out:ar w9 (w.heap.size+1) #[An a0 n0 c0,An a1 n1 c1,An a2 n2 c2] 29);refine Dl (v:=E_ #[Ft #[An a0 n0 c0,An a1 n1 c1,An a2 n2 c2],C_ H_]) (by simp[results,Is,go_sem,m0,m1,m2]) rfl ⟨a0,c0,a1,c1,a2,c2,rfl,(O6.keeps K9 fun x h1 h2=>⟨h2,by omega⟩).base (by omega),X6.trans (K9.mono fun x (hx:x<w.heap.size)=>⟨by have:=X6.size;omega,by omega⟩:ae (· <w.heap.size) V6 w9).below⟩
theorem yq (v:AF) (fl:Nat) (pG:fl<256) (l:List (List (Nat×Nat×Nat))) (iT:l.length<=1000000000000000) {d:DF} {code:Int} (he:lp (di l fl) 60=(d,code)) (pE:code=0->0<d.nx.length) {n0 n1 n2:Nat} (h0:n0=d.cl.length) (h1:n1=d.nx.length) (h2:n2=d.mr.length) (w:A_) (h:pT w v l fl) (hT:∀ W,aa w W->nN W): ah 11 #[v] w (yo n0 n1 n2 (code==0) d w):=by
 obtain⟨u,rfl,h⟩:=h;rcases h with⟨p,c,rfl,rfl⟩ | ⟨b,off,c,rfl,hb,hc,_,h⟩
 ·exact uI p c fl pG [] he pE h0 h1 h2 w (GB _) iT (fun i s hs=>by simp at hs) hT
 ·exact uI _ c fl pG l he pE h0 h1 h2 w hc iT (fun i s hs=>⟨b,off,rfl,hb,h i s hs⟩) hT
end
section
open Go Go.RowKit
set_option maxRecDepth 100000
theorem Tj {a b:DF} (ha:Rt a) (hb:Rt b):cq a=cq b↔cB a b (0,0)=none:=by
 rw[NW ha hb];constructor
 ·intro h
  cases e:cB a b (0,0)with
  | none=>rfl
  | some w=>
   have f:=kE ha hb e;exact absurd (h w f.TQ) (of_decide_eq_true f.ok)
 ·intro e w hw
  exact nZ ha hb (p:=(0,0)) ⟨ha.pos,hb.pos⟩ e hw
theorem JI {a b:DF} (ha:Rt a) (hb:Rt b) {s:List Nat} (hs:∀ c∈s,c<256) (h:a.mr.getD (bG a 0 s) []≠b.mr.getD (bG b 0 s) []):∃ w,cB a b (0,0)=AM w/\qI (fun w=>qK a b (bG a 0 w,bG b 0 w)) w/\w.length<=s.length/\(s.length=w.length->∀ j x y,s.take j=w.take j->s[j]? =AM x->w[j]? =AM y->y<=x):=by
 cases e:cB a b (0,0)with
 | none=>exact absurd (nZ ha hb (p:=(0,0)) ⟨ha.pos,hb.pos⟩ e hs) h
 | some w=>
  have f:=kE ha hb e;have hp:qK a b (bG a 0 s,bG b 0 s)=true:=decide_eq_true h;exact⟨w,rfl,f,f.short s hs hp,fun hl=>f.lex s hs hp hl⟩
def yr (a b:DF) (P:List BS) (p:Nat×Nat) (k:Nat):Nat×Nat:=(en a p.1 (cls a.cl (lb P k)),en b p.2 (cls b.cl (lb P k)))
def vy (a b:DF) (P:List BS) (p:Nat×Nat):Nat->Nat->Option (List Nat)
 | 0,_=>As
 | f+1,i=>match(dp (yr a b P) (lb P) P.length p i)[i]? with
  | none=>As
  | some x=>if qK a b x.1 then AM x.2 else vy a b P p f (i+1)
theorem AH {a b:DF} {P:List BS} (hP:partsOf (a.cl++b.cl)=P) (p:Nat×Nat):∀ f i,ib a b p f i=vy a b P p f i
 | 0,_=>rfl
 | f+1,i=>by
  have ih:=AH hP p f (i+1);have e:cm a b p i=dp (yr a b P) (lb P) P.length p i:=by
   unfold cm;have e2:rI a b=yr a b P:=by
    funext p k
    unfold rI yr;rw[hP]
   rw[e2,hP]
  rw[ib,vy,e,ih];cases (dp (yr a b P) (lb P) P.length p i)[i]? <;>rfl
theorem Oe {a b:DF} {P:List BS} (hP:partsOf (a.cl++b.cl)=P) (p:Nat×Nat):cB a b p=vy a b P p (a.nx.length*b.nx.length+1) 0:=AH hP p _ _
def kH:DF:=⟨[BitVec.allOnes 256],[[1],[0],[3],[2]],[[],[0],[],[0]]⟩
theorem Tk:(DH 4).map (kq kH)=[0,1,0,1]:=by kernel_rfl
end
section
open Go Go.RowKit Go.Shelf Go.Maps
open Go.ChangeMaps (setBlock heap_setBlock_same)
def pD:Nat->List (AF×AF)->List MapEntry
 | _,[]=>[]
 | n,p::l=>⟨p.1,p.2,n⟩::pD (n+1) l
theorem om:∀ (l:List (AF×AF)) (n i:Nat),(pD n l)[i]? =(l[i]?).map fun p=>⟨p.1,p.2,n+i⟩
 | [],_,_=>by simp[pD]
 | p::l,n,0=>by simp[pD]
 | p::l,n,i+1=>by
  simp only[pD,DQ,om l];rw[show n+1+i=n+(i+1) by omega]
theorem uJ:∀ (l:List (AF×AF)) (n:Nat) (q:AF×AF),pD n (l++ [q])=pD n l++ [⟨q.1,q.2,n+l.length⟩]
 | [],n,q=>by simp[pD]
 | p::l,n,q=>by
  simp only[List.cons_append,pD,uJ l,List.length_cons];rw[show n+1+l.length=n+(l.length+1) by omega]
def qN (w:A_) (b:Nat) (l:List (AF×AF)):Prop:=w.heap[b]? =AM (.map (pD 0 l).toArray l.length)
theorem qN.keeps {w w':A_} {b:Nat} {l:List (AF×AF)} (h:qN w b l) {R:Nat->Prop} (hk:ae R w w') (hb:R b):qN w' b l:=(hk.keep b hb).trans h
theorem qN.lt {w:A_} {b:Nat} {l:List (AF×AF)} (h:qN w b l):b<w.heap.size:=(Array.getElem?_eq_some_iff.1 h).1
theorem qN.below {w w':A_} {b:Nat} {l:List (AF×AF)} (h:qN w b l) (hk:aa w w'):qN w' b l:=(hk.block b h.lt).trans h
theorem Gj {kt:H'} {l:List (AF×AF)} (hl:∀ p∈l,∃ k,keyOf AN kt p.1=AM k):∀ e∈pD 0 l,∃ k,keyOf AN kt e.key=AM k:=fun e he=>by
 obtain⟨i,hi⟩:=C'.1 he;rw[om]at hi;obtain⟨p,hp,rfl⟩:=D_.1 hi;exact hl p (aw hp)
theorem Lr {mt kt vt:H'} (K:Keyed AN kt) (hu:AN.underlying mt=AM (.map kt vt)) {w:A_} {z:AF} (hz:(zeroValue vt).run AN w=.ok z w) {b:Nat} {l:List (AF×AF)} (h:qN w b l) (hl:∀ p∈l,∃ k,keyOf AN kt p.1=AM k) (q:AF) (hq:∃ k,keyOf AN kt q=AM k): ((∀ p∈l,p.1≠q)/\(Bs mt (.map (AM b)) q H_).run AN w=.ok (E_ #[z,C_ D0]) w/\(Bs mt (.map (AM b)) q D0).run AN w=.ok z w)\/ (∃ (i:Nat) (v:AF),l[i]? =AM (q,v)/\(Bs mt (.map (AM b)) q H_).run AN w=.ok (E_ #[v,C_ H_]) w/\(Bs mt (.map (AM b)) q D0).run AN w=.ok v w):=by
 obtain⟨kl,hk⟩:=hq;have hb:w.heap[b]? =AM (.map (pD 0 l).toArray l.length):=h;rcases K.find w hk (pD 0 l) (Gj hl)with⟨f1,f2⟩ | ⟨j,e0,f1,f2,f3⟩
 ·refine .inl ⟨fun p hp e=>?_,?_,?_⟩
  ·obtain⟨i,hi⟩:=C'.1 hp
   have:=om l 0 i;rw[hi]at this;exact f2 _ (aw this) e
  ·simp[Bs,D' hu,Cd hb,K.check w _ hk,f1,hz,EV]
  ·simp[Bs,D' hu,Cd hb,K.check w _ hk,f1,hz,EV]
 ·rw[om]at f2
  obtain⟨p,hp,rfl⟩:=D_.1 f2;obtain⟨p1,p2⟩:=p;cases f3;refine .inr ⟨j,p2,hp,?_,?_⟩
  ·simp[Bs,D' hu,Cd hb,K.check w _ hk,f1,EV]
  ·simp[Bs,D' hu,Cd hb,K.check w _ hk,f1,EV]
theorem Tl {mt kt vt:H'} (K:Keyed AN kt) (hu:AN.underlying mt=AM (.map kt vt)) {w:A_} {b:Nat} {l:List (AF×AF)} (h:qN w b l) (hl:∀ p∈l,∃ k,keyOf AN kt p.1=AM k) (q:AF) (hq:∃ k,keyOf AN kt q=AM k) (hno:∀ p∈l,p.1≠q) (v:AF): ∃ w',(If mt (.map (AM b)) q v).run AN w=.ok () w'/\qN w' b (l++ [(q,v)])/\ae (· ≠b) w w'/\w'.heap.size=w.heap.size:=by
 obtain⟨kl,hk⟩:=hq;have hb:w.heap[b]? =AM (.map (pD 0 l).toArray l.length):=h;rcases K.find w hk (pD 0 l) (Gj hl)with⟨f1,f2⟩ | ⟨j,e0,f1,f2,f3⟩
 ·refine⟨setBlock w b (.map (pD 0 (l++ [(q,v)])).toArray (l++ [(q,v)]).length),?_,heap_setBlock_same hb _,⟨rfl,rfl,rfl,by simp[setBlock],fun i hi=>by show(w.heap.setIfInBounds b _)[i]? =_;exact Array.getElem?_setIfInBounds_ne (Ne.symm hi)⟩,by simp[setBlock]⟩
  rw[uJ];simp[If,D' hu,Cd hb,K.check w D0 hk,f1,MapKept.run_setObj_map _ hb,EV,setBlock]
 ·rw[om]at f2
  obtain⟨p,hp,rfl⟩:=D_.1 f2;exact absurd f3 (hno p (aw hp))
theorem Tryz.adW:(133:H')<AN.types.size:=of_decide_eq_true (by kernel_rfl)
theorem Tryz.aao:(match AN.underlying 133 with | some (.array _ _) | some (.struct _)=>H_ | _=>D0)=true:=by kernel_rfl
theorem Tryz.vz:Keyed AN 133:=Keyed.of_law (deep_law_laid Tryz.laidOut (m:=2) (by omega) Tryz.adW (by kernel_rfl) Tryz.aao)
theorem Tryz.Og:AN.keyType 133=true:=by kernel_rfl
theorem Tryz.Ls:AN.cellsOf 133=2:=by kernel_rfl
theorem Gk (p:Nat×Nat) (h1:p.1<=4000) (h2:p.2<=4000):∃ l,keyOf AN 133 (eu p)=AM l:=by
 obtain⟨n,hn⟩:=Tryz.Qm;have hf:(eu p).formed AN 133=true:=by simp[eu,Value.formed,GA,Tryz.Ls]
 unfold keyOf;rw[GA];simp only[Tryz.Og,hf,Bool.and_self,if_true];have hk:∃ ls,AN.keyLits (AN.types.size+1) 133 (eu p).cells.toList=AM ls:=by
  rw[hn];unfold Program.keyLits;rw[GA];simp[eu,Value.cells,Tryz.Ls,Tryz.Ql,Yy,h1,h2]
 obtain⟨ls,h⟩:=hk;rw[h];exact⟨_,rfl⟩
def yt (n0 K:Nat) (L1:List AF) (c:AF):Nat->AF->A_->Prop
 | 0,v,W=>W.ownsRow n0 5 1 v K L1
 | 1,v,W=>W.ownsRow n0 5 1 v (K+1) (L1++ [c])
 | 2,v,W=>∀ b,v=An (AM ⟨b,0,As⟩) 1 1->ar W b #[c] 5
 | _,_,_=>True
theorem oZ (n0 K:Nat) (L1:List AF) (c:AF):∀ i v A B,aa A B->yt n0 K L1 c i v A->yt n0 K L1 c i v B
 | 0,_,_,_,hb,h=>ak (show Iv _ _ _ _ _ _ _ from h) hb
 | 1,_,_,_,hb,h=>ak (show Iv _ _ _ _ _ _ _ from h) hb
 | 2,_,_,_,hb,h=>fun b e=>(h b e).below hb (h b e).lt
 | _+3,_,_,_,_,_=>trivial
theorem Dg {n0 K g cap:Nat} {L1:List AF} {c:AF} {W W':A_} (ho:W.ownsRow n0 5 1 (An (AM ⟨g,0,As⟩) K cap) K L1) (GJ:W'.ownsRow n0 5 1 (An (AM ⟨g,0,As⟩) (K+1) cap) (K+1) (L1++ [c])) (hg:W.grownBy W' (AM g)):∀ i v,yt n0 K L1 c i v W->yt n0 K L1 c i v W'
 | 0,v,h=>by
  have:=rF (Kb:=1) (L2:=[c]) (by decide) ho GJ hg 0 v h;exact this
 | 1,v,h=>by
  have:=rF (Kb:=1) (L2:=[c]) (by decide) ho GJ hg 1 v h;exact this
 | 2,v,h=>fun b e=>by
  have hb:=h b e;by_cases e2:b=g
  ·subst e2
   rcases ho.2 with⟨h1,_⟩ | ⟨g1,c1,agz,h1,_,f1,_,_,s1,_⟩
   ·cases h1
   ·cases h1
    rcases GJ.2 with⟨h2,_⟩ | ⟨g2,c2,UE,h2,_,f2,k2,_,s2,t2⟩
    ·cases h2
    ·cases h2
     unfold ar at hb;rw[hb]at f1;cases f1;have hc1:cap=1:=by simpa using s1.symm
     subst hc1;have hK:K=0:=by omega
     subst hK;have hL:L1=[]:=B_ (by have:=ho.1;omega);subst hL;have e3:UE= #[c]:=by
      apply Array.toList_inj.1;have e4:UE.toList.length=1:=by rw[F_];omega
      have t3:UE.toList.take 1=[c]:=by simpa using t2
      rw[Dn (by omega)]at t3;exact t3
     unfold ar;rw[f2,e3]
  ·unfold ar
   rw[hg.block b hb.lt (fun e3=>e2 (by cases e3;rfl))];exact hb
 | _+3,_,_=>trivial
theorem JL {a b:DF} (ra:Rt a) (rb:Rt b) (s t c:Nat) (hs:s<a.nx.length) (ht:t<b.nx.length) (hc:c<256) (ab xb bb yb xa ya base base':Nat) (va vb:AF) (W:A_) (h1:W.cell? ⟨ab,1,As⟩=AM va) (h2:iZ W va a.nx) (h3:W.cell? ⟨bb,1,As⟩=AM vb) (h4:iZ W vb b.nx) (h5:W.cell? ⟨xb,0,As⟩=AM (DE (AM ⟨xa,0,As⟩))) (h6:cQ W base (DE (AM ⟨xa,0,As⟩)) a.cl) (h7:W.cell? ⟨yb,0,As⟩=AM (DE (AM ⟨ya,0,As⟩))) (h8:cQ W base' (DE (AM ⟨ya,0,As⟩)) b.cl): ah 122 #[Ft #[AS Bm s,AS Bm t],AS .u8 c,DE (AM ⟨ab,0,As⟩),DE (AM ⟨xb,0,As⟩),DE (AM ⟨bb,0,As⟩),DE (AM ⟨yb,0,As⟩)] W fun e w'=>e=AT (Ft #[AS Bm (en a s (cls a.cl c):Nat),AS Bm (en b t (cls b.cl c):Nat)])/\aa W w':=by
 have hka:cls a.cl c<a.cl.length:=ra.part.dB hc;have hkb:cls b.cl c<b.cl.length:=rb.part.dB hc;obtain⟨e1,e2⟩:=tG ra hs hka;obtain⟨e3,e4⟩:=tG rb ht hkb;obtain⟨a1,c1,rfl⟩:=h2.form;obtain⟨b1,d1,rfl⟩:=h4.form;obtain⟨g1,o1,ad1,cp1,rfl,hg1,hc1,vG⟩:=h2.elem (i:=s) (l:=a.nx.getD s []) (aW [] hs);obtain⟨g2,o2,Xq,Xr,rfl,hg2,hc2,hl2⟩:=h4.elem (i:=t) (l:=b.nx.getD t []) (aW [] ht);obtain⟨g3,o3,rfl,hg3,hc3⟩:=vG.elem e2;obtain⟨g4,o4,rfl,hg4,hc4⟩:=hl2.elem e4;rw[ra.len s hs]at hc1;rw[rb.len t ht]at hc2;obtain⟨k,hk⟩:=ag (cls a.cl c);obtain⟨l,hl⟩:=ag (cls b.cl c);obtain⟨x,hx⟩:=ag (en a s (cls a.cl c));obtain⟨y,hy⟩:=ag (en b t (cls b.cl c));obtain⟨n0,dw⟩:=ag a.cl.length;obtain⟨n1,fH⟩:=ag a.nx.length;obtain⟨m0,vn⟩:=ag b.cl.length;obtain⟨m1,rY⟩:=ag b.nx.length;replace hc3:W.cell? ⟨g3,o3+cls a.cl c,As⟩=AM (AS Bm (en a s (cls a.cl c):Nat)):=hc3;replace hc4:W.cell? ⟨g4,o4+cls b.cl c,As⟩=AM (AS Bm (en b t (cls b.cl c):Nat)):=hc4;rw[<-hx, <-hk]at hc3;rw[<-hy, <-hl]at hc4;rw[<-hx, <-hy];rw[<-dw]at hc1 hka;rw[<-vn]at hc2 hkb;rw[<-fH]at h1 hs;rw[<-rY]at h3 ht;rw[<-hk]at hka;rw[<-hl]at hkb;have CA:By (∀ W',aa W W'->ah 123 #[DE (AM ⟨xa,0,As⟩),AS .u8 c] W' fun e w'=>e=AT (AS Bm k)/\w'=W'):=AI fun W' hW=>by rw[hk];exact zG _ base a.cl c hc W' (h6.below hW)
 have CB:By (∀ W',aa W W'->ah 123 #[DE (AM ⟨ya,0,As⟩),AS .u8 c] W' fun e w'=>e=AT (AS Bm l)/\w'=W'):=AI fun W' hW=>by rw[hl];exact zG _ base' b.cl c hc W' (h8.below hW)
 have GI:(s:Int)<n1:=by omega
 have hti:(t:Int)<m1:=by omega
 have eE:(k:Int)<n0:=by omega
 have hli:(l:Int)<m0:=by omega
 have l1:ab<W.heap.size:=Dm _ _ h1;have l3:bb<W.heap.size:=Dm _ _ h3;have l5:xb<W.heap.size:=Dm _ _ h5;have l7:yb<W.heap.size:=Dm _ _ h7;clear h2 h4 h6 h8 e1 e2 e3 e4 vG hl2 hk hl hx hy dw fH vn rY ra rb;go_enter Tryz.func122,Tryz.ntmps122;go_upto_region 1 with fail
 refine aA ?_;intro V hV;have P0:By (ar V W.heap.size #[AS Bm s,AS Bm t] 133):=AI (by rw[hV];exact(ar.new W _ _).alloc _);have R0:By (ar V (W.heap.size+1) #[AS Bm 0,AS Bm 0] 133):=AI (by rw[hV];exact(ar.new (W.alloc _) _ _).at (by simp));have X0:By (aa W V):=AI (by rw[hV];exact(((Ext.refl W).alloc _).alloc _).below);clear hV;have uz:∀ b o u,b<W.heap.size->W.cell? ⟨b,o,As⟩=AM u->V.cell? ⟨b,o,As⟩=AM u:=fun b o u hb h=>((ae.ai X0 fun _ h=>h:ae (· <W.heap.size) W V).cell (p:=⟨b,o,As⟩) hb).trans h
 have hWV:W.heap.size<=V.heap.size:=X0.size;replace h1:=uz _ _ _ l1 h1;replace h3:=uz _ _ _ l3 h3;replace h5:=uz _ _ _ l5 h5;replace h7:=uz _ _ _ l7 h7;replace hc1:=uz _ _ _ hg1 hc1;replace hc2:=uz _ _ _ hg2 hc2;replace hc3:=uz _ _ _ hg3 hc3;replace hc4:=uz _ _ _ hg4 hc4;have p0:V.cell? ⟨W.heap.size,0,As⟩=AM (AS Bm s):=P0.cell 0;have p1:V.cell? ⟨W.heap.size,1,As⟩=AM (AS Bm t):=P0.cell 1;clear uz;refine aL D0 (fun _=>False) (by kernel_rfl) 22 [0,1,0,4,15,31,0,0,192,511,1023,0,2048,0,8192,30720,63488,0,0,393664,1046976,2095552,4194303,8388607] (fun i=>i==8 || i==19) (by kernel_rfl) (fun i=>if i=8 then aX.yw _ (AS Bm k)else if i=19 then aX.yw _ (AS Bm l)else aX.any _) ?_;intro C hC hne;have HC:=AI hC;have f1:=aC hC (p:=⟨ab,1,As⟩) (by show ab<V.heap.size;omega) (fun h=>h) h1;have f2:=aC hC (p:=⟨g1,o1+s,As⟩) (by show g1<V.heap.size;omega) (fun h=>h) hc1;have f3:=aC hC (p:=⟨g3,o3+k,As⟩) (by show g3<V.heap.size;omega) (fun h=>h) hc3;have f4:=aC hC (p:=⟨bb,1,As⟩) (by show bb<V.heap.size;omega) (fun h=>h) h3;have f5:=aC hC (p:=⟨g2,o2+t,As⟩) (by show g2<V.heap.size;omega) (fun h=>h) hc2;have f6:=aC hC (p:=⟨g4,o4+l,As⟩) (by show g4<V.heap.size;omega) (fun h=>h) hc4;have f7:=aC hC (p:=⟨xb,0,As⟩) (by show xb<V.heap.size;omega) (fun h=>h) h5;have f8:=aC hC (p:=⟨yb,0,As⟩) (by show yb<V.heap.size;omega) (fun h=>h) h7;have f9:=aC hC (p:=⟨W.heap.size,0,As⟩) P0.lt (fun h=>h) p0;have f10:=aC hC (p:=⟨W.heap.size,1,As⟩) P0.lt (fun h=>h) p1;clear hC h1 h3 h5 h7 hc1 hc2 hc3 hc4 p0 p1
 repeat (refine au (fun K hK=>?_);first | (refine cg rfl ?_;try go_simp;refine hK _ _ ?_;clear hK K) | (refine bV rfl rfl ?_;unfold aF;go_simp;refine hK _ _ ?_;clear hK K))
 refine au (fun K hK=>?_);refine ct rfl rfl (aX.yw _ (AS Bm k)) rfl (fun W hW hN=>?_) (fun v hv=>?_)
 ·have hM:=(HC.out W).1 hW
  clear hW;go_simp;refine bI ((CA W (X0.trans (hM.below.mono hWV))).mono ?_);rintro e w2 ⟨rfl,rfl⟩;exact⟨_,rfl,Move.ai (Gz _ _),rfl,trivial⟩
 replace hv:v=_:=hv;subst hv;go_simp;refine hK _ _ ?_;clear hK K
 repeat (refine au (fun K hK=>?_);first | (refine cg rfl ?_;try go_simp;refine hK _ _ ?_;clear hK K) | (refine bV rfl rfl ?_;unfold aF;go_simp;refine hK _ _ ?_;clear hK K))
 refine au (fun K hK=>?_);refine ct rfl rfl (aX.yw _ (AS Bm l)) rfl (fun W hW hN=>?_) (fun v hv=>?_)
 ·have hM:=(HC.out W).1 hW
  clear hW;go_simp;refine bI ((CB W (X0.trans (hM.below.mono hWV))).mono ?_);rintro e w2 ⟨rfl,rfl⟩;exact⟨_,rfl,Move.ai (Gz _ _),rfl,trivial⟩
 replace hv:v=_:=hv;subst hv;go_simp;refine hK _ _ ?_;clear hK K
 repeat (refine au (fun K hK=>?_);first | (refine cg rfl ?_;try go_simp;refine hK _ _ ?_;clear hK K) | (refine bV rfl rfl ?_;unfold aF;go_simp;refine hK _ _ ?_;clear hK K))
 refine bM (fun W2 hW hH=>?_);have hM:=(HC.out W2).1 hW;have R2:=AI (R0.below hM.below R0.lt);have X2:=AI (X0.trans (hM.below.mono hWV));clear hM hW hH HC hne f1 f2 f3 f4 f5 f6 f7 f8 f9 f10;have r0:=R2.cell 0;have r1:=R2.cell 1;have z0:=R2.frozen 0;have z1:=R2.frozen 1;simp only[GF,GC,DQ]at r0 r1;go_wp2;refine bA ?_;intro W9 gj;have E9:By (ar W9 (W.heap.size+1) #[AS Bm x,AS Bm y] 133/\ae (· ≠W.heap.size+1) W2 W9):=by
  rw[gj];exact AI ⟨(R2.set 0 _).set 1 _,((ae.refl _ _).setCell (p:=⟨W.heap.size+1,0,As⟩) (fun h=>h rfl) _).setCell (p:=⟨W.heap.size+1,1,As⟩) (fun h=>h rfl) _⟩
 clear gj r0 r1 z0 z1;have q0:=E9.1.cell 0;have q1:=E9.1.cell 1;simp only[GF,GC,DQ]at q0 q1;refine Dl (v:=Ft #[AS Bm x,AS Bm y]) (by simp[results,Tryz.results122,go_sem,q0,q1]) rfl ⟨rfl,X2.trans (E9.2.mono fun z (hz:z<W.heap.size)=>by show z≠W.heap.size+1;omega:ae (· <W.heap.size) W2 W9).below⟩
structure zk (W:A_) (base mp:Nat) (E:List ((Nat×Nat)×List Nat)) (es:List (AF×AF)):Prop where
 len:es.length=E.length
 map:qN W mp es
 Xw:∀ (i:Nat) (x:(Nat×Nat)×List Nat),E[i]? =AM x->∃ v,es[i]? =AM (eu x.1,v)/\W.ownsRow base 5 1 v x.2.length (x.2.map cU)
theorem zk.below {W W':A_} {base mp:Nat} {E:List ((Nat×Nat)×List Nat)} {es:List (AF×AF)} (h:zk W base mp E es) (hk:aa W W'):zk W' base mp E es:=
 ⟨h.len,h.map.below hk,fun i x hx=>by
  obtain⟨v,h1,h2⟩:=h.Xw i x hx
  exact⟨v,h1,ak h2 hk⟩⟩
theorem zk.kept {W W':A_} {base mp b2 n size:Nat} {e:H'} {v:AF} {xs:List AF} {E:List ((Nat×Nat)×List Nat)} {es:List (AF×AF)} (h:zk W base mp E es) (ho:W.ownsRow b2 e size v n xs) (he:5≠e) (hg:W.grownBy W' v.ownBlock):zk W' base mp E es:=
 ⟨h.len,(hg.block mp h.map.lt (fun e2=>lZ ho h.map (fun c fz e=>by cases e) mp e2.symm rfl)).trans h.map,fun i x hx=>by
  obtain⟨v,h1,h2⟩:=h.Xw i x hx
  exact⟨v,h1,h2.kept hg (ownBlock_ne he h2 ho)⟩⟩
theorem zk.put {W W':A_} {base mp:Nat} {E:List ((Nat×Nat)×List Nat)} {es:List (AF×AF)} {q:Nat×Nat} {wd:List Nat} {v:AF} (h:zk W base mp E es) (hv:W.ownsRow base 5 1 v wd.length (wd.map cU)) (hm:qN W' mp (es++ [(eu q,v)])) (hk:ae (· ≠mp) W W'):zk W' base mp (E++ [(q,wd)]) (es++ [(eu q,v)]):=by
 have hrow:∀ (u:AF) (n:Nat) (xs:List AF),W.ownsRow base 5 1 u n xs->W'.ownsRow base 5 1 u n xs:=fun u n xs ho=>aj ho hk fun x hx=>lZ ho h.map (fun c fz e=>by cases e) x hx
 refine⟨by rw[aJ,aJ,h.len];rfl,hm,fun i x hx=>?_⟩;by_cases hi:i<E.length
 ·rw[bK hi]at hx
  obtain⟨u,h1,h2⟩:=h.Xw i x hx;exact⟨u,by rw[bK (by rw[h.len];exact hi)];exact h1,hrow _ _ _ h2⟩
 ·have gJ:=(A'.1 hx).1
  rw[aJ,GG]at gJ;obtain rfl:i=E.length:=by omega
  rw[cM (aG _),IN]at hx;cases hx;exact⟨v,by rw[cM (by rw[h.len];exact aG _),h.len,IN];rfl,hrow _ _ _ hv⟩
theorem zk.keys {W:A_} {base mp:Nat} {E:List ((Nat×Nat)×List Nat)} {es:List (AF×AF)} (h:zk W base mp E es) (hE:∀ y∈E,y.1.1<=4000/\y.1.2<=4000):∀ p∈es,∃ k,keyOf AN 133 p.1=AM k:=fun p hp=>by
 obtain⟨i,hi⟩:=C'.1 hp;have gJ:=(A'.1 hi).1;have hx:E[i]? =AM (E[i]'(by rw[<-h.len];exact gJ)):=az _;obtain⟨v,h1,_⟩:=h.Xw i _ hx;rw[hi]at h1;cases h1;obtain⟨h2,h3⟩:=hE _ (aw hx);exact Gk _ h2 h3
set_option maxRecDepth 100000
theorem zk.look {W:A_} {base mp:Nat} {E:List ((Nat×Nat)×List Nat)} {es:List (AF×AF)} (h:zk W base mp E es) (hE:∀ y∈E,y.1.1<=4000/\y.1.2<=4000) (q:Nat×Nat) (h1:q.1<=4000) (h2:q.2<=4000): (q∉E.map Prod.fst/\(∀ p∈es,p.1≠eu q)/\(Bs 206 (.map (AM mp)) (eu q) H_).run AN W=.ok (E_ #[An As 0 0,C_ D0]) W)\/ (∃ (i:Nat) (wd:List Nat) (v:AF),E[i]? =AM (q,wd)/\W.ownsRow base 5 1 v wd.length (wd.map cU)/\(Bs 206 (.map (AM mp)) (eu q) H_).run AN W=.ok (E_ #[v,C_ H_]) W/\(Bs 206 (.map (AM mp)) (eu q) D0).run AN W=.ok v W):=by
 have hz:(zeroValue 44).run AN W=.ok (An As 0 0) W:=by kernel_rfl
 rcases Lr Tryz.vz GW hz h.map (h.keys hE) (eu q) (Gk q h1 h2)with⟨g1,g2,_⟩ | ⟨i,v,g1,g2,g3⟩
 ·refine .inl ⟨fun hm=>?_,g1,g2⟩
  obtain⟨y,hy,rfl⟩:=List.mem_map.1 hm;obtain⟨i,hi⟩:=C'.1 hy;obtain⟨v,h3,_⟩:=h.Xw i y hi;exact g1 _ (aw h3) rfl
 ·have gJ:=(A'.1 g1).1
  have hx:E[i]? =AM (E[i]'(by rw[<-h.len];exact gJ)):=az _;obtain⟨u,h3,h4⟩:=h.Xw i _ hx;rw[g1]at h3;injection h3 with h3
  injection h3 with h5 h6
  subst h6;have h7:=zN h5;refine .inr ⟨i,_,v,?_,h4,g2,g3⟩;rw[hx];congr 1;exact Prod.ext h7.symm rfl
theorem zk.val {W:A_} {base mp:Nat} {E:List ((Nat×Nat)×List Nat)} {es:List (AF×AF)} (h:zk W base mp E es) (hE:∀ y∈E,y.1.1<=4000/\y.1.2<=4000) (hn:(E.map Prod.fst).Nodup) {i:Nat} {x:(Nat×Nat)×List Nat} (hx:E[i]? =AM x): ∃ a c,W.ownsRow base 5 1 (An a x.2.length c) x.2.length (x.2.map cU)/\∀ W',qN W' mp es->(Bs 206 (.map (AM mp)) (eu x.1) D0).run AN W'=.ok (An a x.2.length c) W':=by
 obtain⟨v,h1,h2⟩:=h.Xw i x hx;obtain⟨a,c,rfl⟩:=ownsRow_form h2;refine⟨a,c,h2,fun W' Mj=>?_⟩;obtain⟨b1,b2⟩:=hE x (aw hx);have hz:(zeroValue 44).run AN W'=.ok (An As 0 0) W':=by kernel_rfl
 rcases Lr Tryz.vz GW hz Mj (h.keys hE) (eu x.1) (Gk x.1 b1 b2)with⟨g1,_,_⟩ | ⟨j,v,g1,_,g3⟩
 ·exact absurd rfl (g1 _ (aw h1))
 ·have DK:=(A'.1 g1).1
  have hy:E[j]? =AM (E[j]'(by rw[<-h.len];exact DK)):=az _;obtain⟨u,h3,_⟩:=h.Xw j _ hy;rw[g1]at h3;injection h3 with h3
  injection h3 with h5 _
  have e1:(E.map Prod.fst)[j]? =AM x.1:=by rw[aO,hy];exact congrArg AM (zN h5).symm
  have e2:(E.map Prod.fst)[i]? =AM x.1:=by rw[aO,hx];rfl
  have e3:j=i:=(jR hn e1).symm.trans (jR hn e2);subst e3;rw[h1]at g1;injection g1 with g1
  injection g1 with _ g4
  rw[<-g4]at g3;exact g3
theorem zk.one {W:A_} {base mp:Nat} {q:Nat×Nat} (h:qN W mp [(eu q,An As 0 0)]):zk W base mp [(q,[])] [(eu q,An As 0 0)]:=⟨rfl,h,fun i x hx=>by
 cases i with
 | zero=>cases hx;exact⟨_,rfl,World.ownsRow_nil _ _ _ _⟩
 | succ i=>simp at hx⟩
section
variable {α:Type} [DecidableEq α]
theorem yu {F:α->Nat->α} {lt:Nat->Nat} {x:α×List Nat} {E:List (α×List Nat)} :∀ k,∀ y∈ia F lt x E k,y∈E\/∃ j,j<k/\y=(F x.1 j,x.2++ [lt j])
 | 0,y,hy=>.inl hy
 | k+1,y,hy=>by
  rw[ia,nY]at hy;split at hy
  ·rcases yu k y hy with h | ⟨j,h1,h2⟩
   ·exact .inl h
   ·exact .inr ⟨j,by omega,h2⟩
  ·rcases List.mem_append.1 hy with hy | hy
   ·rcases yu k y hy with h | ⟨j,h1,h2⟩
    ·exact .inl h
    ·exact .inr ⟨j,by omega,h2⟩
   ·exact .inr ⟨k,by omega,by simpa using hy⟩
theorem lL {F:α->Nat->α} {lt:Nat->Nat} {K:Nat} {p0:α} :∀ n,∀ y∈dp F lt K p0 n,y.2.length<=n
 | 0,y,hy=>by
  have:y=(p0,[]):=by simpa[dp]using hy
  rw[this];exact aG _
 | n+1,y,hy=>by
  rw[dp]at hy;split at hy
  ·have:=lL n y hy;omega
  ·rename_i x hx
   rcases yu K y hy with h | ⟨j,_,h2⟩
   ·have:=lL n y h;omega
   ·have:=lL n x (aw hx)
    rw[h2,aJ,GG];show x.2.length+1<=n+1;omega
end
theorem Gl {F:Nat×Nat->Nat->Nat×Nat} {lt:Nat->Nat} {x:(Nat×Nat)×List Nat} {E:List ((Nat×Nat)×List Nat)} :∀ k,E.length<=(ia F lt x E k).length
 | 0=>aG _
 | k+1=>by
  have h:=Gl (F:=F) (lt:=lt) (x:=x) (E:=E) k;rw[ia,nY];split
  ·exact h
  ·rw[aJ];omega
theorem Gm {F:Nat×Nat→Nat→Nat×Nat} {lt:Nat→Nat} {x:(Nat×Nat)×List Nat} {E:List ((Nat×Nat)×List Nat)} {k m:Nat} (h:k≤m):(ia F lt x E k).length≤ (ia F lt x E m).length:=by
  induction m with
  | zero => obtain rfl : k = 0 := by omega
            exact aG _
  | succ m ih =>
    by_cases e : k = m + 1
    · subst e; exact aG _
    · refine IF (ih (by omega)) ?_
      rw[ia,nY];split
      · exact aG _
      · rw[aJ];omega
theorem Tm (a1 a2:Option Addr) (c1 c2:Nat) (w:A_):ah 33 #[An a1 0 c1,An a2 0 c2] w fun e w'=>e=AT (C_ H_)/\Ext w w':=by
 go_enter JZ,IT
 go_wp2;go_loopw [13] (fun i wr=>i=AS Bm 0/\Ext w wr) (fun _ _=>0);case atStart=>exact⟨rfl,Ext.refl _⟩
 case round=>
  obtain⟨rfl,hx⟩:=hrel;obtain⟨wo,rfl⟩:=ag (wr:A_);have HX:=AI hx;clear hx;go_wp2;go_ret;exact⟨rfl,HX⟩
theorem take_eq_all {α:Type} {l1 l2:List α} {n:Nat} (h1:n=l1.length) (h2:n=l2.length) (h:l1.take n=l2.take n):l1=l2:=by rw[Dn (by omega),Dn (by omega)]at h;exact h
theorem Oh {α:Type} {l1 l2:List α} {k:Nat} {x:α} (h:l1.take k=l2.take k) (h1:l1[k]? =AM x) (h2:l2[k]? =AM x):l1.take (k+1)=l2.take (k+1):=by rw[G',G',h,h1,h2]
theorem Lt {α:Type} [BEq α] [LawfulBEq α] {l1 l2:List α} (h:l1.length≠l2.length):(l1==l2)=false:=by rw[beq_eq_false_iff_ne];intro e;exact h (by rw[e])
theorem aaq {α:Type} [BEq α] [LawfulBEq α] {l1 l2:List α} {k:Nat} {x y:α} (h1:l1[k]? =AM x) (h2:l2[k]? =AM y) (h:x≠y):(l1==l2)=false:=by rw[beq_eq_false_iff_ne];intro e;rw[e,h2]at h1;exact h (Option.some.inj h1).symm
theorem Tn (a1 a2:Option Addr) (n m c1 c2:Nat) (h:n≠m) (w:A_):ah 33 #[An a1 n c1,An a2 m c2] w fun e w'=>e=AT (C_ D0)/\Ext w w':=by
 have d1:((n:Int)==m)=false:=by rw[beq_eq_false_iff_ne];omega
 have d2:((n:Int) != m)=true:=by rw[bne_iff_ne];omega
 have d3:¬ (n:Int)=m:=by omega
 go_enter JZ,IT
 go_wp2;go_ret;exact⟨rfl,Ext.refl _⟩
theorem AK (v1 v2:AF) (l1 l2:List Int) (w:A_) (h1:jO aM w v1 l1) (h2:jO aM w v2 l2) (hn:l1.length<=1000000): ah 33 #[v1,v2] w fun e w'=>e=AT (C_ (l1==l2))/\Ext w w':=by
 by_cases hl:l1.length=l2.length
 ·rcases Nat.eq_zero_or_pos l1.length with h0 | h0
  ·have e1:=B_ h0
   have e2:=B_ (hl▸h0);subst e1 e2;obtain⟨a1,c1,rfl⟩:=h1.form;obtain⟨a2,c2,rfl⟩:=h2.form;exact Tm a1 a2 c1 c2 w
  ·have g1:bQ aM w v1 l1:=by
    rcases h1 with h | ⟨h,_⟩
    ·exact h
    ·rw[h]at h0;exact absurd h0 (by simp)
   have g2:bQ aM w v2 l2:=by
    rcases h2 with h | ⟨h,_⟩
    ·exact h
    ·rw[h]at hl;simp at hl;rw[hl]at h0;exact absurd h0 (by simp)
   exact nw v1 v2 l1 l2 w g1 g2 hn
 ·rw[Lt hl]
  obtain⟨a1,c1,rfl⟩:=h1.form;obtain⟨a2,c2,rfl⟩:=h2.form;exact Tn _ _ _ _ _ _ hl w
theorem AO (v1 v2:AF) (l1 l2:List (List Int)) (w:A_) (h1:rN w v1 l1) (h2:rN w v2 l2) (hn:l1.length<=1000000) (hs:∀ l∈l1,l.length<=1000000): ah 67 #[v1,v2,.func (.func 33) #[] #[]] w fun e w'=>e=AT (C_ (l1==l2))/\aa w w':=by
 obtain⟨a1,c1,rfl⟩:=h1.form;obtain⟨a2,c2,rfl⟩:=h2.form;obtain⟨n,jB⟩:=ag l1.length;obtain⟨m,qQ⟩:=ag l2.length;rw[<-jB]at h1 hn ⊢;rw[<-qQ]at h2 ⊢;obtain⟨r,hr⟩:=ag ((l1==l2));rw[<-hr];have HN:=AI jB;have HM:=AI qQ;have HR:=AI hr;have H1:=AI h1;have H2:=AI h2;have HS:=AI hs;have eg:=Qk;clear h1 h2 jB qQ hr hs;by_cases hnm:n=m
 ·subst hnm
  go_enter J1,I_
  go_wp2;go_loopw [17] (fun i wr=>∃ k:Nat,k<=n/\i=AS Bm k/\l1.take k=l2.take k/\aa w wr) (fun i _=>n-(intOf i).toNat);case atStart=>exact⟨0,by omega,rfl,rfl,Gz _ _⟩
  case round=>
   obtain⟨k,hk,rfl,ht,hx⟩:=hrel;obtain⟨wo,rfl⟩:=ag (wr:A_);have HX:=AI hx;have HT:=AI ht;by_cases hlt:k<n
   ·obtain⟨l,hl⟩:∃ l,l1[k]? =AM l:=⟨_,az (by have:=HN.out;omega)⟩
    obtain⟨l',hl'⟩:∃ l,l2[k]? =AM l:=⟨_,az (by have:=HM.out;omega)⟩;obtain⟨b,off,e1,k1,rfl,hb,x1,y1⟩:=(H1.below hx).elem hl;obtain⟨b',off',e2,k2,rfl,hb',x2,y2⟩:=(H2.below hx).elem hl';have eE:(k:Int)<n:=by omega
    obtain⟨q,hq⟩:=ag ((l==l'))
    have CE:By (ah 33 #[An e1 l.length k1,An e2 l'.length k2] wo fun e w'=>e=AT (C_ q)/\Ext wo w'):=AI (by
     rw[hq];exact AK _ _ l l' wo y1 y2 (HS l (aw hl)))
    obtain⟨j,hj⟩:=ag l.length;obtain⟨j',hj'⟩:=ag l'.length;rw[<-hj]at x1 CE;rw[<-hj']at x2 CE;have HQ:=AI hq;have Hz:=AI hl;have Yr:=AI hl';clear hl hl' y1 y2 hx hj hj' ht hq;go_wp2_with fail
    refine(CE).mono ?_;rintro e w2 ⟨rfl,hx⟩;have XX:=AI (HX.trans (hx.below.mono HX.size));clear hx x1 x2;cases q with
    | true=>
     go_wp2;go_roundw;case rel=>exact⟨k+1,by omega,by go_num,Oh HT Hz (by rw[Yr.out,eq_of_beq HQ.symm]),XX⟩
     case measure=>simp[intOf];omega
    | false=>
     have hf:r=false:=by rw[HR.out];exact aaq Hz Yr (by intro e;have:=HQ.out;rw[e]at this;simp at this)
     go_wp2;go_ret;exact⟨by rw[hf];rfl,XX⟩
   ·obtain rfl:k=n:=by omega
    have hf:r=true:=by rw[HR.out,take_eq_all HN.out HM.out HT.out];simp
    clear hx ht;go_wp2;go_ret;exact⟨by rw[hf];rfl,HX⟩
 ·have hf:r=false:=by
   rw[HR.out];exact Lt (by have:=HN.out;have:=HM.out;omega)
  have d1:((n:Int)==m)=false:=by rw[beq_eq_false_iff_ne];omega
  have d2:((n:Int) != m)=true:=by rw[bne_iff_ne];omega
  have d3:¬ (n:Int)=m:=by omega
  go_enter J1,I_
  go_wp2;go_ret;exact⟨by rw[hf];rfl,Gz _ _⟩
def eqD (a b:DF):Bool:=a.cl==b.cl&&a.nx==b.nx&&a.mr==b.mr
theorem VV {a b:DF} :eqD a b=H_↔a=b:=by obtain⟨a0,a1,a2⟩:=a;obtain⟨b0,b1,b2⟩:=b;unfold eqD;simp[and_assoc]
theorem Gn (v v':AF) (d x:DF) (w:A_) (h:Kp w v d) (h':Kp w v' x) (sm:Sm d): ah 17 #[v,v'] w fun e w'=>e=AT (C_ (eqD d x))/\aa w w':=by
 obtain⟨v0,v1,v2,rfl,h0,h1,h2⟩:=h;obtain⟨a0,c0,rfl⟩:=h0.1.form;obtain⟨a1,c1,rfl⟩:=h1.form;obtain⟨a2,c2,rfl⟩:=h2.form;obtain⟨u0,u1,u2,rfl,g0,g1,g2⟩:=h';obtain⟨b0,e0,rfl⟩:=g0.1.form;obtain⟨b1,e1,rfl⟩:=g1.form;obtain⟨b2,e2,rfl⟩:=g2.form;have SM:=AI sm;have eg:=Qk;have H0:=AI h0.1;have H1:=AI h1;have H2:=AI h2;have G0:=AI g0.1;have G1:=AI g1;have G2:=AI g2;clear h0 h1 h2 g0 g1 g2 sm;obtain⟨r,hr⟩:=ag (eqD d x);rw[<-hr];have HR:By (r=(d.cl==x.cl&&d.nx==x.nx&&d.mr==x.mr)):=AI hr;clear hr;generalize d.cl.length=n0 at*;generalize d.nx.length=n1 at*;generalize d.mr.length=n2 at*;generalize x.cl.length=m0 at*;generalize x.nx.length=m1 at*;generalize x.mr.length=m2 at*;go_enter Tryz.func17,Tryz.ntmps17;go_wp2_with fail
 refine aI ?_;intro V hV;have B3:By (ar V w.heap.size #[An a0 n0 c0,An a1 n1 c1,An a2 n2 c2] 29):=by rw[hV];exact(ar.new _ _ _).alloc _
 have B4:By (ar V (w.heap.size+1) #[An b0 m0 e0,An b1 m1 e1,An b2 m2 e2] 29):=by rw[hV];exact(ar.new (w.alloc _) _ _).at (by simp)
 have HX:By (aa w V):=by rw[hV];exact(((Ext.refl w).alloc _).alloc _).below
 clear hV;refine(wy _ _ d.cl x.cl V (H0.below HX) (G0.below HX) SM.cl).mono ?_;rintro e w3 ⟨rfl,hx⟩;have X3:=AI (HX.trans (hx.below.mono HX.size));have D3:=AI (B3.ext hx);have D5:=AI (B4.ext hx);clear hx B3 B4 HX;obtain⟨⟨k0,k1,k2⟩,_⟩:=D3.three;obtain⟨⟨l0,l1,l2⟩,_⟩:=D5.three;obtain⟨q,hq⟩:=ag ((d.cl==x.cl));rw[<-hq]at HR ⊢;clear hq;cases q with
 | false=>
  go_wp2;go_ret;exact⟨by rw[HR.out];rfl,X3⟩
 | true=>
  go_wp2_with fail
  refine(AO _ _ d.nx x.nx _ (.inl (H1.below X3)) (.inl (G1.below X3)) SM.nx SM.Bn).mono ?_;rintro e w4 ⟨rfl,hx⟩;have X4:=AI (X3.trans (hx.mono X3.size));have E3:=AI (D3.below hx D3.lt);have E5:=AI (D5.below hx D5.lt);clear hx k0 k1 k2 l0 l1 l2;obtain⟨⟨k0,k1,k2⟩,_⟩:=E3.three;obtain⟨⟨l0,l1,l2⟩,_⟩:=E5.three;obtain⟨q,hq⟩:=ag ((d.nx==x.nx));rw[<-hq]at HR ⊢;clear hq;cases q with
  | false=>
   go_wp2;go_ret;exact⟨by rw[HR.out];rfl,X4⟩
  | true=>
   go_wp2_with fail
   refine(AO _ _ d.mr x.mr _ (.inl (H2.below X4)) (.inl (G2.below X4)) SM.mr SM.Yw).mono ?_;rintro e w5 ⟨rfl,hx⟩;have X5:=AI (X4.trans (hx.mono X4.size));clear hx k0 k1 k2 l0 l1 l2;rw[show(d.mr==x.mr)=r from HR.symm];go_wp2;go_ret;exact⟨rfl,X5⟩
theorem j5 {d:DF} (rt:Rt d) (v:AF) (W:A_) (h:dr W v d):ah 16 #[v] W fun e w'=>e=AT (C_ H_)/\aa W w':=by have:=oD v d W h rt.ZF;rwa[(dF d).2 rt]at this
theorem JM {d:DF} (sm:Sm d) (hr:d.right=D0) (v:AF) (W:A_) (h:dr W v d):ah 16 #[v] W fun e w'=>e=AT (C_ D0)/\aa W w':=by have:=oD v d W h sm;rwa[hr]at this
theorem abw {d:DF} (sm:Sm d) (hr:d.right=D0) (w:A_) (v:AF) (h:dr w v d): ah 12 #[v] w fun e w'=>e=AT (E_ #[Ft #[An As 0 0,An As 0 0,An As 0 0],AS Bm 182])/\aa w w':=by
 have CR:By (∀ W,aa w W->ah 16 #[v] W fun e w'=>e=AT (C_ D0)/\aa W w'):=AI fun W hW=>JM sm hr v W (h.below hW)
 obtain⟨n0,dw⟩:=ag d.cl.length;obtain⟨n1,fH⟩:=ag d.nx.length;obtain⟨n2,jg⟩:=ag d.mr.length;obtain⟨a0,c0,a1,c1,a2,c2,rfl⟩:=h.form;rw[<-dw, <-fH, <-jg]at h CR ⊢;have H:=AI h;have sH:=AI fH;clear h dw fH jg;go_enter J2,I';go_upto_region 1 with fail
 refine aA ?_;intro V hV;have B0:By (ar V w.heap.size #[An a0 n0 c0,An a1 n1 c1,An a2 n2 c2] 29):=AI (by rw[hV];exact(ar.new w _ _).alloc _);have R0:By (ar V (w.heap.size+1) #[An As 0 0,An As 0 0,An As 0 0] 29):=AI (by rw[hV];exact(ar.new (w.alloc _) _ _).at (by simp));have X0:By (aa w V):=AI (by rw[hV];exact(((Ext.refl w).alloc _).alloc _).below);clear hV;obtain⟨p0,p1,p2⟩:=bN.qC B0;go_wp2_with fail
 refine(CR V X0).mono ?_;rintro e w1 ⟨rfl,hx⟩;have B1:=AI (B0.below hx B0.lt);have R1:=AI (R0.below hx R0.lt);have hV1:w.heap.size+1<V.heap.size:=R0.lt;have hW1:V.heap.size<=w1.heap.size:=hx.size;have X1:=AI (X0.trans (hx.mono X0.size));clear hx p0 p1 p2 B0 X0 CR R0;obtain⟨⟨l0,l1,l2⟩,z0,z1,z2⟩:=R1.three;go_wp2;refine bA ?_;intro W9 gj;have E9:By (ar W9 (w.heap.size+1) #[An As 0 0,An As 0 0,An As 0 0] 29/\ae (· ≠w.heap.size+1) w1 W9):=by rw[gj];exact AI ⟨R1.yl,fE _ _ _ _ _⟩
 clear gj z0 z1 z2 l0 l1 l2;obtain⟨m0,m1,m2⟩:=bN.qC E9.1;refine Dl (v:=E_ #[Ft #[An As 0 0,An As 0 0,An As 0 0],AS Bm 182]) (by simp[results,It,go_sem,m0,m1,m2]) rfl ⟨rfl,X1.trans (E9.2.mono fun x (hx:x<w.heap.size)=>by show x≠w.heap.size+1;omega:ae (· <w.heap.size) w1 W9).below⟩
theorem tH {d:DF} (rt:Rt d) {k0 k1 k2:Nat} (tJ:k0=(cq d).cl.length) (lM:k1=(cq d).nx.length) (hk2:k2=(cq d).mr.length) (w:A_) (v:AF) (h:dr w v d): ah 12 #[v] w (qB k0 k1 k2 0 (cq d) w):=by
 have CR:By (∀ W,aa w W->ah 16 #[v] W fun e w'=>e=AT (C_ H_)/\aa W w'):=AI fun W hW=>j5 rt v W (h.below hW)
 have CL:By (∀ W,aa w W->ah 62 #[v] W (Gg k0 k1 k2 (cq d) W)):=AI fun W hW=>ym rt tJ lM hk2 W v (h.below hW)
 obtain⟨n0,dw⟩:=ag d.cl.length;obtain⟨n1,fH⟩:=ag d.nx.length;obtain⟨n2,jg⟩:=ag d.mr.length;obtain⟨a0,c0,a1,c1,a2,c2,rfl⟩:=h.form;rw[<-dw, <-fH, <-jg]at h CR CL ⊢;have H:=AI h;have sH:=AI fH;clear h dw fH jg tJ lM hk2;go_enter J2,I';go_upto_region 1 with fail
 refine aA ?_;intro V hV;have B0:By (ar V w.heap.size #[An a0 n0 c0,An a1 n1 c1,An a2 n2 c2] 29):=AI (by rw[hV];exact(ar.new w _ _).alloc _);have R0:By (ar V (w.heap.size+1) #[An As 0 0,An As 0 0,An As 0 0] 29):=AI (by rw[hV];exact(ar.new (w.alloc _) _ _).at (by simp));have X0:By (aa w V):=AI (by rw[hV];exact(((Ext.refl w).alloc _).alloc _).below);clear hV;obtain⟨p0,p1,p2⟩:=bN.qC B0;go_wp2_with fail
 refine(CR V X0).mono ?_;rintro e w1 ⟨rfl,hx⟩;have B1:=AI (B0.below hx B0.lt);have R1:=AI (R0.below hx R0.lt);have hV1:w.heap.size+1<V.heap.size:=R0.lt;have hW1:V.heap.size<=w1.heap.size:=hx.size;have X1:=AI (X0.trans (hx.mono X0.size));clear hx p0 p1 p2 B0 X0 CR R0;obtain⟨p0,p1,p2⟩:=bN.qC B1;go_wp2_with fail
 refine(CL w1 X1).mono ?_;rintro e w2 ⟨x0,y0,x1,y1,x2,y2,rfl,ho,hx⟩;have O2:=AI ho;have R2:=AI (R1.below hx R1.lt);have X2:=AI (X1.trans (hx.mono X1.size));clear ho hx p0 p1 p2 B1 R1 X1 CL;obtain⟨⟨l0,l1,l2⟩,z0,z1,z2⟩:=R2.three;go_wp2;refine bA ?_;intro W9 gj;have E9:By (ar W9 (w.heap.size+1) #[An x0 k0 y0,An x1 k1 y1,An x2 k2 y2] 29/\ae (· ≠w.heap.size+1) w2 W9):=by
  rw[gj];exact AI ⟨R2.yl,fE _ _ _ _ _⟩
 clear gj z0 z1 z2 l0 l1 l2;obtain⟨m0,m1,m2⟩:=bN.qC E9.1;refine Dl (v:=E_ #[Ft #[An x0 k0 y0,An x1 k1 y1,An x2 k2 y2],AS Bm 0]) (by simp[results,It,go_sem,m0,m1,m2]) rfl ⟨x0,y0,x1,y1,x2,y2,rfl,(O2.keeps E9.2 fun x h1 _=>by show x≠_;omega).base (by omega),X2.trans (E9.2.mono fun x (hx:x<w.heap.size)=>by show x≠w.heap.size+1;omega:ae (· <w.heap.size) w2 W9).below⟩
theorem Tp {d:DF} (rt:Rt d) {k0 k1 k2:Nat} (tJ:k0=(cq d).cl.length) (lM:k1=(cq d).nx.length) (hk2:k2=(cq d).mr.length) (w:A_) (v:AF) (h:dr w v d): ah 14 #[v] w fun e w'=>e=AT (E_ #[AS Bm k1,AS Bm k0,AS Bm 0])/\aa w w':=by
 have CR:By (∀ W,aa w W->ah 16 #[v] W fun e w'=>e=AT (C_ H_)/\aa W w'):=AI fun W hW=>j5 rt v W (h.below hW)
 have CL:By (∀ W,aa w W->ah 62 #[v] W (Gg k0 k1 k2 (cq d) W)):=AI fun W hW=>ym rt tJ lM hk2 W v (h.below hW)
 obtain⟨n0,dw⟩:=ag d.cl.length;obtain⟨n1,fH⟩:=ag d.nx.length;obtain⟨n2,jg⟩:=ag d.mr.length;obtain⟨a0,c0,a1,c1,a2,c2,rfl⟩:=h.form;rw[<-dw, <-fH, <-jg]at h CR CL ⊢;have H:=AI h;have sH:=AI fH;clear h dw fH jg tJ lM hk2;go_enter Tryz.func14,Tryz.ntmps14;go_upto_region 1 with fail
 refine aA ?_;intro V hV;have B0:By (ar V w.heap.size #[An a0 n0 c0,An a1 n1 c1,An a2 n2 c2] 29):=AI (by rw[hV];exact ar.new w _ _);have X0:By (aa w V):=AI (by rw[hV];exact((Ext.refl w).alloc _).below);clear hV;obtain⟨p0,p1,p2⟩:=bN.qC B0;go_wp2_with fail
 refine(CR V X0).mono ?_;rintro e w1 ⟨rfl,hx⟩;have B1:=AI (B0.below hx B0.lt);have X1:=AI (X0.trans (hx.mono X0.size));clear hx p0 p1 p2 B0 X0 CR;obtain⟨⟨p0,p1,p2⟩,z0,z1,z2⟩:=B1.three;go_wp2_with fail
 refine(CL w1 X1).mono ?_;rintro e w2 ⟨x0,y0,x1,y1,x2,y2,rfl,ho,hx⟩;have B2:=AI (B1.below hx B1.lt);have X2:=AI (X1.trans (hx.mono X1.size));clear ho hx p0 p1 p2 z0 z1 z2 B1 X1 CL;obtain⟨⟨p0,p1,p2⟩,z0,z1,z2⟩:=B2.three;go_upto_region 4 with fail
 refine aA ?_;intro V3 hV;have KV:By (ae (· ≠w.heap.size) w2 V3):=AI (by rw[hV];exact fE _ _ _ _ _);have B3:By (ar V3 w.heap.size #[An x0 k0 y0,An x1 k1 y1,An x2 k2 y2] 29):=AI (by rw[hV];exact B2.yl);clear hV p0 p1 p2 z0 z1 z2;have X3:By (aa w V3):=AI (X2.trans (KV.mono fun x (hx:x<w.heap.size)=>by show x≠w.heap.size;omega:ae (· <w.heap.size) w2 V3).below);obtain⟨p0,p1,p2⟩:=bN.qC B3
 go_quiet (fail)
 go_wp2;exact Dl (v:=E_ #[AS Bm k1,AS Bm k0,AS Bm 0]) (by simp[results,Tryz.results14,go_sem]) rfl ⟨rfl,((ae.ai X3 fun _ h=>h:ae (· <w.heap.size) w V3).drewN _).below⟩
theorem JN {d:DF} (rt:Rt d) (w:A_) (v:AF) (h:dr w v d): ah 36 #[v] w fun e w'=>∃ a c,e=AT (E_ #[An a d.nx.length c,AS Bm 0])/\w'.ownsRow w.heap.size 3 1 (An a d.nx.length c) d.nx.length ((DH d.nx.length).map fun s=>cV (kq d s))/\aa w w':=by
 have CR:By (∀ W,aa w W->ah 16 #[v] W fun e w'=>e=AT (C_ H_)/\aa W w'):=AI fun W hW=>j5 rt v W (h.below hW)
 have CL:By (∀ W,aa w W->ah 79 #[v] W fun e w'=>∃ u,e=AT u/\w'.ownsRow W.heap.size 3 1 u d.nx.length ((DH d.nx.length).map fun s=>cV (kq d s))/\aa W w'):=AI fun W hW=>yf v d rt W (h.below hW)
 obtain⟨n0,dw⟩:=ag d.cl.length;obtain⟨n1,fH⟩:=ag d.nx.length;obtain⟨n2,jg⟩:=ag d.mr.length;obtain⟨a0,c0,a1,c1,a2,c2,rfl⟩:=h.form;rw[<-dw, <-fH, <-jg]at h CR CL ⊢;have H:=AI h;have sH:=AI fH;obtain⟨R,hR⟩:=ag ((DH n1).map fun s=>cV (kq d s));rw[<-hR]at CL ⊢;clear h dw fH jg hR;go_enter Tryz.func36,Tryz.ntmps36;go_upto_region 1 with fail
 refine aA ?_;intro V hV;have B0:By (ar V w.heap.size #[An a0 n0 c0,An a1 n1 c1,An a2 n2 c2] 29):=AI (by rw[hV];exact ar.new w _ _);have X0:By (aa w V):=AI (by rw[hV];exact((Ext.refl w).alloc _).below);clear hV;obtain⟨p0,p1,p2⟩:=bN.qC B0;go_wp2_with fail
 refine(CR V X0).mono ?_;rintro e w1 ⟨rfl,hx⟩;have B1:=AI (B0.below hx B0.lt);have X1:=AI (X0.trans (hx.mono X0.size));clear hx p0 p1 p2 B0 X0 CR;obtain⟨p0,p1,p2⟩:=bN.qC B1;go_wp2_with fail
 refine(CL w1 X1).mono ?_;rintro e w2 ⟨u,rfl,ho,hx⟩;obtain⟨ua,uc,rfl⟩:=ownsRow_form ho;have O2:=AI (aH ho X1.size);have X2:=AI (X1.trans (hx.mono X1.size));clear ho hx p0 p1 p2 B1 X1 CL;go_wp2;exact Dl (v:=E_ #[An ua n1 uc,AS Bm 0]) (by simp[results,Tryz.results36,go_sem]) rfl ⟨ua,uc,rfl,O2,X2⟩
end
end Go.Proofs.YtjgccapbphadjaaGreatDoor
