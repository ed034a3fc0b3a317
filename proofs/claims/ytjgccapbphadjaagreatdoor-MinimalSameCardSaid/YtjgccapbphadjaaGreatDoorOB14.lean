/- minimal.Least, IsLeast, Size, Blocks of automata that are right; they and Classes refuse others. Printed by wip/gen/mwrap.py. -/
import Derived.Test.YtjgccapbphadjaaGreatDoorOB13
set_option maxRecDepth 100000
set_option maxHeartbeats 16000000
open Go.Lib (hid)
namespace Go.Proofs.YtjgccapbphadjaaGreatDoor
section
open Go Go.RowKit Go.Shelf Go.Maps
attribute [local go_sem] encS
theorem AG (q:BS):∀ (l:List BS) (b:Nat),b<l.length->((((aP l).set (b*4) (.int .u64 (wd q 0).toNat)).set (b*4+1) (.int .u64 (wd q 1).toNat)).set (b*4+2) (.int .u64 (wd q 2).toNat)).set (b*4+3) (.int .u64 (wd q 3).toNat)=aP (l.set b q)
 | [],b,h=>absurd h (Nat.not_lt_zero b)
 | a::l,0,_=>rfl
 | a::l,b+1,h=>by
  have ih:=AG q l b (by simpa using h);have e:∀ (X:List Value) (j:Nat) (v:Value),((encS a).toList++X).set (j+4) v=(encS a).toList++X.set j v:=fun X j v=>rfl
  show(((((encS a).toList++aP l).set ((b+1)*4) _).set ((b+1)*4+1) _).set ((b+1)*4+2) _).set ((b+1)*4+3) _=(encS a).toList++aP (l.set b q);rw[show(b+1)*4=b*4+4 by omega,show b*4+4+1=b*4+1+4 by omega,show b*4+4+2=b*4+2+4 by omega,show b*4+4+3=b*4+3+4 by omega,e,e,e,e,ih]
theorem dD.store {W:World} {base b2 n m c g s:Nat} {us ws:List Value} {ll:List (List Int)} (h:dD W base n us ll) (hr:W.ownsRow b2 39 1 (.slice (some ⟨g,0,none⟩) m c) m ws) (v:Value):dD (W.setCell ⟨g,s,none⟩ v) base n us ll:=by
 refine⟨h.l1,h.l2,fun i u l hu hl=>?_,h.far⟩;have ho:=h.rows i u l hu hl;refine aj ho ((ae.refl (· ≠g) W).setCell (p:=⟨g,s,none⟩) (fun h=>h rfl) _) fun x hx e=>?_
 rcases ownBlock_ne (by decide) ho hr with h5 | h5
 ·rw[h5]at hx;cases hx
 ·exact h5 (by rw[hx,e];rfl)
def yj (lo:Nat) (v:Value) (n:Nat) (xs:List Value) (x:Value):ij.App:=⟨3,1,v,n,xs,1,lo,fun ns _=>ns=[x],fun _ _ _ _ h=>h⟩
theorem De (base:Nat) (v:Value) (d:DF) (rt:Rt d) (w:World) (hd:bN base w v d) (rV:base<=w.heap.size): ah 116 #[v] w fun e w'=>∃ u,e=.returned u/\bN base w' u (ic d)/\aa w w':=by
 have pd:Hid (∀ u0 u1 u2,v=.agg #[u0,u1,u2]->bw base w u2 d.mr):=hid fun u0 u1 u2 e=>by
  obtain⟨v0,v1,v2,e',h0,h1,h2⟩:=hd;rw[e']at e;cases e;exact h2
 have h:=hd.df;clear hd;obtain⟨iI,y8,kP,kQ,kR⟩:=info_parts Tryz.mH;obtain⟨iL,zY,mR,mS,mU⟩:=info_parts Tryz.tX;obtain⟨iS,hiS,MZ,M7,Na⟩:=info_parts Tryz.zE;have eg1:∀ (args:Array Value) (w:World),(callFunc 174 args).run Tryz.prog w=.ok (.enter 174 args) w:=fun args w=>rfl
 obtain⟨v0,v1,v2,rfl,h0,h1,h2⟩:=h;obtain⟨a0,c0,rfl⟩:=h0.1.form;obtain⟨a1,c1,rfl⟩:=h1.form;obtain⟨a2,c2,rfl⟩:=h2.form;clear h2;have yB:=rt.mr;obtain⟨n,hn⟩:=ag d.nx.length;obtain⟨K,hK⟩:=ag d.cl.length;obtain⟨N,hN⟩:=ag (fj (cA d) d.cl.length);have RA:n<=4000:=by have:=rt.le;omega
 have fH:1<=n:=by have:=rt.pos;omega
 have hK2:K<=256:=by have:=rt.Bk;omega
 have hNK:N<=K:=by rw[hN,hK];exact C0 (mm d)
 have h2:=pd.out _ _ _ rfl;rw[yB, <-hn]at h2 ⊢;rw[<-hn]at h1;rw[<-hK]at h0 ⊢;have CP:Hid (∀ W (db:Nat),aa w W->ar W db #[.slice a0 K c0,.slice a1 n c1,.slice a2 n c2] 29->ah 137 #[.int .i64 K,.func (.func 174) #[] #[.pointer (some ⟨db,0,none⟩)]] W fun e w'=>∃ u,e=.returned (.tuple #[u,.int .i64 N])/\w'.ownsRow W.heap.size 3 1 u K ((List.range K).map fun k=>cV (cA d k))/\aa W w'):=hid fun W db hW hB=>by
  obtain⟨k1,k2⟩:=Tg rt;rw[<-hK]at k1 k2;rw[<-hK]at hN;refine(qG 174 #[.pointer (some ⟨db,0,none⟩)] (Oc d) K (by omega) W (fun s hs=>?_) eg1 (fun s W2 hs hW2=>?_)).mono ?_
  ·unfold Oc
   rw[xF];unfold xU;rw[aQ,List.length_range, <-hn];omega
  ·exact Gf s db d rt (by rw[<-hK];exact hs) (.slice a1 n c1) W2 ((hB.below hW2 hB.lt).cell 1) ((h1.below hW).below hW2)
  ·rintro e w' ⟨u,rfl,h5,h6⟩
   refine⟨u,by rw[k1, <-hN],?_,h6⟩;have e:(List.range K).map (fun s=>cV (dL (Oc d) K s))=(List.range K).map fun k=>cV (cA d k):=List.map_congr_left fun s hs=>by rw[k2 s (List.mem_range.1 hs)]
   rw[<-e];exact h5
 have HCL:Hid (∀ k,k<K->∃ (b off:Nat),a0=some ⟨b,off,none⟩/\b<w.heap.size/\w.cell? ⟨b,off+k*4,none⟩=some (.int .u64 (wd (d.cl.getD k 0) 0).toNat)/\w.cell? ⟨b,off+k*4+1,none⟩=some (.int .u64 (wd (d.cl.getD k 0) 1).toNat)/\w.cell? ⟨b,off+k*4+2,none⟩=some (.int .u64 (wd (d.cl.getD k 0) 2).toNat)/\w.cell? ⟨b,off+k*4+3,none⟩=some (.int .u64 (wd (d.cl.getD k 0) 3).toNat)):=hid fun k hk=>by
  obtain⟨b,off,e1,e2,e3⟩:=h0.1.elem (i:=k) (s:=d.cl.getD k 0) (by rw[bu,az (by rw[<-hK];exact hk)];rfl);exact⟨b,off,e1,e2,e3⟩
 have GX:Hid (∀ s,s<n->∃ (b:Nat) (off:Nat) (ad:Option Addr) (cp:Nat),a1=some ⟨b,off,none⟩/\b<w.heap.size/\w.cell? ⟨b,off+s,none⟩=some (.slice ad K cp)/\bQ aM w (.slice ad K cp) (d.nx.getD s [])):=hid fun s hs=>by
  have hrow:d.nx[s]? =some (d.nx.getD s []):=by rw[bu,az (by rw[<-hn];exact hs)];rfl
  obtain⟨b,off,a',c',e1,e2,e3,e4⟩:=h1.elem hrow;rw[rt.len s (by rw[<-hn];exact hs), <-hK]at e3 e4;exact⟨b,off,a',c',e1,e2,e3,e4⟩
 have H2:=hid h2;have HN:=hid hn;have HK:=hid hK;have pA:=hid hN;have RT:=hid rt;clear h0 h1 h2 hn hK hN yB rt eg1 pd;go_enter Tryz.func116,Tryz.ntmps116;go_wp2_with fail
 refine aI ?_;intro V hV;have B1:Hid (ar V w.heap.size #[.slice a0 K c0,.slice a1 n c1,.slice a2 n c2] 29):=hid (by rw[hV];exact(ar.new w _ _).alloc _);have R1:Hid (ar V (w.heap.size+1) #[.slice none 0 0,.slice none 0 0,.slice none 0 0] 29):=hid (by rw[hV];exact(ar.new (w.alloc _) _ _).at (by simp));have X1:Hid (aa w V):=hid (by rw[hV];exact(((Ext.refl w).alloc _).alloc _).below);clear hV;have hsV:w.heap.size+1<V.heap.size:=R1.lt;refine(CP V w.heap.size X1 B1).mono ?_;rintro e w5 ⟨u,rfl,ho,hx⟩;obtain⟨pa,pc,rfl⟩:=ownsRow_form ho;have P5:=hid ho;have B5:=hid (B1.below hx B1.lt);have R5:=hid (R1.below hx R1.lt);have X5:=hid (X1.trans (hx.mono X1.size));have hs5:V.heap.size<=w5.heap.size:=hx.size;clear ho hx B1 R1 X1 CP;obtain⟨b0,b1,b2⟩:=bN.qC B5;go_upto_region 3 with fail
 refine aL false (fun _=>False) (by kernel_rfl) 10 [0,1,0,4,12,28,0,64,255,0,1023] (fun i=>i==1 || i==5 || i==9 || i==10) (by kernel_rfl) (fun i=>if i=1 then aX.row w5.heap.size 56 4 N (aP (List.replicate N 0))else if i=5 then aX.row w5.heap.size 39 1 n (List.replicate n (.slice none 0 0))else if i=9 then aX.uQ w5.heap.size #[.slice none 0 0,.slice none 0 0,.slice none 0 0] 29 else aX.any _) ?_;intro C hC hne;have HC:=hid hC;have f1:=aC hC (p:=⟨w.heap.size,1,none⟩) B5.lt (fun h=>h) b1;have f2:=aC hC (p:=⟨w.heap.size,2,none⟩) B5.lt (fun h=>h) b2;clear hC b0 b1 b2
 repeat (refine au (fun K hK=>?_);first | (refine cg rfl ?_;try go_simp;refine hK _ _ ?_;clear hK K) | (refine bV rfl rfl ?_;unfold aF;go_simp;refine hK _ _ ?_;clear hK K))
 refine au (fun K0 hK=>?_);refine ct rfl rfl (aX.row w5.heap.size 56 4 N (aP (List.replicate N 0))) rfl (fun W hW hN=>?_) (fun v hv=>?_)
 ·have hM:=(HC.out W).1 hW
  clear hW hN hK K0;refine AE (.tmp 20) (.tmp 20) 26 rfl 56 iS (.agg #[.int .u64 0,.int .u64 0,.int .u64 0,.int .u64 0]) 4 Tryz.underlying26 hiS MZ M7 .i64 .i64 _ _ N rfl rfl rfl rfl (by rw[Na];omega) (by unfold maxLen;omega) (fun w' hr hg=>?_);rw[Ig]at hr;exact⟨Move.ai (ae.bB hg fun x hx=>⟨hx,fun e=>by cases e⟩:ae (· <W.heap.size) W w').below,⟨_,_,rfl⟩,aH hr hM.size⟩
 obtain⟨x0,y0,rfl⟩:=hv;go_simp;refine hK _ _ ?_;clear hK K0
 repeat (refine au (fun K hK=>?_);first | (refine cg rfl ?_;try go_simp;refine hK _ _ ?_;clear hK K) | (refine bV rfl rfl ?_;unfold aF;go_simp;refine hK _ _ ?_;clear hK K))
 refine au (fun K0 hK=>?_);refine ct rfl rfl (aX.row w5.heap.size 39 1 n (List.replicate n (.slice none 0 0))) rfl (fun W hW hN=>?_) (fun v hv=>?_)
 ·have hM:=(HC.out W).1 hW
  clear hW hN hK K0;refine AE (.tmp 24) (.tmp 24) 27 rfl 39 iL (.slice none 0 0) 1 Tryz.underlying27 zY mR mS .i64 .i64 _ _ n rfl rfl rfl rfl (by rw[mU];omega) (by unfold maxLen;omega) (fun w' hr hg=>?_);rw[Ie]at hr;exact⟨Move.ai (ae.bB hg fun x hx=>⟨hx,fun e=>by cases e⟩:ae (· <W.heap.size) W w').below,⟨_,_,rfl⟩,aH hr hM.size⟩
 obtain⟨x1,y1,rfl⟩:=hv;go_simp;refine hK _ _ ?_;clear hK K0
 repeat (refine au (fun K hK=>?_);first | (refine cg rfl ?_;try go_simp;refine hK _ _ ?_;clear hK K) | (refine bV rfl rfl ?_;unfold aF;go_simp;refine hK _ _ ?_;clear hK K))
 refine au (fun K0 hK=>?_);refine ct rfl rfl (aX.uQ w5.heap.size #[.slice none 0 0,.slice none 0 0,.slice none 0 0] 29) rfl (fun W hW hN=>?_) (fun v hv=>?_)
 ·have hM:=(HC.out W).1 hW
  have s7:=hM.size;clear hW hN hK K0;go_simp;exact⟨Move.ai ((Ext.refl _).alloc _).below,⟨_,rfl⟩,fun b hb=>by cases hb;exact⟨ar.new _ _ _,s7⟩⟩
 obtain⟨bx,rfl⟩:=hv;go_simp;refine hK _ _ ?_;clear hK K0;refine bM (fun W hW hH=>?_);have hM:=(HC.out W).1 hW;have hb8:(aX.uQ w5.heap.size #[.slice none 0 0,.slice none 0 0,.slice none 0 0] 29).H (.pointer (some ⟨bx,0,none⟩)) W:=hH _ (aw (show _=some _ from rfl:_[0]? =some _));have LN:Hid (W.ownsRow w5.heap.size 39 1 (.slice x1 n y1) n (List.replicate n (.slice none 0 0))):=hid (hH _ (aw (show _=some _ from rfl:_[1]? =some _)));have LC:Hid (W.ownsRow w5.heap.size 56 4 (.slice x0 N y0) N (aP (List.replicate N 0))):=hid (hH _ (aw (show _=some _ from rfl:_[2]? =some _)));have BX:=hid (hb8 bx rfl);have XW:=hid hM.below;have U8:w5.heap.size<=W.heap.size:=hM.size;clear hM hW hH HC hne f1 f2 hb8;obtain⟨⟨q0,q1,q2⟩,z0,z1,z2⟩:=BX.1.three;go_upto_region 4 with fail
 refine aA ?_;intro W2 hV;have KV:Hid (ae (· ≠bx) W W2):=hid (by rw[hV];exact fE _ _ _ _ _);have BO:Hid (ar W2 bx #[.slice x0 N y0,.slice x1 n y1,.slice a2 n c2] 29):=hid (by rw[hV];exact((BX.1.set 0 _).set 1 _).set 2 _);clear hV q0 q1 q2 z0 z1 z2;have zD:w5.heap.size<=bx:=BX.2;have LN2:=hid (aj LN KV fun x e=>cy BX.1 LN (by decide) x e);have LC2:=hid (aj LC KV fun x e=>cy BX.1 LC (by decide) x e);have KW:Hid (ae (· <w5.heap.size) w5 W2):=hid ((ae.ai XW fun _ h=>h:ae (· <w5.heap.size) w5 W).tr (KV.mono fun x (hx:x<w5.heap.size)=>by show x≠bx;omega));clear KV BX LN LC XW;obtain⟨g5,SI⟩:=ag w5.heap.size;have P2:=hid (aj P5 KW fun x e=>(P5.lt x e).2);have aai:∀ x,(Value.slice pa K pc).ownBlock=some x->x<w5.heap.size:=fun x e=>(P5.lt x e).2
 have B2:=hid (B5.keeps KW B5.lt);have R2:=hid (R5.keeps KW R5.lt);have X2:Hid (aa w W2):=hid (X5.trans (KW.mono fun x (hx:x<w.heap.size)=>by show x<w5.heap.size;omega:ae (· <w.heap.size) w5 W2).below);have Zc:w.heap.size+1<w5.heap.size:=by omega
 have aiA:w5.heap.size<=W2.heap.size:=KW.size;rw[<-SI]at LN2 LC2 zD aai Zc aiA;clear SI KW P5 B5 R5 X5 U8;have aiB:=hid aai;clear aai;go_wp2_with fail
 go_loopw [31] (fun kv wr=>∃ (k:Nat) (us:List Value),k<=K/\kv=.int .i64 k/\ar wr bx #[.slice x0 N y0,.slice x1 n y1,.slice a2 n c2] 29/\wr.ownsRow g5 56 4 (.slice x0 N y0) N (aP (kV d N k))/\wr.ownsRow g5 39 1 (.slice x1 n y1) n us/\dD wr g5 n us (j4 d k)/\ae (· <g5) W2 wr) (fun kv _=>K-(intOf kv).toNat)
 case atStart=>exact⟨0,_,Nat.zero_le _,rfl,BO,by rw[Ob];exact LC2,LN2,by rw[JF, <-HN.out];exact dD.start _ _ _,ae.refl _ _⟩
 case round=>
  obtain⟨k,us,hk,rfl,hb,hc,hr,uA,hx⟩:=hrel;obtain⟨wo,rfl⟩:=ag (wr:World);have HB:=hid hb;have HC:=hid hc;have HR:=hid hr;have WY:=hid uA;have HX:=hid hx;clear hb hc hr uA hx;by_cases hlt:k<K
  ·have eE:(k:Int)<K:=by omega
   have Xt:k<d.cl.length:=by rw[<-HK.out];exact hlt
   obtain⟨b,hbe⟩:=ag (cA d k);have hbN:b<N:=by rw[hbe,pA.out];exact iM Xt
   have Uq:(b:Int)<N:=by omega
   obtain⟨o,hoe⟩:=ag (tD d.cl (cA d) b k);have PO:=aj P2 HX fun x e=>aiB x e
   obtain⟨pg,pu,rfl,_,_,hpu,hpc,_⟩:=fB PO hlt;rw[aO,List.getElem?_range hlt]at hpu;cases hpu;replace hpc:wo.cell? ⟨pg,k,none⟩=some (.int .i64 (cA d k:Nat)):=hpc;rw[<-hbe]at hpc
   have Fw:Hid (o=0↔ ¬cA d k<(dh (cA d) k).length):=hid (by
    rw[hoe,Ge (by omega) RT.part.ne,VQ (mm d) Xt,hbe]
    exact⟨fun h ⟨j,h1,h2⟩=>h j h1 h2,fun h j h1 h2=>h ⟨j,h1,h2⟩⟩)
   have BK:=hid (B2.keeps HX (by show w.heap.size<g5;omega));have XK:Hid (aa w wo):=hid (X2.trans (HX.mono fun x (hx:x<w.heap.size)=>by show x<g5;omega:ae (· <w.heap.size) W2 wo).below);obtain⟨gc,rfl,UC⟩:∃ gc,x0=some ⟨gc,0,none⟩/\g5<=gc:=by
    rcases HC.2 with⟨h5,h6⟩ | ⟨g,c,cur,h5,h6,_⟩
    ·cases h5;omega
    ·cases h5;exact⟨g,rfl,h6⟩
   obtain⟨gc',oc,e1,_,c0,c1,Ue,c3⟩:=(fK (l:=kV d N k) (by unfold kV;rw[aQ,List.length_range];exact HC)).1.elem (yi d hbN);cases e1;rw[<-hoe]at c0 c1 Ue c3;simp only[Nat.zero_add]at c0 c1 Ue c3;have HBE:=hid hbe;have HOE:=hid hoe;clear PO hbe hoe;obtain⟨k0,k1,k2⟩:=bN.qC HB;obtain⟨m0,m1,m2⟩:=bN.qC BK;have heq:∀ W,(Op.equalIn 10000 56 (.agg #[.int .u64 (wd o 0).toNat,.int .u64 (wd o 1).toNat,.int .u64 (wd o 2).toNat,.int .u64 (wd o 3).toNat]) (.agg #[.int .u64 0,.int .u64 0,.int .u64 0,.int .u64 0])).run Tryz.prog W=(.ok (o==0) W):=fun W=>iu o 0 W
   obtain⟨q,hq⟩:=ag ((o==0));have HQ:=hid hq;rw[<-hq]at heq;clear hq
   go_upto_if 42 with fail
   go_cut [46] from 42 to 66 (fun _ wx=>∃ VN,ar wx bx #[.slice (some ⟨gc,0,none⟩) N y0,.slice x1 n y1,.slice a2 n c2] 29/\wx.ownsRow g5 56 4 (.slice (some ⟨gc,0,none⟩) N y0) N (aP (kV d N k))/\wx.ownsRow g5 39 1 (.slice x1 n y1) n VN/\dD wx g5 n VN (j4 d (k+1))/\ae (· <g5) wo wx)
   case first=>
    cases q with
    | false=>
     have hold:Hid (cA d k<(dh (cA d) k).length):=hid (Classical.byContradiction fun h=>by
      have h1:=Fw.2 h;have h2:=HQ.out;rw[h1]at h2
      cases h2)
     go_wp2_with fail
     go_meet
     exact⟨us,HB,HC,HR,by rw[N9 hold.out];exact WY,ae.refl _ _⟩
    | true=>
     have hnw:Hid (¬cA d k<(dh (cA d) k).length):=hid (Fw.1 (beq_iff_eq.1 HQ.symm));go_wp2_with fail
     go_loopw [46] (fun sv wr=>∃ (s:Nat) (VN:List Value),s<=n/\sv=.int .i64 s/\ar wr bx #[.slice (some ⟨gc,0,none⟩) N y0,.slice x1 n y1,.slice a2 n c2] 29/\wr.ownsRow g5 56 4 (.slice (some ⟨gc,0,none⟩) N y0) N (aP (kV d N k))/\wr.ownsRow g5 39 1 (.slice x1 n y1) n VN/\dD wr g5 n VN (mN d k s)/\ae (· <g5) wo wr) (fun sv _=>n-(intOf sv).toNat)
     case atStart=>exact⟨0,us,Nat.zero_le _,rfl,HB,HC,HR,by rw[JE];exact WY,ae.refl _ _⟩
     case round=>
      obtain⟨s,us1,hs,rfl,hb,hc,hr,uA,hx⟩:=hrel;obtain⟨wi,rfl⟩:=ag (wr:World);have IB:=hid hb;have IC:=hid hc;have IR:=hid hr;have IRS:=hid uA;have IX:=hid hx;clear hb hc hr uA hx;by_cases kS:s<n
      ·have GI:(s:Int)<n:=by omega
       obtain⟨xg,xu,rfl,Fl,hxg,hxu,hxc,hxf⟩:=fB IR kS;have hsN:s<d.nx.length:=by rw[<-HN.out];exact kS
       have hrow:=N8 d k hsN;obtain⟨l,hle⟩:=ag ((dh (cA d) k).map fun j=>(d.nx.getD s []).getD j 0);rw[<-hle]at hrow;have Xu:=IRS.rows s xu l hxu hrow;obtain⟨m,hme⟩:=ag l.length;have lH:m<=k:=by rw[hme,hle,aQ];exact Td _ _
       rw[<-hme]at Xu;obtain⟨ua,uc,rfl⟩:=ownsRow_form Xu;obtain⟨b1,NZ,ad1,cp1,rfl,hb1,hc1,hsl1⟩:=GX.out s kS;have XI:Hid (aa w wi):=hid (XK.trans (IX.mono fun x (hx:x<w.heap.size)=>by show x<g5;omega:ae (· <w.heap.size) wo wi).below);have uz:∀ b o u,b<w.heap.size->w.cell? ⟨b,o,none⟩=some u->wi.cell? ⟨b,o,none⟩=some u:=fun b o u hb h=>((ae.ai XI fun _ h=>h:ae (· <w.heap.size) w wi).cell (p:=⟨b,o,none⟩) hb).trans h
       obtain⟨aiF,aaj⟩:=tG RT hsN Xt;obtain⟨b2,fV,rfl,hb2,hc2⟩:=hsl1.elem aaj;replace hc1:=uz _ _ _ hb1 hc1;replace hc2:wi.cell? ⟨b2,fV+k,none⟩=some (.int .i64 (en d s k:Nat)):=uz _ _ _ hb2 hc2;obtain⟨x,VR⟩:=ag (en d s k);rw[<-VR]at hc2;have HX9:Hid ((d.nx.getD s []).getD k 0=((x:Nat):Int)):=hid (by rw[bu,aaj,VR];rfl);have HLE:=hid hle;have HME:=hid hme;have HUR:=hid Xu;have HXU:=hid hxu;have hZ:=hid hrow;have Xv:g5<=wi.heap.size:=by have:=IX.size;have:=HX.size;omega
       have aak:∀ z,(Value.slice ua m uc).ownBlock=some z->g5<=z/\z<wi.heap.size:=fun z e=>HUR.lt z e
       have IBK:=hid (BK.keeps IX (by show w.heap.size<g5;omega));obtain⟨i0,i1,i2⟩:=bN.qC IB;obtain⟨j0,j1,j2⟩:=bN.qC IBK;clear hle hme Xu hxu hrow aaj aiF hsl1 uz VR;go_upto_region 11 with fail
       obtain⟨PL,vv⟩:=ag ([yj wi.heap.size (.slice ua m uc) m (l.map aM) (.int .i64 x)]:List ij.App);have pB:PL[0]? =some (yj wi.heap.size (.slice ua m uc) m (l.map aM) (.int .i64 x)):=by rw[vv];rfl
       have hall:∀ q∈PL,q=yj wi.heap.size (.slice ua m uc) m (l.map aM) (.int .i64 x):=fun q hq=>by rw[vv]at hq;simpa using hq
       have Dd:Hid (ij.ky wi PL):=hid ⟨fun q hq=>by rw[hall q hq];exact aG _,fun q hq x e=>by
        rw[hall q hq]at e;exact(aak x e).2,fun i j q q' hi hj mF=>by
        have hl:PL.length=1:=by rw[vv];rfl
        have h1:=(List.getElem?_eq_some_iff.1 hi).1;have h2:=(List.getElem?_eq_some_iff.1 hj).1
        omega⟩
       have pZ:∀ z,¬ (Value.slice ua m uc).ownBlock=some z->¬ ∃ q∈PL,q.v.ownBlock=some z:=fun z hz ⟨q,hq,e⟩=>by
        rw[hall q hq]at e;exact hz e
       have GR:=hid pZ;clear vv hall pZ;refine RegG.bL (ij.bZ g5 wi PL) (ij.bZ.drew) (fun _ _ _ h k=>h.trans k) (by kernel_rfl) 14 [0,1,0,0,8,0,56,120,0,0,768,1792,3840,8184,16383,32767] (fun i=>i==12 || i==13) (by kernel_rfl) (fun _=>none) (fun j hj=>(by first | rfl | (have kX:16<=j:=hj;first | exact if_neg (by omega) | (split<;>first | omega | rfl)))) (by kernel_rfl) (fun i=>if i=12 then ij.ie.vX g5 wi PL 1 #[.int .i64 x] 3 else if i=13 then ij.ie.app g5 wi PL (yj wi.heap.size (.slice ua m uc) m (l.map aM) (.int .i64 x)) (aw pB)else RegG.aX.any _) ?_;intro C hC hne;have HC:=hid hC;have j7:∀ {z:Nat},z<wi.heap.size->¬ (Value.slice ua m uc).ownBlock=some z->∀ W: {W//C W},W.1.heap[z]? =wi.heap[z]? :=fun {z} h1 h2 W=>((hC W.1).1 W.2).keeps.keep z ⟨h1,GR z h2⟩
       have nbx:¬ (Value.slice ua m uc).ownBlock=some bx:=fun e=>cy IB HUR (by decide) bx e rfl
       have ngx:¬ (Value.slice ua m uc).ownBlock=some xg:=fun e=>by
        rcases ownBlock_ne (by decide) HUR IR.out with h5 | h5
        ·rw[h5]at e;cases e
        ·exact h5 (e.trans rfl)
       have o1:∀ W: {W//C W},W.1.cell? ⟨bx,1,none⟩=some (.slice (some ⟨xg,0,none⟩) n y1):=fun W=>(IB.same (j7 IB.lt nbx W)).cell 1
       have o2:∀ W: {W//C W},W.1.cell? ⟨xg,s,none⟩=some (.slice ua m uc):=fun W=>by
        have e:W.1.cell? ⟨xg,s,none⟩=wi.cell? ⟨xg,s,none⟩:=by unfold World.cell?;rw[j7 hxg ngx W]
        exact e.trans hxc
       have o3:∀ W: {W//C W},W.1.cell? ⟨b2,fV+k,none⟩=some (.int .i64 x):=fun W=>by
        have e:W.1.cell? ⟨b2,fV+k,none⟩=wi.cell? ⟨b2,fV+k,none⟩:=by unfold World.cell?;rw[j7 (z:=b2) (by have:=XI.size;omega) (fun e=>by have:=(aak b2 e).1;omega) W]
        exact e.trans hc2
       clear hC j7
       repeat (refine RegG.au (fun K hK=>?_);first | (refine RegG.cg rfl ?_;try go_simp;refine hK _ _ ?_;clear hK K) | (refine RegG.bV rfl rfl ?_;unfold aF;go_simp;refine hK _ _ ?_;clear hK K))
       refine RegG.au (fun K hK=>?_);refine RegG.ct rfl rfl (ij.ie.vX g5 wi PL 1 #[.int .i64 x] 3) rfl (fun W hW hN=>?_) (fun v hv=>?_)
       ·have hM:=(HC.out W).1 hW
        clear hW hK K
        (go_simp;exact⟨.below ((Ext.refl _).alloc _).below,⟨_,rfl⟩,fun b hb=>by cases hb;exact⟨ar.new _ _ _,Dd.fresh hM.size⟩⟩)
       obtain⟨x3,rfl⟩:=hv;go_simp;refine hK _ _ ?_;clear hK K;refine RegG.au (fun K hK=>?_);refine RegG.ct rfl rfl (ij.ie.app g5 wi PL (yj wi.heap.size (.slice ua m uc) m (l.map aM) (.int .i64 x)) (aw pB)) rfl (fun W hW hN=>?_) (fun v hv=>?_)
       ·have hM:=(HC.out W).1 hW
        clear hW hK K;refine ij.dN (w0:=wi) (PL:=PL) (p:=yj wi.heap.size (.slice ua m uc) m (l.map aM) (.int .i64 x)) (.tmp 58) (.tmp 63) 39 rfl iI (.int .i64 0) 8 Tryz.underlying39 y8 kP kQ kR rfl (show(0:Nat)<1 from by decide) Dd pB rfl (hM.old _ (aw pB) HUR) ⟨x3,0,none⟩ 1 rfl [.int .i64 x] rfl rfl (cO (hN.at 0 rfl (by kernel_rfl) x3 rfl).1) (by intro u hu;simp at hu;rw[hu];rfl) (by show m+1<=maxLen;unfold maxLen;omega) (by show(m+1)*8<=_;omega) (Nat.le_trans Xv hM.size) (show(0:Nat)<1 from by decide) hM.size (fun v W2 g1 g2 g3 _=>⟨g1,g2,g3⟩)
       obtain⟨yg,yh,hv2⟩:=hv;replace hv2:v=.slice yg (m+1) yh:=hv2;subst hv2;go_simp;refine hK _ _ ?_;clear hK K;refine RegG.bM (fun W7 hW hH=>?_);have hM:=(HC.out W7).1 hW;have Q0:Hid (ij.After g5 wi (yj wi.heap.size (.slice ua m uc) m (l.map aM) (.int .i64 x)) W7 (.slice yg (m+1) yh)):=hid (hH _ (aw (show _=some _ from rfl:_[0]? =some _)));have K7:Hid (ae (fun z=>z<wi.heap.size/\(Value.slice ua m uc).ownBlock≠some z) wi W7):=hid (hM.keeps.mono fun z hz=>⟨hz.1,GR z hz.2⟩);clear hM hW hH hne o1 o2 o3 Dd GR pB hxc hc1 hc2 i0 i1 i2 j0 j1 j2;have IB7:=hid (IB.keeps K7 ⟨IB.lt,nbx⟩)
       have IR7:=hid (aj IR K7 fun z e=>⟨(IR.lt z e).2,fun e2=>by
        have e3:xg=z:=by simpa[Value.ownBlock]using e
        exact ngx (e3▸e2)⟩)
       have IC7:=hid (aj IC K7 fun z e=>⟨(IC.lt z e).2,fun e2=>by
        rcases ownBlock_ne (by decide) HUR IC.out with h5 | h5
        ·rw[h5]at e2;cases e2
        ·exact h5 (e2.trans e.symm)⟩)
       have RS7:Hid (dD W7 g5 n (us1.set s (.slice yg (m+1) yh)) (mN d k (s+1))):=hid (by
        obtain⟨⟨ns,h5,h6⟩,h7⟩:=Q0.out;have h6:ns=[.int .i64 x]:=h6;subst h6;rw[<-N7 d k hsN, <-HLE.out,HX9.out];refine IRS.more HXU hZ K7 ?_ h7;have e:(l++ [((x:Nat):Int)]).map aM=l.map aM++ [.int .i64 x]:=by rw[List.map_append];rfl
        rw[e,aJ, <-HME.out]
        exact h5)
       have IX7:Hid (ae (· <g5) wo W7):=hid (IX.tr (K7.mono fun z (hz:z<g5)=>⟨by omega,fun e=>by have:=(aak z e).1;omega⟩));obtain⟨sg,su,se,_,hsg,hsu,hsc,hsf⟩:=fB IR7 kS;cases se;clear Q0 K7;go_wp2;go_roundw;case rel=>
        have kg:ae (· ≠xg) W7 (W7.setCell ⟨xg,s,none⟩ (.slice yg (m+1) yh)):=(ae.refl _ _).setCell (p:=⟨xg,s,none⟩) (fun h=>h rfl) _;refine⟨s+1,us1.set s (.slice yg (m+1) yh),by omega,by go_num,IB7.keeps kg (fun e=>cy IB7 IR7 (by decide) xg rfl e.symm),aj IC7 kg fun z e e2=>?_,(IR7.stored s _).1,RS7.store IR7 _,IX7.tr (kg.mono fun z (hz:z<g5)=>by show z≠xg;omega)⟩;rcases ownBlock_ne (by decide) IC7 IR7.out with h5 | h5
        ·rw[h5]at e;cases e
        ·exact h5 (e.trans (by rw[e2];rfl))
       case measure=>simp[intOf];omega
      ·obtain rfl:s=n:=by omega
       have GI:¬ ((s:Int)<s):=by omega
       go_wp2_with fail
       go_meet
       refine⟨us1,IB,IC,IR,?_,IX⟩;have h5:=IRS.out;rw[show mN d k s=j4 d (k+1) by rw[HN.out];exact N4 hnw.out]at h5;exact h5
   case rest=>
   obtain⟨us2,jb,jc,jr,jrs,jx⟩:=hcut;obtain⟨W3,rfl⟩:=ag (wc:World);have JB:=hid jb;have JC:=hid jc;have JR:=hid jr;have JRS:=hid jrs;have JX:=hid jx;clear jb jc jr jrs jx c0 c1 Ue c3 k0 k1 k2 m0 m1 m2 hpc heq HQ Fw;have JK:=hid (BK.keeps JX (by show w.heap.size<g5;omega));obtain⟨sb,sof,e5,kJ,d0,d1,d2,d3⟩:=HCL.out k hlt;cases e5;have JW:Hid (aa w W3):=hid (XK.trans (JX.mono fun x (hx:x<w.heap.size)=>by show x<g5;omega:ae (· <w.heap.size) wo W3).below);have uz:∀ b o u,b<w.heap.size->w.cell? ⟨b,o,none⟩=some u->W3.cell? ⟨b,o,none⟩=some u:=fun b o u hb h=>((ae.ai JW fun _ h=>h:ae (· <w.heap.size) w W3).cell (p:=⟨b,o,none⟩) hb).trans h
   have VS:sb<W3.heap.size:=by have:=JW.size;omega
   replace d0:=uz _ _ _ kJ d0;replace d1:=uz _ _ _ kJ d1;replace d2:=uz _ _ _ kJ d2;replace d3:=uz _ _ _ kJ d3;obtain⟨gc2,oc2,e6,Am,c0,c1,Ue,c3⟩:=(fK (l:=kV d N k) (by unfold kV;rw[aQ,List.length_range];exact JC)).1.elem (yi d hbN);cases e6;rw[<-HOE.out]at c0 c1 Ue c3;simp only[Nat.zero_add]at c0 c1 Ue c3;obtain⟨t,hte⟩:=ag (d.cl.getD k 0);rw[<-hte]at d0 d1 d2 d3;have HTE:=hid hte;have CO:Hid (∀ W,ah 76 #[.agg (encS o),.agg (encS t)] W fun e w'=>e=.returned (.agg (encS (o ||| t)))/\Ext W w'):=hid fun W=>PK o t W
   obtain⟨k0,k1,k2⟩:=bN.qC JB;obtain⟨m0,m1,m2⟩:=bN.qC JK;clear uz hte;go_upto_region 13 with fail
   refine aL false (fun _=>False) (by kernel_rfl) 14 [0,1,0,0,8,0,56,120,0,256,0,1792,3840,8184,16383,32767] (fun i=>i==13) (by kernel_rfl) (fun i=>if i=13 then aX.yw _ (.agg (encS (o ||| t)))else aX.any _) ?_;intro C hC hne;have HC:=hid hC;have o0:=aC hC (p:=⟨bx,0,none⟩) JB.lt (fun h=>h) k0;have o1:=aC hC (p:=⟨w.heap.size,0,none⟩) JK.lt (fun h=>h) m0;have p0:=aC hC (p:=⟨gc,b*4,none⟩) Am (fun h=>h) c0;have p1:=aC hC (p:=⟨gc,b*4+1,none⟩) Am (fun h=>h) c1;have p2:=aC hC (p:=⟨gc,b*4+2,none⟩) Am (fun h=>h) Ue;have p3:=aC hC (p:=⟨gc,b*4+3,none⟩) Am (fun h=>h) c3;have r0:=aC hC (p:=⟨sb,sof+k*4,none⟩) VS (fun h=>h) d0;have r1:=aC hC (p:=⟨sb,sof+k*4+1,none⟩) VS (fun h=>h) d1;have r2:=aC hC (p:=⟨sb,sof+k*4+2,none⟩) VS (fun h=>h) d2;have r3:=aC hC (p:=⟨sb,sof+k*4+3,none⟩) VS (fun h=>h) d3;clear hC k0 k1 k2 m0 m1 m2 c0 c1 Ue c3 d0 d1 d2 d3
   repeat (refine au (fun K hK=>?_);first | (refine cg rfl ?_;try go_simp;refine hK _ _ ?_;clear hK K) | (refine bV rfl rfl ?_;unfold aF;go_simp;refine hK _ _ ?_;clear hK K))
   refine au (fun K hK=>?_);refine ct rfl rfl (aX.yw _ (.agg (encS (o ||| t)))) rfl (fun W hW hN=>?_) (fun v hv=>?_)
   ·have hM:=(HC.out W).1 hW
    clear hW;go_simp;refine bI ((CO W).mono ?_);rintro e w2 ⟨rfl,hx⟩;exact⟨_,rfl,Move.ai hx.below,rfl,trivial⟩
   replace hv:v=_:=hv;subst hv;go_simp;refine hK _ _ ?_;clear hK K;refine bM (fun W hW hH=>?_);have hM:=(HC.out W).1 hW;have ZB:=hid (JB.below hM.below JB.lt);have ZC:=hid (ak JC hM.below);have ZR:=hid (ak JR hM.below);have ZRS:=hid (JRS.below hM.below);have ZX:Hid (ae (· <g5) W2 W):=hid ((HX.tr JX).tr (ae.ai hM.below fun z (hz:z<g5)=>by have:=JX.size;have:=HX.size;omega:ae (· <g5) W3 W));clear hM hW hH HC hne o0 o1 p0 p1 p2 p3 r0 r1 r2 r3 JB JC JR JRS JX CO;obtain⟨gc3,oc3,e7,apl,c0,c1,Ue,c3⟩:=(fK (l:=kV d N k) (by unfold kV;rw[aQ,List.length_range];exact ZC)).1.elem (yi d hbN);cases e7;simp only[Nat.zero_add]at c0 c1 Ue c3;have y0':=ZC.frozenAt (b*4);have y1':=ZC.frozenAt (b*4+1);have y2':=ZC.frozenAt (b*4+2);have y3':=ZC.frozenAt (b*4+3);go_wp2;go_roundw;case rel=>
    obtain⟨W8,Xg⟩:=ag ((((W.setCell ⟨gc,b*4,none⟩ (.int .u64 (wd (o ||| t) 0).toNat)).setCell ⟨gc,b*4+1,none⟩ (.int .u64 (wd (o ||| t) 1).toNat)).setCell ⟨gc,b*4+2,none⟩ (.int .u64 (wd (o ||| t) 2).toNat)).setCell ⟨gc,b*4+3,none⟩ (.int .u64 (wd (o ||| t) 3).toNat));rw[<-Xg];have kg:ae (· ≠gc) W W8:=by rw[Xg];exact((((ae.refl _ _).setCell (p:=⟨gc,b*4,none⟩) (fun h=>h rfl) _).setCell (p:=⟨gc,b*4+1,none⟩) (fun h=>h rfl) _).setCell (p:=⟨gc,b*4+2,none⟩) (fun h=>h rfl) _).setCell (p:=⟨gc,b*4+3,none⟩) (fun h=>h rfl) _
    refine⟨k+1,us2,by omega,by go_num,ZB.keeps kg fun e=>cy ZB ZC (by decide) gc rfl e.symm,?_,aj ZR kg fun z e e2=>?_,ZRS.keeps kg fun u z hu e hz e2=>?_,ZX.tr (kg.mono fun z (hz:z<g5)=>by show z≠gc;omega)⟩
    ·have h5:=((((ZC.stored (b*4) (.int .u64 (wd (o ||| t) 0).toNat)).1.stored (b*4+1) (.int .u64 (wd (o ||| t) 1).toNat)).1.stored (b*4+2) (.int .u64 (wd (o ||| t) 2).toNat)).1.stored (b*4+3) (.int .u64 (wd (o ||| t) 3).toNat)).1
     rw[AG (o ||| t) (kV d N k) b (by unfold kV;rw[aQ,List.length_range];exact hbN),HBE.out,HOE.out,HTE.out,HBE.out,Te d (by rw[<-HBE.out];exact hbN)]at h5;rw[Xg,HBE.out,HOE.out,HTE.out,HBE.out];exact h5
    ·rcases ownBlock_ne (by decide) ZR ZC.out with h5 | h5
     ·rw[h5]at e;cases e
     ·exact h5 (e.trans (by rw[e2];rfl))
    ·obtain⟨i,hi⟩:=List.mem_iff_getElem?.1 hu
     have gJ:=(List.getElem?_eq_some_iff.1 hi).1;have hr5:=ZRS.rows i u _ hi (az (by rw[ZRS.l2, <-ZRS.l1];exact gJ));rcases ownBlock_ne (by decide) hr5 ZC.out with h5 | h5
     ·rw[h5]at e;cases e
     ·exact h5 (e.trans (by rw[e2];rfl))
   case measure=>simp[intOf];omega
  ·obtain rfl:k=K:=by omega
   have eE:¬ ((k:Int)<k):=by omega
   have RF:=hid (R2.keeps HX (by show w.heap.size+1<g5;omega));have XK:Hid (aa w wo):=hid (X2.trans (HX.mono fun x (hx:x<w.heap.size)=>by show x<g5;omega:ae (· <w.heap.size) W2 wo).below);obtain⟨⟨k0,k1,k2⟩,_⟩:=HB.three;obtain⟨⟨l0,l1,l2⟩,z0,z1,z2⟩:=RF.three;go_wp2;refine bA ?_;intro W9 gj;have E9:Hid (ar W9 (w.heap.size+1) #[.slice x0 N y0,.slice x1 n y1,.slice a2 n c2] 29/\ae (· ≠w.heap.size+1) wo W9):=by rw[gj];exact hid ⟨RF.yU,fE _ _ _ _ _⟩
   clear gj z0 z1 z2 k0 k1 k2 l0 l1 l2;obtain⟨⟨m0,m1,m2⟩,_⟩:=E9.1.three;refine bodyPost_ret (v:=.agg #[.slice x0 N y0,.slice x1 n y1,.slice a2 n c2]) (by simp[results,Tryz.results116,go_sem,m0,m1,m2]) rfl ⟨_,rfl,⟨_,_,_,rfl,?_,?_,?_⟩,XK.trans (E9.2.mono fun x (hx:x<w.heap.size)=>by show x≠w.heap.size+1;omega:ae (· <w.heap.size) wo W9).below⟩
   ·have h5:=aH (base':=base) (aj HC E9.2 fun x e=>by have:=(HC.lt x e).1;show x≠_;omega) (by omega)
    have e:kV d N k=(ic d).cl:=by rw[pA.out,HK.out];exact Tf d
    have e2:(ic d).cl.length=N:=by rw[<-e];unfold kV;rw[aQ,List.length_range]
    show W9.ownsRow base 56 4 _ (ic d).cl.length _;rw[e2, <-e];exact h5
   ·have e:j4 d k=(ic d).nx:=by rw[HK.out];exact Oa d
    have h5:bw g5 wo (.slice x1 n y1) (j4 d k):=RowsIn.ll WY.rows WY.l1 WY.l2 HR;rw[e]at h5;exact(h5.keeps E9.2 fun x h1 _=>by show x≠_;omega).base (by omega)
   ·exact H2.keeps (R:=(· <w.heap.size)) ((ae.ai XK fun _ h=>h:ae (· <w.heap.size) w wo).tr (E9.2.mono fun x (hx:x<w.heap.size)=>by show x≠w.heap.size+1;omega)) fun _ _ h=>h
end
section
open Go Go.RowKit Go.Shelf Go.Maps
def Gg (n0 n1 n2:Nat) (d:DF) (W:World) (e:Ending) (w':World):Prop:=
 ∃ a0 c0 a1 c1 a2 c2,e=.returned (.agg #[.slice a0 n0 c0,.slice a1 n1 c1,.slice a2 n2 c2])/\bN W.heap.size w' (.agg #[.slice a0 n0 c0,.slice a1 n1 c1,.slice a2 n2 c2]) d/\aa W w'
theorem dr.form {w:World} {v:Value} {d:DF} (h:dr w v d):∃ a0 c0 a1 c1 a2 c2,v=.agg #[.slice a0 d.cl.length c0,.slice a1 d.nx.length c1,.slice a2 d.mr.length c2]:=by obtain⟨v0,v1,v2,rfl,h0,h1,h2⟩:=h;obtain⟨a0,c0,rfl⟩:=h0.1.form;obtain⟨a1,c1,rfl⟩:=h1.form;obtain⟨a2,c2,rfl⟩:=h2.form;exact⟨_,_,_,_,_,_,rfl⟩
theorem Lp {d:DF} (rt:Rt d) {n0 n1 n2:Nat} (h0:n0=(bD d).cl.length) (h1:n1=(bD d).nx.length) (h2:n2=(bD d).mr.length) (W:World) (u:Value) (h:dr W u d):ah 115 #[u] W (qB n0 n1 n2 0 (bD d) W):=
 (Tb u d rt rt.ZF W h).mono fun e w' ⟨r,hr,hd,hx⟩=>by
  subst h0 h1 h2;obtain⟨a0,c0,a1,c1,a2,c2,rfl⟩:=hd.form;exact⟨a0,c0,a1,c1,a2,c2,hr,hd,hx⟩
theorem Od {d:DF} (rt:Rt d) (p:Nat->Nat) {n0 n1 n2:Nat} (h0:n0=(dn d p).cl.length) (h1:n1=(dn d p).nx.length) (h2:n2=(dn d p).mr.length) (W:World) (u pv:Value) (h:dr W u d) (hp:bQ (fun u:Value=>u) W pv ((List.range d.nx.length).map fun s=>cV (p s))):ah 81 #[u,pv] W (Gg n0 n1 n2 (dn d p) W):=
 (JD u pv d rt rt.ZF p W h hp).mono fun e w' ⟨r,hr,hd,hx⟩=>by
  subst h0 h1 h2;obtain⟨a0,c0,a1,c1,a2,c2,rfl⟩:=hd.form;exact⟨a0,c0,a1,c1,a2,c2,hr,hd,hx⟩
def Lq (base n0 n1 n2:Nat) (d:DF) (W:World) (e:Ending) (w':World):Prop:=
 ∃ a0 c0 a1 c1 a2 c2,e=.returned (.agg #[.slice a0 n0 c0,.slice a1 n1 c1,.slice a2 n2 c2])/\bN base w' (.agg #[.slice a0 n0 c0,.slice a1 n1 c1,.slice a2 n2 c2]) d/\aa W w'
theorem Gh {d:DF} (rt:Rt d) {n0 n1 n2:Nat} (h0:n0=(ic d).cl.length) (h1:n1=(ic d).nx.length) (h2:n2=(ic d).mr.length) (base:Nat) (W:World) (u:Value) (h:bN base W u d) (hb:base<=W.heap.size):ah 116 #[u] W (Lq base n0 n1 n2 (ic d) W):=
 (De base u d rt W h hb).mono fun e w' ⟨r,hr,hd,hx⟩=>by
  subst h0 h1 h2;obtain⟨a0,c0,a1,c1,a2,c2,rfl⟩:=hd.form;exact⟨a0,c0,a1,c1,a2,c2,hr,hd,hx⟩
theorem Df {w:World} {base n:Nat} {v:Value} {e:TypeId} {l:List Value} (h:w.ownsRow base e 1 v n l) (hn:n=l.length):bQ (fun u:Value=>u) w v l:=by
 have e1:l=l.map fun u:Value=>u:=by rw[List.map_id']
 rw[e1]at h;exact cZ h hn
theorem ar.yl {w:World} {b:Nat} {x0 x1 x2 y0 y1 y2:Value} {t:TypeId} (h:ar w b #[x0,x1,x2] t):ar (((w.setCell ⟨b,0,none⟩ y0).setCell ⟨b,1,none⟩ y1).setCell ⟨b,2,none⟩ y2) b #[y0,y1,y2] t:=((h.set 0 _).set 1 _).set 2 _
theorem ym {d:DF} (rt:Rt d) {k0 k1 k2:Nat} (tJ:k0=(cq d).cl.length) (lM:k1=(cq d).nx.length) (hk2:k2=(cq d).mr.length) (w:World) (v:Value) (h:dr w v d): ah 62 #[v] w (Gg k0 k1 k2 (cq d) w):=by
 have rt1:Rt (bD d):=mq rt;have rt2:Rt (dn (bD d) (kq (bD d))):=F5 rt1 (NY rt1);have rt3:Rt (uY d):=SN rt2;obtain⟨n0,dw⟩:=ag d.cl.length;obtain⟨n1,fH⟩:=ag d.nx.length;obtain⟨n2,jg⟩:=ag d.mr.length;obtain⟨n3,GV⟩:=ag ((bD d).cl.length);obtain⟨n4,RA⟩:=ag ((bD d).nx.length);obtain⟨n5,hn5⟩:=ag ((bD d).mr.length);obtain⟨m0,vn⟩:=ag ((dn (bD d) (kq (bD d))).cl.length);obtain⟨m1,rY⟩:=ag ((dn (bD d) (kq (bD d))).nx.length);obtain⟨m2,tT⟩:=ag ((dn (bD d) (kq (bD d))).mr.length);obtain⟨m3,hm3⟩:=ag ((uY d).cl.length);obtain⟨m4,uw⟩:=ag ((uY d).nx.length);obtain⟨m5,hm5⟩:=ag ((uY d).mr.length);obtain⟨R,hR⟩:=ag ((List.range (bD d).nx.length).map fun s=>cV (kq (bD d) s));have CT:Hid (∀ W u,dr W u d->ah 115 #[u] W (qB n3 n4 n5 0 (bD d) W)):=hid fun W u h=>Lp rt GV RA hn5 W u h
 have CB:Hid (∀ W u,dr W u (bD d)->ah 79 #[u] W fun e w'=>∃ a c,e=.returned (.slice a n4 c)/\w'.ownsRow W.heap.size 3 1 (.slice a n4 c) n4 R/\aa W w'):=hid fun W u h=>(yf u _ rt1 W h).mono fun e w' ⟨r,hr,ho,hx⟩=>by
  rw[<-hR, <-RA]at ho;obtain⟨a,c,rfl⟩:=ownsRow_form ho;exact⟨a,c,hr,ho,hx⟩
 have CM:Hid (∀ W u pv,dr W u (bD d)->bQ (fun u:Value=>u) W pv R->ah 81 #[u,pv] W (Gg m0 m1 m2 (dn (bD d) (kq (bD d))) W)):=hid fun W u pv h hp=>Od rt1 _ vn rY tT W u pv h (by rw[<-hR];exact hp)
 have CN:Hid (∀ base W u,bN base W u (dn (bD d) (kq (bD d)))->base<=W.heap.size->ah 116 #[u] W (Lq base m3 m4 m5 (uY d) W)):=hid fun base W u h hb=>Gh rt2 hm3 uw hm5 base W u h hb
 have CZ:Hid (∀ W u,dr W u (uY d)->ah 115 #[u] W (qB k0 k1 k2 0 (cq d) W)):=hid fun W u h=>Lp rt3 tJ lM hk2 W u h
 have YN:Hid (n4=R.length):=hid (by rw[hR,aQ,List.length_range];exact RA);obtain⟨a0,c0,a1,c1,a2,c2,rfl⟩:=h.form;rw[<-dw, <-fH, <-jg]at h ⊢;have H:=hid h;generalize dn (bD d) (kq (bD d))=d2 at*;generalize bD d=d1 at*;generalize uY d=d3 at*;generalize cq d=d4 at*;clear h rt rt1 rt2 rt3 dw fH jg GV RA hn5 vn rY tT hm3 uw hm5 tJ lM hk2 hR;go_enter Tryz.func62,Tryz.ntmps62;go_upto_region 1 with fail
 refine aA ?_;intro V hV;have B0:Hid (ar V w.heap.size #[.slice a0 n0 c0,.slice a1 n1 c1,.slice a2 n2 c2] 29):=hid (by rw[hV];exact(ar.new w _ _).alloc _);have R0:Hid (ar V (w.heap.size+1) #[.slice none 0 0,.slice none 0 0,.slice none 0 0] 29):=hid (by rw[hV];exact(ar.new (w.alloc _) _ _).at (by simp));have X0:Hid (aa w V):=hid (by rw[hV];exact(((Ext.refl w).alloc _).alloc _).below);clear hV;obtain⟨p0,p1,p2⟩:=bN.qC B0;go_wp2_with fail
 refine(CT V _ (H.below X0)).mono ?_;rintro e w1 ⟨x0,y0,x1,y1,x2,y2,rfl,ho,hx⟩;have O1:=hid ho;have B1:=hid (B0.below hx B0.lt);have R1:=hid (R0.below hx R0.lt);have X1:=hid (X0.trans (hx.mono X0.size));have hV1:w.heap.size+1<V.heap.size:=R0.lt;have hW1:V.heap.size<=w1.heap.size:=hx.size;clear ho hx p0 p1 p2 B0 R0 X0 CT;obtain⟨⟨p0,p1,p2⟩,z0,z1,z2⟩:=B1.three;go_upto_region 2 with fail
 refine aA ?_;intro V1 hV;have KV:Hid (ae (· ≠w.heap.size) w1 V1):=hid (by rw[hV];exact fE _ _ _ _ _);have B2:Hid (ar V1 w.heap.size #[.slice x0 n3 y0,.slice x1 n4 y1,.slice x2 n5 y2] 29):=hid (by rw[hV];exact B1.yl);clear hV p0 p1 p2 z0 z1 z2;have R2:=hid (R1.keeps KV (by omega));have O2:=hid (O1.keeps KV fun x h1 _=>by show x≠w.heap.size;omega);have X2:Hid (aa w V1):=hid (X1.trans (KV.mono fun x (hx:x<w.heap.size)=>by show x≠w.heap.size;omega:ae (· <w.heap.size) w1 V1).below);have hW2:w1.heap.size<=V1.heap.size:=KV.size;clear B1 R1 O1 X1 KV;obtain⟨p0,p1,p2⟩:=bN.qC B2;refine aL false (fun _=>False) (by kernel_rfl) 3 [0,0,2,7,15,31] (fun i=>i==2) (by kernel_rfl) (fun i=>if i=2 then aX.row V1.heap.size 3 1 n4 R else aX.any _) ?_;intro C hC hne;have HC:=hid hC;have f0:=aC hC (p:=⟨w.heap.size,0,none⟩) B2.lt (fun h=>h) p0;have f1:=aC hC (p:=⟨w.heap.size,1,none⟩) B2.lt (fun h=>h) p1;have f2:=aC hC (p:=⟨w.heap.size,2,none⟩) B2.lt (fun h=>h) p2;clear hC p0 p1 p2
 repeat (refine au (fun K hK=>?_);first | (refine cg rfl ?_;try go_simp;refine hK _ _ ?_;clear hK K) | (refine bV rfl rfl ?_;unfold aF;go_simp;refine hK _ _ ?_;clear hK K))
 refine au (fun K hK=>?_);refine ct rfl rfl (aX.row V1.heap.size 3 1 n4 R) rfl (fun W hW hN=>?_) (fun v hv=>?_)
 ·have hM:=(HC.out W).1 hW
  clear hW;go_simp;refine bI ((CB W _ (O2.below hM.below).df).mono ?_);rintro e w2 ⟨pa,pc,rfl,ho,hx⟩;exact⟨_,rfl,Move.ai hx,⟨_,_,rfl⟩,aH ho hM.size⟩
 obtain⟨pa,pc,rfl⟩:=hv;go_simp;refine hK _ _ ?_;clear hK K;refine bM (fun W hW hH=>?_);have hM:=(HC.out W).1 hW;have PR:Hid (W.ownsRow V1.heap.size 3 1 (.slice pa n4 pc) n4 R):=hid (hH _ (aw (show _=some _ from rfl:_[0]? =some _)));have B3:=hid (B2.below hM.below B2.lt);have R3:=hid (R2.below hM.below R2.lt);have O3:=hid (O2.below hM.below);have X3:=hid (X2.trans (hM.below.mono X2.size));have hW3:V1.heap.size<=W.heap.size:=hM.size;clear hM hW hH HC hne f0 f1 f2 B2 R2 O2 X2 CB;go_wp2_with fail
 refine(CM W _ _ O3.df (Df PR YN)).mono ?_;rintro e w3 ⟨s0,t0,s1,t1,s2,t2,rfl,ho,hx⟩;have OM:=hid ho;have B4:=hid (B3.below hx B3.lt);have R4:=hid (R3.below hx R3.lt);have X4:=hid (X3.trans (hx.mono X3.size));have KM:W.heap.size<=w3.heap.size:=hx.size;clear ho hx B3 R3 X3 O3 PR CM;go_wp2_with fail
 refine(CN W.heap.size w3 _ OM KM).mono ?_;rintro e w4 ⟨q0,r0,q1,r1,q2,r2,rfl,hd,hx⟩;have ON:=hid hd;have B5:=hid (B4.below hx B4.lt);have R5:=hid (R4.below hx R4.lt);have X5:=hid (X4.trans (hx.mono X4.size));have Zc:w3.heap.size<=w4.heap.size:=hx.size;clear hd hx B4 R4 X4 OM CN;obtain⟨⟨p0,p1,p2⟩,z0,z1,z2⟩:=B5.three;go_upto_region 3 with fail
 refine aA ?_;intro V5 hV;have KV:Hid (ae (· ≠w.heap.size) w4 V5):=hid (by rw[hV];exact fE _ _ _ _ _);have B6:Hid (ar V5 w.heap.size #[.slice q0 m3 r0,.slice q1 m4 r1,.slice q2 m5 r2] 29):=hid (by rw[hV];exact B5.yl);clear hV p0 p1 p2 z0 z1 z2;have R6:=hid (R5.keeps KV (by omega));have O6:=hid (ON.keeps KV fun x h1 _=>by show x≠w.heap.size;omega);have X6:Hid (aa w V5):=hid (X5.trans (KV.mono fun x (hx:x<w.heap.size)=>by show x≠w.heap.size;omega:ae (· <w.heap.size) w4 V5).below);have uM:w4.heap.size<=V5.heap.size:=KV.size;clear B5 R5 ON X5 KV;obtain⟨p0,p1,p2⟩:=bN.qC B6;go_wp2_with fail
 refine(CZ V5 _ O6.df).mono ?_;rintro e w5 ⟨g0,h0,g1,h1,g2,h2,rfl,ho,hx⟩;have OZ:=hid ho;have B7:=hid (B6.below hx B6.lt);have R7:=hid (R6.below hx R6.lt);have X7:=hid (X6.trans (hx.mono X6.size));have hW7:V5.heap.size<=w5.heap.size:=hx.size;clear ho hx p0 p1 p2 B6 R6 X6 O6 CZ;obtain⟨⟨p0,p1,p2⟩,z0,z1,z2⟩:=B7.three;go_upto_region 4 with fail
 refine aA ?_;intro V6 hV;have KV:Hid (ae (· ≠w.heap.size) w5 V6):=hid (by rw[hV];exact fE _ _ _ _ _);have B8:Hid (ar V6 w.heap.size #[.slice g0 k0 h0,.slice g1 k1 h1,.slice g2 k2 h2] 29):=hid (by rw[hV];exact B7.yl);clear hV p0 p1 p2 z0 z1 z2;have R8:=hid (R7.keeps KV (by omega));have O8:=hid (OZ.keeps KV fun x h1 _=>by show x≠w.heap.size;omega);have X8:Hid (aa w V6):=hid (X7.trans (KV.mono fun x (hx:x<w.heap.size)=>by show x≠w.heap.size;omega:ae (· <w.heap.size) w5 V6).below);clear B7 R7 OZ X7 KV;obtain⟨p0,p1,p2⟩:=bN.qC B8;obtain⟨⟨l0,l1,l2⟩,z0,z1,z2⟩:=R8.three;go_wp2;refine bA ?_;intro W9 gj;have E9:Hid (ar W9 (w.heap.size+1) #[.slice g0 k0 h0,.slice g1 k1 h1,.slice g2 k2 h2] 29/\ae (· ≠w.heap.size+1) V6 W9):=by
  rw[gj];exact hid ⟨R8.yl,fE _ _ _ _ _⟩
 clear gj z0 z1 z2 p0 p1 p2 l0 l1 l2;obtain⟨m0,m1,m2⟩:=bN.qC E9.1;refine bodyPost_ret (v:=.agg #[.slice g0 k0 h0,.slice g1 k1 h1,.slice g2 k2 h2]) (by simp[results,Tryz.results62,go_sem,m0,m1,m2]) rfl ⟨g0,h0,g1,h1,g2,h2,rfl,(O8.keeps E9.2 fun x h1 _=>by show x≠_;omega).base (by omega),X8.trans (E9.2.mono fun x (hx:x<w.heap.size)=>by show x≠w.heap.size+1;omega:ae (· <w.heap.size) V6 W9).below⟩
def Gi (w:World) (v:Value) (l:List (List (Nat×Nat×Nat))):Prop:=(∃ p c,v=.slice p 0 c/\l=[])\/
 ∃ b off c,v=.slice (some ⟨b,off,none⟩) l.length c/\b<w.heap.size/\l.length<=c/\l≠[]/\∀ (i:Nat) (s:List (Nat×Nat×Nat)),l[i]? =some s->s.length<=1000000000000000/\∃ u,dT w u s/\w.cell? ⟨b,off+i,none⟩=some u
theorem Gi.below {w w':World} {v:Value} {l:List (List (Nat×Nat×Nat))} (h:Gi w v l) (hk:aa w w'):Gi w' v l:=by
 rcases h with h | ⟨b,off,c,hv,hb,hc,hl,h⟩
 ·exact .inl h
 ·have hcell:∀ j,w'.cell? ⟨b,j,none⟩=w.cell? ⟨b,j,none⟩:=fun j=>(ae.ai hk fun _ h=>h:ae (· <w.heap.size) w w').cell (p:=⟨b,j,none⟩) hb
  refine .inr ⟨b,off,c,hv,aD hb hk.size,hc,hl,fun i s hi=>?_⟩;rw[hcell];obtain⟨h1,u,h3,h4⟩:=h i s hi;exact⟨h1,u,h3.below hk,h4⟩
def pT (w:World) (v:Value) (l:List (List (Nat×Nat×Nat))) (fl:Nat):Prop:=∃ u,v=.agg #[u,.int .u8 fl]/\Gi w u l
theorem pT.below {w w':World} {v:Value} {l:List (List (Nat×Nat×Nat))} {fl:Nat} (h:pT w v l fl) (hk:aa w w'):pT w' v l fl:=by obtain⟨u,h1,h2⟩:=h;exact⟨u,h1,h2.below hk⟩
theorem dT.cap {w:World} {a:Option Addr} {n c:Nat} {l:List (Nat×Nat×Nat)} (h:dT w (.slice a n c) l):l.length<=c:=by
 rcases h with⟨e,rfl⟩ | ⟨ad,c',e,rfl⟩ | ⟨b,off,c',e,hb,hc,hl,h⟩
 ·exact Nat.zero_le _
 ·exact Nat.zero_le _
 ·cases e;exact hc
theorem Th {m:Nat} (h:m<256):bits .and .u8 (m:Int) 1=((m%2:Nat):Int):=by
 have h1:∀ m:Fin 256,bits .and .u8 ((m.val:Nat):Int) 1=((m.val%2:Nat):Int):=by decide+kernel
 exact h1 ⟨m,h⟩
theorem aal {fl:Nat} (pG:fl<256) (k:Nat):(bits .and .u8 ((fl:Int)/2^k) 1==1)=(fl/2^k%2==1):=by
 have h1:(fl:Int)/2^k=((fl/2^k:Nat):Int):=by simp
 rw[h1,Th (Nat.lt_of_le_of_lt (Nat.div_le_self _ _) pG)];rcases Nat.mod_two_eq_zero_or_one (fl/2^k)with h | h<;>rw[h]<;>rfl
def yo (n0 n1 n2:Nat) (ok:Bool) (d:DF) (W:World) (e:Ending) (w':World):Prop:=
 ∃ a0 c0 a1 c1 a2 c2,e=.returned (.tuple #[.agg #[.slice a0 n0 c0,.slice a1 n1 c1,.slice a2 n2 c2],.bool ok])/\bN W.heap.size w' (.agg #[.slice a0 n0 c0,.slice a1 n1 c1,.slice a2 n2 c2]) d/\aa W w'
theorem dT.JG {w:World} {a:Option Addr} {n c m:Nat} {l:List (Nat×Nat×Nat)} (h:dT w (.slice a n c) l) (hm:m=min n 12):dT w (.slice a m c) (l.take 12):=by
 rcases h with⟨e,rfl⟩ | ⟨ad,c',e,rfl⟩ | ⟨b,off,c',e,hb,hc,hl,h⟩
 ·cases e
  obtain rfl:m=0:=by omega
  exact .inl ⟨rfl,rfl⟩
 ·cases e
  obtain rfl:m=0:=by omega
  exact .inr (.inl ⟨ad,c,rfl,rfl⟩)
 ·cases e
  have hlen:(l.take 12).length=m:=by rw[List.length_take];omega
  refine .inr (.inr ⟨b,off,c,by rw[hlen],hb,by omega,?_,fun i s hi=>h i s ?_⟩)
  ·intro e
   have h1:=congrArg List.length e;rw[hlen]at h1;have h2:l.length≠0:=fun e=>hl (List.eq_nil_of_length_eq_zero e)
   have h3:m=0:=h1;omega
  ·by_cases hi2:i<12
   ·rwa[List.getElem?_take_of_lt hi2]at hi
   ·rw[aS (by rw[List.length_take];omega)]at hi;cases hi
theorem uI (p:Option Addr) (c:Nat) (fl:Nat) (pG:fl<256) (l:List (List (Nat×Nat×Nat))) {d:DF} {code:Int} (he:lp (di l fl) 60=(d,code)) (pE:code=0->0<d.nx.length) {n0 n1 n2:Nat} (h0:n0=d.cl.length) (h1:n1=d.nx.length) (h2:n2=d.mr.length) (w:World) (hc:l.length<=c) (iT:l.length<=1000000000000000) (hS:∀ (i:Nat) (s:List (Nat×Nat×Nat)),l[i]? =some s->∃ b off,p=some ⟨b,off,none⟩/\b<w.heap.size/\s.length<=1000000000000000/\∃ u,dT w u s/\w.cell? ⟨b,off+i,none⟩=some u) (hT:∀ W,aa w W->nN W): ah 11 #[.agg #[.slice p l.length c,.int .u8 fl]] w (yo n0 n1 n2 (code==0) d w):=by
 obtain⟨iP,hiP,VT,VU,aam⟩:=info_parts Tryz.ZG;have CO:Hid (∀ W u,aa w W->ji W u (di l fl)->ah 61 #[u,.int .i64 60] W (qB n0 n1 n2 code d W)):=hid fun W u hW hu=>FK (xE l fl pG) he h0 h1 h2 W u hu fun V hV=>hT V (hW.trans (hV.mono hW.size))
 have km:Hid (code=0->0<n1):=hid fun e=>by rw[h1];exact pE e
 obtain⟨ok,JH⟩:=ag ((code==0));rw[<-JH];have adU:=hid JH;clear JH;have HS:=hid hS;obtain⟨n,hn⟩:=ag l.length;obtain⟨N,hN⟩:=ag (min n 3);have l9:min (n:Int) 3=(N:Int):=by omega
 have Fm:N<=n:=by omega
 have hN3:N<=3:=by omega
 rw[<-hn]at hc iT ⊢;have Fo:N<=c:=by omega
 have pA:=hid hn;have HN:=hid hN;clear hS hn hN he pE h0 h1 h2 hT;go_enter Tryz.func11,Tryz.ntmps11;go_upto_region 1 with fail
 refine aA ?_;intro V hV;have B0:Hid (ar V w.heap.size #[.slice p n c,.int .u8 fl] 24):=hid (by rw[hV];exact(ar.new w _ _).alloc _);have R0:Hid (ar V (w.heap.size+1) #[.slice none 0 0,.slice none 0 0,.slice none 0 0] 29):=hid (by rw[hV];exact(ar.new (w.alloc _) _ _).at (by simp));have X0:Hid (aa w V):=hid (by rw[hV];exact(((Ext.refl w).alloc _).alloc _).below);clear hV;have b0:V.cell? ⟨w.heap.size,0,none⟩=some (.slice p n c):=B0.cell 0;go_wp2_with fail
 clear b0;go_loopw [4,19] (fun pv iv wr=>∃ k:Nat,k<=N/\iv=.int .i64 k/\fh V.heap.size wr pv ((di l fl).take k)/\aa V wr) (fun _ iv _=>N-(intOf iv).toNat);case atStart=>exact⟨0,by omega,rfl,fh.nil _ _,Below.refl _ _⟩
 case round=>
  obtain⟨k,hk,rfl,hI,hx⟩:=hrel;obtain⟨wo,rfl⟩:=ag (wr:World);have HI:=hid hI;have HX:=hid (X0.trans (hx.mono X0.size));have HVX:=hid hx;have BO:=hid (B0.below hx B0.lt);have RO:=hid (R0.below hx R0.lt);clear hI hx;by_cases hlt:k<N
  ·have eE:(k:Int)<N:=by omega
   obtain⟨s,hsk⟩:∃ s,l[k]? =some s:=⟨_,az (by have:=pA.out;omega)⟩;obtain⟨b,off,rfl,hb,hs9,u,hu,c0⟩:=HS.out k _ hsk;have wc:∀ (o:Nat) (u:Value),w.cell? ⟨b,o,none⟩=some u->wo.cell? ⟨b,o,none⟩=some u:=fun o u h=>((ae.ai HX fun _ h=>h:ae (· <w.heap.size) w wo).cell (p:=⟨b,o,none⟩) hb).trans h
   replace c0:=wc _ _ c0;obtain⟨ua,uc,rfl⟩:=hu.form;obtain⟨sn,kS⟩:=ag s.length;obtain⟨S,hSe⟩:=ag (min sn 12);have adV:min (sn:Int) 12=(S:Int):=by omega
   have hSn:S<=sn:=by omega
   have hsc:sn<=uc:=by rw[kS];exact hu.cap
   have hSc:S<=uc:=by omega
   rw[<-kS]at hu c0;have HU:=hid (hu.JG hSe);obtain⟨m,hm⟩:=ag (((di l fl).take k).length);obtain⟨pa,pc,OP,HI2⟩:∃ pa pc,_=Value.slice pa m pc/\Hid (fh V.heap.size wo (.slice pa m pc) ((di l fl).take k)):=by
    obtain⟨pa,pc,e⟩:=HI.form;rw[<-hm]at e;exact⟨pa,pc,e,hid (e▸HI.out)⟩
   subst OP;have HM:=hid hm;have hmN:m<=3:=by rw[hm,List.length_take];omega
   have HSK:=hid hsk;have hT9:(s.take 12).length<=1000000000000000:=by rw[List.length_take];omega
   clear HI hm hu hsk wc kS hSe;go_wp2_with fail
   refine(Jd _ (s.take 12) hT9 wo (HU.below HX)).mono ?_;rintro e w1 ⟨t,rfl,ht,hx1⟩;have HT:=hid ht;have X1:Hid (aa w w1):=hid (HX.trans (hx1.mono HX.size));have V1:Hid (aa V w1):=hid (HVX.trans (hx1.mono HVX.size));have P1:=hid (HI2.below hx1);have B1:=hid (BO.below hx1 BO.lt);obtain⟨tp,tc,rfl⟩:=ht.form;clear ht hx1 HI2 c0 HVX BO;go_wp2_with fail
   refine(Al _ (gY (s.take 12)) w1 HT (nR _).fine (by have:=(nR (s.take 12)).size;omega) (nR _).cI).mono ?_;rintro e w2 ⟨u2,rfl,ho,hx2⟩;obtain⟨xa0,xn0,xc0,xa1,xn1,xc1,xa2,xn2,xc2,xa3,xn3,xc3,rfl⟩:=ho.form;have HO:=hid (ho.base (base':=V.heap.size) V1.size);have X2:Hid (aa w w2):=hid (X1.trans (hx2.mono X1.size));have V2:Hid (aa V w2):=hid (V1.trans (hx2.mono V1.size));have P2:=hid (P1.below hx2);have B2:=hid (B1.below hx2 B1.lt);clear ho hx2 X1 P1 HT V1 B1;go_upto_region 8 with fail
   refine aA ?_;intro V3 cX;have BN:Hid (ar V3 w2.heap.size #[.slice xa0 xn0 xc0,.slice xa1 xn1 xc1,.slice xa2 xn2 xc2,.slice xa3 xn3 xc3,.bool (gY (s.take 12)).nf.emp] 118):=hid (by rw[cX];exact ar.new w2 _ _);have XV3:Hid (aa w2 V3):=hid (by rw[cX];exact((Ext.refl w2).alloc _).below);clear cX;have B3:=hid (B2.below XV3 B2.lt);have P3:=hid (P2.below XV3);have O3:=hid (HO.below XV3);have X3:Hid (aa w V3):=hid (X2.trans (XV3.mono X2.size));have V3':Hid (aa V V3):=hid (V2.trans (XV3.mono V2.size));obtain⟨f0,f1,f2,f3,f4⟩:=BN.five;have g1:V3.cell? ⟨w.heap.size,1,none⟩=some (.int .u8 fl):=B3.cell 1;have NI:=BN.lt;have hb3:=B3.lt;clear B2 P2 HO X2 V2 XV3;have hk3:k<3:=by omega
   obtain⟨bg,hbg⟩:=ag ((fl/2^k%2==1));obtain⟨mk,lH⟩:=ag (k*(fl/64):Nat);have Zi:qE fl k s=⟨(gY (s.take 12)).nf,bg,(mk:Int)⟩:=by rw[hbg,lH];rfl
   have HPT:=hid Zi;clear Zi;refine aL false (fun _=>False) (by kernel_rfl) 16 [0,0,0,4,0,28,60,124,0,0,512,1536,3584,7936,16382,32766,65535,131071] (fun i=>i==15) (by kernel_rfl) (fun i=>if i=15 then aX.rowOf 1 #[.slice xa0 xn0 xc0,.slice xa1 xn1 xc1,.slice xa2 xn2 xc2,.slice xa3 xn3 xc3,.bool (gY (s.take 12)).nf.emp,.bool bg,.int .i64 mk] 124 else aX.any _) ?_;intro C hC hne;have HC:=hid hC;have e0:=aC hC (p:=⟨w2.heap.size,0,none⟩) NI (fun h=>h) f0;have e1:=aC hC (p:=⟨w2.heap.size,1,none⟩) NI (fun h=>h) f1;have e2:=aC hC (p:=⟨w2.heap.size,2,none⟩) NI (fun h=>h) f2;have e3:=aC hC (p:=⟨w2.heap.size,3,none⟩) NI (fun h=>h) f3;have e4:=aC hC (p:=⟨w2.heap.size,4,none⟩) NI (fun h=>h) f4;have r1:=aC hC (p:=⟨w.heap.size,1,none⟩) hb3 (fun h=>h) g1;clear hC g1 f0 f1 f2 f3 f4
   repeat (refine au (fun K hK=>?_);first | (refine cg rfl ?_;try go_simp;refine hK _ _ ?_;clear hK K) | (refine bV rfl rfl ?_;unfold aF;go_simp;refine hK _ _ ?_;clear hK K))
   have fb:=aal pG k;rw[<-hbg]at fb;have fq:((fl:Int)/2^6)=((fl/64:Nat):Int):=by simp
   have hfm:fl/64<=3:=by omega
   have hfk:k*(fl/64)<=2*3:=Nat.mul_le_mul (by omega) hfm;have fw:IntKind.i64.wrap ((fl/64:Nat):Int)=((fl/64:Nat):Int):=IntWalk.i64_in _ (by omega);have fm:IntKind.i64.wrap ((k:Int)*IntKind.i64.wrap ((fl:Int)/64))=(mk:Int):=by rw[show((fl:Int)/64)=((fl/64:Nat):Int) by simp,fw,show(k:Int)*((fl/64:Nat):Int)=((k*(fl/64):Nat):Int) by simp, <-lH];exact IntWalk.i64_in _ (by omega)
   have fm2:IntKind.i64.wrap ((k:Int)*IntKind.i64.wrap ((fl:Int)/2^6))=(mk:Int):=fm;clear fq fw hbg lH;refine au (fun K hK=>?_);refine ct rfl rfl (aX.rowOf 1 #[.slice xa0 xn0 xc0,.slice xa1 xn1 xc1,.slice xa2 xn2 xc2,.slice xa3 xn3 xc3,.bool (gY (s.take 12)).nf.emp,.bool bg,.int .i64 mk] 124) rfl (fun W hW hN=>?_) (fun v hv=>?_)
   ·clear hW hK K hN
    refine Eo 115 124 (.tmp 51) rfl Tryz.underlying115 hiP VT VU (by decide) (by decide) #[.slice xa0 xn0 xc0,.slice xa1 xn1 xc1,.slice xa2 xn2 xc2,.slice xa3 xn3 xc3,.bool (gY (s.take 12)).nf.emp,.bool bg,.int .i64 mk] (by simp[Act.eval,fb,fm]) rfl ?_;exact⟨Move.ai ((Ext.refl _).alloc _).below,⟨_,rfl⟩,fun b hb=>by cases hb;exact ar.new _ _ _⟩
   obtain⟨bl,rfl⟩:=hv;go_simp;refine hK _ _ ?_;clear hK K;refine bM (fun W4 hW hH=>?_);have hM:=(HC.out W4).1 hW;have B4:Hid (ar W4 bl #[.slice xa0 xn0 xc0,.slice xa1 xn1 xc1,.slice xa2 xn2 xc2,.slice xa3 xn3 xc3,.bool (gY (s.take 12)).nf.emp,.bool bg,.int .i64 mk] 124):=hid (hH _ (aw (show _=some _ from rfl:_[0]? =some _)) bl rfl);have E4:Hid (aa V3 W4):=hid hM.below;clear hM hW hH HC fb fm fm2 e0 e1 e2 e3 e4 r1;have X4:Hid (aa w W4):=hid (X3.trans (E4.mono X3.size));have V4:Hid (aa V W4):=hid (V3'.trans (E4.mono V3'.size));have P4:=hid (P3.below E4);have O4:=hid (O3.below E4);have aiL:V.heap.size<=W4.heap.size:=V4.size;clear P3 E4 O3 BN B3 X3 V3';obtain⟨cs,g1,g2⟩:=P4.out;rw[<-HM.out]at g1;have G1:=hid g1;have G2:=hid g2;clear g1 g2 P4
   go_wp2_with (at_builtin;refine wpList_append_own_at _ rfl (.tmp 37) (.tmp 52) 115 rfl V.heap.size 124 iP (.agg #[.slice none 0 0,.slice none 0 0,.slice none 0 0,.slice none 0 0,.bool false,.bool false,.int .i64 0]) 7 120 Tryz.underlying115 hiP VT VU aam rfl (by decide) _ _ _ rfl G1 ⟨bl,0,none⟩ 1 1 [.slice xa0 xn0 xc0,.slice xa1 xn1 xc1,.slice xa2 xn2 xc2,.slice xa3 xn3 xc3,.bool (gY (s.take 12)).nf.emp,.bool bg,.int .i64 mk] rfl rfl (cO B4) (by
    intro u hu;simp only[List.mem_cons,List.not_mem_nil,or_false]at hu
    rcases hu with rfl | rfl | rfl | rfl | rfl | rfl | rfl<;>rfl) (by unfold maxLen;omega) (by omega) aiL ?_;intro v' w5 hown' hgrow hh hat;obtain⟨pa3,pc3,rfl⟩:=ownsRow_form hown';have Jk:=hid hown';have HG5:=hid hgrow;clear hown' hgrow hh hat)
   have P5:Hid (fh V.heap.size w5 (.slice pa3 (m+1) pc3) ((di l fl).take k++ [qE fl k s])):=hid (fh.more (by rw[<-HM.out];exact G1) G2 O4 HG5 (by rw[<-HM.out,HPT.out];exact Jk));have X5:Hid (aa V w5):=hid (V4.trans ((Below.refl _ _).grown HG5 V4.size (fun c e=>(G1.lt c e).1)));clear Jk HG5;go_roundw;case rel=>
    refine⟨k+1,by omega,by go_num,?_,X5⟩;rw[CG HSK.out hk3];exact P5
   case measure=>simp[intOf];omega
  ·obtain rfl:k=N:=by omega
   have Il:¬ ((k:Int)<k):=by omega
   have G6:Hid (fh V.heap.size wo _ (di l fl)):=hid (by
    have h5:=HI.out;rw[List.take_of_length_le (by rw[uD];have:=HN.out;have:=pA.out;omega)]at h5
    exact h5)
   clear HI;obtain⟨pa,pc,rfl⟩:=G6.form;go_wp2_with fail
   refine(CO wo _ HX G6.pts).mono ?_;rintro e w5 ⟨a0,c0,a1,c1,a2,c2,rfl,ho,hx⟩;have O5:=hid ho;have R5:=hid (RO.below hx RO.lt);have X5:=hid (HX.trans (hx.mono HX.size));have hsO:w.heap.size+1<wo.heap.size:=RO.lt;clear ho hx CO;go_upto_region 11 with fail
   refine aA ?_;intro V6 hV;obtain⟨db,hdb⟩:=ag w5.heap.size;have D6:Hid (ar V6 db #[.slice a0 n0 c0,.slice a1 n1 c1,.slice a2 n2 c2] 29):=hid (by rw[hV,hdb];exact ar.new w5 _ _);have uX:aa w5 V6:=by rw[hV];exact((Ext.refl _).alloc _).below
   have O6:=hid (O5.below uX);have R6:=hid (R5.below uX R5.lt);have X6:=hid (X5.trans (uX.mono X5.size));have hdr:w.heap.size+1<db:=by rw[hdb];exact R5.lt
   rw[<-hdb];have q0:V6.cell? ⟨db,0,none⟩=some (.slice a0 n0 c0):=D6.cell 0;have q1:V6.cell? ⟨db,1,none⟩=some (.slice a1 n1 c1):=D6.cell 1;have q2:V6.cell? ⟨db,2,none⟩=some (.slice a2 n2 c2):=D6.cell 2;clear hV uX O5 R5 X5 hdb;have aan:=D6.lt;have HF:Hid (∃ c,ar V6 (w.heap.size+1) c 29/\c.size=(#[.slice a0 n0 c0,.slice a1 n1 c1,.slice a2 n2 c2]:Array Value).size):=hid ⟨_,R6,rfl⟩;have JH:=adU.out;have hn:ok=true->decide ((0:Int)<n1)=true:=fun e=>by
    rw[JH]at e;have:=km.out (by simpa using e);exact decide_eq_true (by omega)
   have HN9:=hid hn;have alE:((code:Int)==0)=ok:=JH.symm;clear hn JH adU;refine bL (iU (w.heap.size+1) 29 #[.slice a0 n0 c0,.slice a1 n1 c1,.slice a2 n2 c2]) (iU.drew _ _ _ _) (fun _ _ _ h k=>h.trans k) (by kernel_rfl) 10 [0,0,2,6,14,30,62,126,254,15,1023] (fun i=>i==9) (by kernel_rfl) (fun i=>if i=9 then aX.wrote (w.heap.size+1) 29 #[.slice a0 n0 c0,.slice a1 n1 c1,.slice a2 n2 c2]else aX.any _) ?_;intro C hC _;have HC:=hid hC;have k0:∀ W: {W//C W},W.1.cell? ⟨db,0,none⟩=some (.slice a0 n0 c0):=fun W=>(((hC W.1).1 W.2).keeps.cell (p:=⟨db,0,none⟩) ⟨aan,by show ¬db=_;omega⟩).trans q0
   have k1:∀ W: {W//C W},W.1.cell? ⟨db,1,none⟩=some (.slice a1 n1 c1):=fun W=>(((hC W.1).1 W.2).keeps.cell (p:=⟨db,1,none⟩) ⟨aan,by show ¬db=_;omega⟩).trans q1
   have k2:∀ W: {W//C W},W.1.cell? ⟨db,2,none⟩=some (.slice a2 n2 c2):=fun W=>(((hC W.1).1 W.2).keeps.cell (p:=⟨db,2,none⟩) ⟨aan,by show ¬db=_;omega⟩).trans q2
   clear hC q0 q1 q2;cases ok with
   | false=>
    repeat (refine au (fun K hK=>?_);first | (refine cg rfl ?_;try go_simp;refine hK _ _ ?_;clear hK K) | (refine bV rfl rfl ?_;unfold aF;go_simp;refine hK _ _ ?_;clear hK K))
    refine au (fun K hK=>?_);refine ct rfl rfl (aX.wrote (w.heap.size+1) 29 #[.slice a0 n0 c0,.slice a1 n1 c1,.slice a2 n2 c2]) rfl (fun W hW hN=>?_) (fun v hv=>?_)
    ·have hM:=(HC.out W).1 hW
     obtain⟨c,hb,hcs⟩:=hM.old HF;obtain⟨x0,x1,x2,rfl⟩:∃ x0 x1 x2,c= #[x0,x1,x2]:=by
      have h4:c.toList.length=3:=by rw[Array.length_toList,hcs];rfl
      match hc:c.toList,h4 with
      | [x0,x1,x2],_=>exact⟨x0,x1,x2,by rw[<-Array.toArray_toList (xs:=c),hc]⟩
     have HB:=hid hb;obtain⟨⟨y0,y1,y2⟩,z0,z1,z2⟩:=hb.three;clear hW hN hK K hb hcs hM;go_simp;exact⟨iU.store ⟨(fE _ _ _ _ _).mono fun _ h=>h.2,fun h=>by cases h⟩ HB.yl,trivial,HB.yl⟩
    go_simp;refine hK _ _ ?_;clear hK K hv
    repeat (refine au (fun K hK=>?_);first | (refine cg rfl ?_;try go_simp;refine hK _ _ ?_;clear hK K) | (refine bV rfl rfl ?_;unfold aF;go_simp;refine hK _ _ ?_;clear hK K))
    refine bM (fun w9 hW hH=>?_);have hM:=(HC.out w9).1 hW;have H4:Hid (ar w9 (w.heap.size+1) #[.slice a0 n0 c0,.slice a1 n1 c1,.slice a2 n2 c2] 29):=hH _ (aY ..);have K9:Hid (ae (fun k=>k<V6.heap.size/\¬k=w.heap.size+1) V6 w9):=hid hM.keeps;clear hM hW hH HC HF k0 k1 k2;go_wp2;obtain⟨m0,m1,m2⟩:=bN.qC (H4.out:ar w9 (w.heap.size+1) #[.slice a0 n0 c0,.slice a1 n1 c1,.slice a2 n2 c2] 29);refine bodyPost_ret (v:=.tuple #[.agg #[.slice a0 n0 c0,.slice a1 n1 c1,.slice a2 n2 c2],.bool false]) (by simp[results,Tryz.results11,go_sem,m0,m1,m2]) rfl ⟨a0,c0,a1,c1,a2,c2,rfl,(O6.keeps K9 fun x h1 h2=>⟨h2,by omega⟩).base (by omega),X6.trans (K9.mono fun x (hx:x<w.heap.size)=>⟨by have:=X6.size;omega,by omega⟩:ae (· <w.heap.size) V6 w9).below⟩
   | true=>
    have d1:=HN9.out rfl;have d2:0<n1:=by have:=of_decide_eq_true d1;omega
    repeat (refine au (fun K hK=>?_);first | (refine cg rfl ?_;try go_simp;refine hK _ _ ?_;clear hK K) | (refine bV rfl rfl ?_;unfold aF;go_simp;refine hK _ _ ?_;clear hK K))
    refine au (fun K hK=>?_);refine ct rfl rfl (aX.wrote (w.heap.size+1) 29 #[.slice a0 n0 c0,.slice a1 n1 c1,.slice a2 n2 c2]) rfl (fun W hW hN=>?_) (fun v hv=>?_)
    ·have hM:=(HC.out W).1 hW
     obtain⟨c,hb,hcs⟩:=hM.old HF;obtain⟨x0,x1,x2,rfl⟩:∃ x0 x1 x2,c= #[x0,x1,x2]:=by
      have h4:c.toList.length=3:=by rw[Array.length_toList,hcs];rfl
      match hc:c.toList,h4 with
      | [x0,x1,x2],_=>exact⟨x0,x1,x2,by rw[<-Array.toArray_toList (xs:=c),hc]⟩
     have HB:=hid hb;obtain⟨⟨y0,y1,y2⟩,z0,z1,z2⟩:=hb.three;clear hW hN hK K hb hcs hM;go_simp;exact⟨iU.store ⟨(fE _ _ _ _ _).mono fun _ h=>h.2,fun h=>by cases h⟩ HB.yl,trivial,HB.yl⟩
    go_simp;refine hK _ _ ?_;clear hK K hv
    repeat (refine au (fun K hK=>?_);first | (refine cg rfl ?_;try go_simp;refine hK _ _ ?_;clear hK K) | (refine bV rfl rfl ?_;unfold aF;go_simp;refine hK _ _ ?_;clear hK K))
    refine bM (fun w9 hW hH=>?_);have hM:=(HC.out w9).1 hW;have H4:Hid (ar w9 (w.heap.size+1) #[.slice a0 n0 c0,.slice a1 n1 c1,.slice a2 n2 c2] 29):=hH _ (aY ..);have K9:Hid (ae (fun k=>k<V6.heap.size/\¬k=w.heap.size+1) V6 w9):=hid hM.keeps;clear hM hW hH HC HF k0 k1 k2;go_wp2;obtain⟨m0,m1,m2⟩:=bN.qC (H4.out:ar w9 (w.heap.size+1) #[.slice a0 n0 c0,.slice a1 n1 c1,.slice a2 n2 c2] 29);refine bodyPost_ret (v:=.tuple #[.agg #[.slice a0 n0 c0,.slice a1 n1 c1,.slice a2 n2 c2],.bool true]) (by simp[results,Tryz.results11,go_sem,m0,m1,m2]) rfl ⟨a0,c0,a1,c1,a2,c2,rfl,(O6.keeps K9 fun x h1 h2=>⟨h2,by omega⟩).base (by omega),X6.trans (K9.mono fun x (hx:x<w.heap.size)=>⟨by have:=X6.size;omega,by omega⟩:ae (· <w.heap.size) V6 w9).below⟩
theorem yq (v:Value) (fl:Nat) (pG:fl<256) (l:List (List (Nat×Nat×Nat))) (iT:l.length<=1000000000000000) {d:DF} {code:Int} (he:lp (di l fl) 60=(d,code)) (pE:code=0->0<d.nx.length) {n0 n1 n2:Nat} (h0:n0=d.cl.length) (h1:n1=d.nx.length) (h2:n2=d.mr.length) (w:World) (h:pT w v l fl) (hT:∀ W,aa w W->nN W): ah 11 #[v] w (yo n0 n1 n2 (code==0) d w):=by
 obtain⟨u,rfl,h⟩:=h;rcases h with⟨p,c,rfl,rfl⟩ | ⟨b,off,c,rfl,hb,hc,_,h⟩
 ·exact uI p c fl pG [] he pE h0 h1 h2 w (Nat.zero_le _) iT (fun i s hs=>by simp at hs) hT
 ·exact uI _ c fl pG l he pE h0 h1 h2 w hc iT (fun i s hs=>⟨b,off,rfl,hb,h i s hs⟩) hT
end
section
open Go Go.RowKit
set_option maxRecDepth 100000
theorem Tj {a b:DF} (ha:Rt a) (hb:Rt b):cq a=cq b↔cB a b (0,0)=none:=by
 rw[NW ha hb];constructor
 ·intro h
  cases e:cB a b (0,0)with
  | none=>rfl
  | some w=>
   have f:=kE ha hb e;exact absurd (h w f.TQ) (of_decide_eq_true f.ok)
 ·intro e w hw
  exact nZ ha hb (p:=(0,0)) ⟨ha.pos,hb.pos⟩ e hw
theorem JI {a b:DF} (ha:Rt a) (hb:Rt b) {s:List Nat} (hs:∀ c∈s,c<256) (h:a.mr.getD (bG a 0 s) []≠b.mr.getD (bG b 0 s) []):∃ w,cB a b (0,0)=some w/\qI (fun w=>qK a b (bG a 0 w,bG b 0 w)) w/\w.length<=s.length/\(s.length=w.length->∀ j x y,s.take j=w.take j->s[j]? =some x->w[j]? =some y->y<=x):=by
 cases e:cB a b (0,0)with
 | none=>exact absurd (nZ ha hb (p:=(0,0)) ⟨ha.pos,hb.pos⟩ e hs) h
 | some w=>
  have f:=kE ha hb e;have hp:qK a b (bG a 0 s,bG b 0 s)=true:=decide_eq_true h;exact⟨w,rfl,f,f.short s hs hp,fun hl=>f.lex s hs hp hl⟩
def yr (a b:DF) (P:List BS) (p:Nat×Nat) (k:Nat):Nat×Nat:=(en a p.1 (cls a.cl (lb P k)),en b p.2 (cls b.cl (lb P k)))
def vy (a b:DF) (P:List BS) (p:Nat×Nat):Nat->Nat->Option (List Nat)
 | 0,_=>none
 | f+1,i=>match(dp (yr a b P) (lb P) P.length p i)[i]? with
  | none=>none
  | some x=>if qK a b x.1 then some x.2 else vy a b P p f (i+1)
theorem AH {a b:DF} {P:List BS} (hP:partsOf (a.cl++b.cl)=P) (p:Nat×Nat):∀ f i,ib a b p f i=vy a b P p f i
 | 0,_=>rfl
 | f+1,i=>by
  have ih:=AH hP p f (i+1);have e:cm a b p i=dp (yr a b P) (lb P) P.length p i:=by
   unfold cm;have e2:rI a b=yr a b P:=by
    funext p k
    unfold rI yr;rw[hP]
   rw[e2,hP]
  rw[ib,vy,e,ih];cases (dp (yr a b P) (lb P) P.length p i)[i]? <;>rfl
theorem Oe {a b:DF} {P:List BS} (hP:partsOf (a.cl++b.cl)=P) (p:Nat×Nat):cB a b p=vy a b P p (a.nx.length*b.nx.length+1) 0:=AH hP p _ _
def kH:DF:=⟨[BitVec.allOnes 256],[[1],[0],[3],[2]],[[],[0],[],[0]]⟩
theorem Tk:(List.range 4).map (kq kH)=[0,1,0,1]:=by kernel_rfl
end
section
open Go Go.RowKit Go.Shelf Go.Maps
open Go.ChangeMaps (setBlock heap_setBlock_same)
def pD:Nat->List (Value×Value)->List MapEntry
 | _,[]=>[]
 | n,p::l=>⟨p.1,p.2,n⟩::pD (n+1) l
theorem om:∀ (l:List (Value×Value)) (n i:Nat),(pD n l)[i]? =(l[i]?).map fun p=>⟨p.1,p.2,n+i⟩
 | [],_,_=>by simp[pD]
 | p::l,n,0=>by simp[pD]
 | p::l,n,i+1=>by
  simp only[pD,List.getElem?_cons_succ,om l];rw[show n+1+i=n+(i+1) by omega]
theorem uJ:∀ (l:List (Value×Value)) (n:Nat) (q:Value×Value),pD n (l++ [q])=pD n l++ [⟨q.1,q.2,n+l.length⟩]
 | [],n,q=>by simp[pD]
 | p::l,n,q=>by
  simp only[List.cons_append,pD,uJ l,List.length_cons];rw[show n+1+l.length=n+(l.length+1) by omega]
def qN (w:World) (b:Nat) (l:List (Value×Value)):Prop:=w.heap[b]? =some (.map (pD 0 l).toArray l.length)
theorem qN.keeps {w w':World} {b:Nat} {l:List (Value×Value)} (h:qN w b l) {R:Nat->Prop} (hk:ae R w w') (hb:R b):qN w' b l:=(hk.keep b hb).trans h
theorem qN.lt {w:World} {b:Nat} {l:List (Value×Value)} (h:qN w b l):b<w.heap.size:=(Array.getElem?_eq_some_iff.1 h).1
theorem qN.below {w w':World} {b:Nat} {l:List (Value×Value)} (h:qN w b l) (hk:aa w w'):qN w' b l:=(hk.block b h.lt).trans h
theorem Gj {kt:TypeId} {l:List (Value×Value)} (hl:∀ p∈l,∃ k,keyOf Tryz.prog kt p.1=some k):∀ e∈pD 0 l,∃ k,keyOf Tryz.prog kt e.key=some k:=fun e he=>by
 obtain⟨i,hi⟩:=List.mem_iff_getElem?.1 he;rw[om]at hi;obtain⟨p,hp,rfl⟩:=Option.map_eq_some_iff.1 hi;exact hl p (aw hp)
theorem Lr {mt kt vt:TypeId} (K:Keyed Tryz.prog kt) (hu:Tryz.prog.underlying mt=some (.map kt vt)) {w:World} {z:Value} (hz:(zeroValue vt).run Tryz.prog w=.ok z w) {b:Nat} {l:List (Value×Value)} (h:qN w b l) (hl:∀ p∈l,∃ k,keyOf Tryz.prog kt p.1=some k) (q:Value) (hq:∃ k,keyOf Tryz.prog kt q=some k): ((∀ p∈l,p.1≠q)/\(Instr.lookup mt (.map (some b)) q true).run Tryz.prog w=.ok (.tuple #[z,.bool false]) w/\(Instr.lookup mt (.map (some b)) q false).run Tryz.prog w=.ok z w)\/ (∃ (i:Nat) (v:Value),l[i]? =some (q,v)/\(Instr.lookup mt (.map (some b)) q true).run Tryz.prog w=.ok (.tuple #[v,.bool true]) w/\(Instr.lookup mt (.map (some b)) q false).run Tryz.prog w=.ok v w):=by
 obtain⟨kl,hk⟩:=hq;have hb:w.heap[b]? =some (.map (pD 0 l).toArray l.length):=h;rcases K.find w hk (pD 0 l) (Gj hl)with⟨f1,f2⟩ | ⟨j,e0,f1,f2,f3⟩
 ·refine .inl ⟨fun p hp e=>?_,?_,?_⟩
  ·obtain⟨i,hi⟩:=List.mem_iff_getElem?.1 hp
   have:=om l 0 i;rw[hi]at this;exact f2 _ (aw this) e
  ·simp[Instr.lookup,run_underlying hu,MapKept.run_getObj_map hb,K.check w _ hk,f1,hz,Result.andThen]
  ·simp[Instr.lookup,run_underlying hu,MapKept.run_getObj_map hb,K.check w _ hk,f1,hz,Result.andThen]
 ·rw[om]at f2
  obtain⟨p,hp,rfl⟩:=Option.map_eq_some_iff.1 f2;obtain⟨p1,p2⟩:=p;cases f3;refine .inr ⟨j,p2,hp,?_,?_⟩
  ·simp[Instr.lookup,run_underlying hu,MapKept.run_getObj_map hb,K.check w _ hk,f1,Result.andThen]
  ·simp[Instr.lookup,run_underlying hu,MapKept.run_getObj_map hb,K.check w _ hk,f1,Result.andThen]
theorem Tl {mt kt vt:TypeId} (K:Keyed Tryz.prog kt) (hu:Tryz.prog.underlying mt=some (.map kt vt)) {w:World} {b:Nat} {l:List (Value×Value)} (h:qN w b l) (hl:∀ p∈l,∃ k,keyOf Tryz.prog kt p.1=some k) (q:Value) (hq:∃ k,keyOf Tryz.prog kt q=some k) (hno:∀ p∈l,p.1≠q) (v:Value): ∃ w',(Instr.mapUpdate mt (.map (some b)) q v).run Tryz.prog w=.ok () w'/\qN w' b (l++ [(q,v)])/\ae (· ≠b) w w'/\w'.heap.size=w.heap.size:=by
 obtain⟨kl,hk⟩:=hq;have hb:w.heap[b]? =some (.map (pD 0 l).toArray l.length):=h;rcases K.find w hk (pD 0 l) (Gj hl)with⟨f1,f2⟩ | ⟨j,e0,f1,f2,f3⟩
 ·refine⟨setBlock w b (.map (pD 0 (l++ [(q,v)])).toArray (l++ [(q,v)]).length),?_,heap_setBlock_same hb _,⟨rfl,rfl,rfl,by simp[setBlock],fun i hi=>by show(w.heap.setIfInBounds b _)[i]? =_;exact Array.getElem?_setIfInBounds_ne (Ne.symm hi)⟩,by simp[setBlock]⟩
  rw[uJ];simp[Instr.mapUpdate,run_underlying hu,MapKept.run_getObj_map hb,K.check w false hk,f1,MapKept.run_setObj_map _ hb,Result.andThen,setBlock]
 ·rw[om]at f2
  obtain⟨p,hp,rfl⟩:=Option.map_eq_some_iff.1 f2;exact absurd f3 (hno p (aw hp))
theorem Tryz.adW:(133:TypeId)<Tryz.prog.types.size:=of_decide_eq_true (by kernel_rfl)
theorem Tryz.aao:(match Tryz.prog.underlying 133 with | some (.array _ _) | some (.struct _)=>true | _=>false)=true:=by kernel_rfl
theorem Tryz.vz:Keyed Tryz.prog 133:=Keyed.of_law (deep_law_laid Tryz.laidOut (m:=2) (by omega) Tryz.adW (by kernel_rfl) Tryz.aao)
theorem Tryz.Og:Tryz.prog.keyType 133=true:=by kernel_rfl
theorem Tryz.Ls:Tryz.prog.cellsOf 133=2:=by kernel_rfl
theorem Gk (p:Nat×Nat) (h1:p.1<=4000) (h2:p.2<=4000):∃ l,keyOf Tryz.prog 133 (eu p)=some l:=by
 obtain⟨n,hn⟩:=Tryz.Qm;have hf:(eu p).formed Tryz.prog 133=true:=by simp[eu,Value.formed,Tryz.underlying133,Tryz.Ls]
 unfold keyOf;rw[Tryz.underlying133];simp only[Tryz.Og,hf,Bool.and_self,if_true];have hk:∃ ls,Tryz.prog.keyLits (Tryz.prog.types.size+1) 133 (eu p).cells.toList=some ls:=by
  rw[hn];unfold Program.keyLits;rw[Tryz.underlying133];simp[eu,Value.cells,Tryz.Ls,Tryz.Ql,Yy,h1,h2]
 obtain⟨ls,h⟩:=hk;rw[h];exact⟨_,rfl⟩
def yt (n0 K:Nat) (L1:List Value) (c:Value):Nat->Value->World->Prop
 | 0,v,W=>W.ownsRow n0 5 1 v K L1
 | 1,v,W=>W.ownsRow n0 5 1 v (K+1) (L1++ [c])
 | 2,v,W=>∀ b,v=.slice (some ⟨b,0,none⟩) 1 1->ar W b #[c] 5
 | _,_,_=>True
theorem oZ (n0 K:Nat) (L1:List Value) (c:Value):∀ i v A B,aa A B->yt n0 K L1 c i v A->yt n0 K L1 c i v B
 | 0,_,_,_,hb,h=>ak (show World.ownsRow _ _ _ _ _ _ _ from h) hb
 | 1,_,_,_,hb,h=>ak (show World.ownsRow _ _ _ _ _ _ _ from h) hb
 | 2,_,_,_,hb,h=>fun b e=>(h b e).below hb (h b e).lt
 | _+3,_,_,_,_,_=>trivial
theorem Dg {n0 K g cap:Nat} {L1:List Value} {c:Value} {W W':World} (ho:W.ownsRow n0 5 1 (.slice (some ⟨g,0,none⟩) K cap) K L1) (GJ:W'.ownsRow n0 5 1 (.slice (some ⟨g,0,none⟩) (K+1) cap) (K+1) (L1++ [c])) (hg:W.grownBy W' (some g)):∀ i v,yt n0 K L1 c i v W->yt n0 K L1 c i v W'
 | 0,v,h=>by
  have:=rF (Kb:=1) (L2:=[c]) (by decide) ho GJ hg 0 v h;exact this
 | 1,v,h=>by
  have:=rF (Kb:=1) (L2:=[c]) (by decide) ho GJ hg 1 v h;exact this
 | 2,v,h=>fun b e=>by
  have hb:=h b e;by_cases e2:b=g
  ·subst e2
   rcases ho.2 with⟨h1,_⟩ | ⟨g1,c1,agz,h1,_,f1,_,_,s1,_⟩
   ·cases h1
   ·cases h1
    rcases GJ.2 with⟨h2,_⟩ | ⟨g2,c2,UE,h2,_,f2,k2,_,s2,t2⟩
    ·cases h2
    ·cases h2
     unfold ar at hb;rw[hb]at f1;cases f1;have hc1:cap=1:=by simpa using s1.symm
     subst hc1;have hK:K=0:=by omega
     subst hK;have hL:L1=[]:=List.eq_nil_of_length_eq_zero (by have:=ho.1;omega);subst hL;have e3:UE= #[c]:=by
      apply Array.toList_inj.1;have e4:UE.toList.length=1:=by rw[Array.length_toList];omega
      have t3:UE.toList.take 1=[c]:=by simpa using t2
      rw[List.take_of_length_le (by omega)]at t3;exact t3
     unfold ar;rw[f2,e3]
  ·unfold ar
   rw[hg.block b hb.lt (fun e3=>e2 (by cases e3;rfl))];exact hb
 | _+3,_,_=>trivial
theorem JL {a b:DF} (ra:Rt a) (rb:Rt b) (s t c:Nat) (hs:s<a.nx.length) (ht:t<b.nx.length) (hc:c<256) (ab xb bb yb xa ya base base':Nat) (va vb:Value) (W:World) (h1:W.cell? ⟨ab,1,none⟩=some va) (h2:iZ W va a.nx) (h3:W.cell? ⟨bb,1,none⟩=some vb) (h4:iZ W vb b.nx) (h5:W.cell? ⟨xb,0,none⟩=some (.pointer (some ⟨xa,0,none⟩))) (h6:cQ W base (.pointer (some ⟨xa,0,none⟩)) a.cl) (h7:W.cell? ⟨yb,0,none⟩=some (.pointer (some ⟨ya,0,none⟩))) (h8:cQ W base' (.pointer (some ⟨ya,0,none⟩)) b.cl): ah 122 #[.agg #[.int .i64 s,.int .i64 t],.int .u8 c,.pointer (some ⟨ab,0,none⟩),.pointer (some ⟨xb,0,none⟩),.pointer (some ⟨bb,0,none⟩),.pointer (some ⟨yb,0,none⟩)] W fun e w'=>e=.returned (.agg #[.int .i64 (en a s (cls a.cl c):Nat),.int .i64 (en b t (cls b.cl c):Nat)])/\aa W w':=by
 have hka:cls a.cl c<a.cl.length:=ra.part.dB hc;have hkb:cls b.cl c<b.cl.length:=rb.part.dB hc;obtain⟨e1,e2⟩:=tG ra hs hka;obtain⟨e3,e4⟩:=tG rb ht hkb;obtain⟨a1,c1,rfl⟩:=h2.form;obtain⟨b1,d1,rfl⟩:=h4.form;obtain⟨g1,o1,ad1,cp1,rfl,hg1,hc1,vG⟩:=h2.elem (i:=s) (l:=a.nx.getD s []) (aW [] hs);obtain⟨g2,o2,Xq,Xr,rfl,hg2,hc2,hl2⟩:=h4.elem (i:=t) (l:=b.nx.getD t []) (aW [] ht);obtain⟨g3,o3,rfl,hg3,hc3⟩:=vG.elem e2;obtain⟨g4,o4,rfl,hg4,hc4⟩:=hl2.elem e4;rw[ra.len s hs]at hc1;rw[rb.len t ht]at hc2;obtain⟨k,hk⟩:=ag (cls a.cl c);obtain⟨l,hl⟩:=ag (cls b.cl c);obtain⟨x,hx⟩:=ag (en a s (cls a.cl c));obtain⟨y,hy⟩:=ag (en b t (cls b.cl c));obtain⟨n0,dw⟩:=ag a.cl.length;obtain⟨n1,fH⟩:=ag a.nx.length;obtain⟨m0,vn⟩:=ag b.cl.length;obtain⟨m1,rY⟩:=ag b.nx.length;replace hc3:W.cell? ⟨g3,o3+cls a.cl c,none⟩=some (.int .i64 (en a s (cls a.cl c):Nat)):=hc3;replace hc4:W.cell? ⟨g4,o4+cls b.cl c,none⟩=some (.int .i64 (en b t (cls b.cl c):Nat)):=hc4;rw[<-hx, <-hk]at hc3;rw[<-hy, <-hl]at hc4;rw[<-hx, <-hy];rw[<-dw]at hc1 hka;rw[<-vn]at hc2 hkb;rw[<-fH]at h1 hs;rw[<-rY]at h3 ht;rw[<-hk]at hka;rw[<-hl]at hkb;have CA:Hid (∀ W',aa W W'->ah 123 #[.pointer (some ⟨xa,0,none⟩),.int .u8 c] W' fun e w'=>e=.returned (.int .i64 k)/\w'=W'):=hid fun W' hW=>by rw[hk];exact zG _ base a.cl c hc W' (h6.below hW)
 have CB:Hid (∀ W',aa W W'->ah 123 #[.pointer (some ⟨ya,0,none⟩),.int .u8 c] W' fun e w'=>e=.returned (.int .i64 l)/\w'=W'):=hid fun W' hW=>by rw[hl];exact zG _ base' b.cl c hc W' (h8.below hW)
 have GI:(s:Int)<n1:=by omega
 have hti:(t:Int)<m1:=by omega
 have eE:(k:Int)<n0:=by omega
 have hli:(l:Int)<m0:=by omega
 have l1:ab<W.heap.size:=World.block_lt_of_cell? _ _ h1;have l3:bb<W.heap.size:=World.block_lt_of_cell? _ _ h3;have l5:xb<W.heap.size:=World.block_lt_of_cell? _ _ h5;have l7:yb<W.heap.size:=World.block_lt_of_cell? _ _ h7;clear h2 h4 h6 h8 e1 e2 e3 e4 vG hl2 hk hl hx hy dw fH vn rY ra rb;go_enter Tryz.func122,Tryz.ntmps122;go_upto_region 1 with fail
 refine aA ?_;intro V hV;have P0:Hid (ar V W.heap.size #[.int .i64 s,.int .i64 t] 133):=hid (by rw[hV];exact(ar.new W _ _).alloc _);have R0:Hid (ar V (W.heap.size+1) #[.int .i64 0,.int .i64 0] 133):=hid (by rw[hV];exact(ar.new (W.alloc _) _ _).at (by simp));have X0:Hid (aa W V):=hid (by rw[hV];exact(((Ext.refl W).alloc _).alloc _).below);clear hV;have uz:∀ b o u,b<W.heap.size->W.cell? ⟨b,o,none⟩=some u->V.cell? ⟨b,o,none⟩=some u:=fun b o u hb h=>((ae.ai X0 fun _ h=>h:ae (· <W.heap.size) W V).cell (p:=⟨b,o,none⟩) hb).trans h
 have hWV:W.heap.size<=V.heap.size:=X0.size;replace h1:=uz _ _ _ l1 h1;replace h3:=uz _ _ _ l3 h3;replace h5:=uz _ _ _ l5 h5;replace h7:=uz _ _ _ l7 h7;replace hc1:=uz _ _ _ hg1 hc1;replace hc2:=uz _ _ _ hg2 hc2;replace hc3:=uz _ _ _ hg3 hc3;replace hc4:=uz _ _ _ hg4 hc4;have p0:V.cell? ⟨W.heap.size,0,none⟩=some (.int .i64 s):=P0.cell 0;have p1:V.cell? ⟨W.heap.size,1,none⟩=some (.int .i64 t):=P0.cell 1;clear uz;refine aL false (fun _=>False) (by kernel_rfl) 22 [0,1,0,4,15,31,0,0,192,511,1023,0,2048,0,8192,30720,63488,0,0,393664,1046976,2095552,4194303,8388607] (fun i=>i==8 || i==19) (by kernel_rfl) (fun i=>if i=8 then aX.yw _ (.int .i64 k)else if i=19 then aX.yw _ (.int .i64 l)else aX.any _) ?_;intro C hC hne;have HC:=hid hC;have f1:=aC hC (p:=⟨ab,1,none⟩) (by show ab<V.heap.size;omega) (fun h=>h) h1;have f2:=aC hC (p:=⟨g1,o1+s,none⟩) (by show g1<V.heap.size;omega) (fun h=>h) hc1;have f3:=aC hC (p:=⟨g3,o3+k,none⟩) (by show g3<V.heap.size;omega) (fun h=>h) hc3;have f4:=aC hC (p:=⟨bb,1,none⟩) (by show bb<V.heap.size;omega) (fun h=>h) h3;have f5:=aC hC (p:=⟨g2,o2+t,none⟩) (by show g2<V.heap.size;omega) (fun h=>h) hc2;have f6:=aC hC (p:=⟨g4,o4+l,none⟩) (by show g4<V.heap.size;omega) (fun h=>h) hc4;have f7:=aC hC (p:=⟨xb,0,none⟩) (by show xb<V.heap.size;omega) (fun h=>h) h5;have f8:=aC hC (p:=⟨yb,0,none⟩) (by show yb<V.heap.size;omega) (fun h=>h) h7;have f9:=aC hC (p:=⟨W.heap.size,0,none⟩) P0.lt (fun h=>h) p0;have f10:=aC hC (p:=⟨W.heap.size,1,none⟩) P0.lt (fun h=>h) p1;clear hC h1 h3 h5 h7 hc1 hc2 hc3 hc4 p0 p1
 repeat (refine au (fun K hK=>?_);first | (refine cg rfl ?_;try go_simp;refine hK _ _ ?_;clear hK K) | (refine bV rfl rfl ?_;unfold aF;go_simp;refine hK _ _ ?_;clear hK K))
 refine au (fun K hK=>?_);refine ct rfl rfl (aX.yw _ (.int .i64 k)) rfl (fun W hW hN=>?_) (fun v hv=>?_)
 ·have hM:=(HC.out W).1 hW
  clear hW;go_simp;refine bI ((CA W (X0.trans (hM.below.mono hWV))).mono ?_);rintro e w2 ⟨rfl,rfl⟩;exact⟨_,rfl,Move.ai (Below.refl _ _),rfl,trivial⟩
 replace hv:v=_:=hv;subst hv;go_simp;refine hK _ _ ?_;clear hK K
 repeat (refine au (fun K hK=>?_);first | (refine cg rfl ?_;try go_simp;refine hK _ _ ?_;clear hK K) | (refine bV rfl rfl ?_;unfold aF;go_simp;refine hK _ _ ?_;clear hK K))
 refine au (fun K hK=>?_);refine ct rfl rfl (aX.yw _ (.int .i64 l)) rfl (fun W hW hN=>?_) (fun v hv=>?_)
 ·have hM:=(HC.out W).1 hW
  clear hW;go_simp;refine bI ((CB W (X0.trans (hM.below.mono hWV))).mono ?_);rintro e w2 ⟨rfl,rfl⟩;exact⟨_,rfl,Move.ai (Below.refl _ _),rfl,trivial⟩
 replace hv:v=_:=hv;subst hv;go_simp;refine hK _ _ ?_;clear hK K
 repeat (refine au (fun K hK=>?_);first | (refine cg rfl ?_;try go_simp;refine hK _ _ ?_;clear hK K) | (refine bV rfl rfl ?_;unfold aF;go_simp;refine hK _ _ ?_;clear hK K))
 refine bM (fun W2 hW hH=>?_);have hM:=(HC.out W2).1 hW;have R2:=hid (R0.below hM.below R0.lt);have X2:=hid (X0.trans (hM.below.mono hWV));clear hM hW hH HC hne f1 f2 f3 f4 f5 f6 f7 f8 f9 f10;have r0:=R2.cell 0;have r1:=R2.cell 1;have z0:=R2.frozen 0;have z1:=R2.frozen 1;simp only[List.getElem?_toArray,List.getElem?_cons_zero,List.getElem?_cons_succ]at r0 r1;go_wp2;refine bA ?_;intro W9 gj;have E9:Hid (ar W9 (W.heap.size+1) #[.int .i64 x,.int .i64 y] 133/\ae (· ≠W.heap.size+1) W2 W9):=by
  rw[gj];exact hid ⟨(R2.set 0 _).set 1 _,((ae.refl _ _).setCell (p:=⟨W.heap.size+1,0,none⟩) (fun h=>h rfl) _).setCell (p:=⟨W.heap.size+1,1,none⟩) (fun h=>h rfl) _⟩
 clear gj r0 r1 z0 z1;have q0:=E9.1.cell 0;have q1:=E9.1.cell 1;simp only[List.getElem?_toArray,List.getElem?_cons_zero,List.getElem?_cons_succ]at q0 q1;refine bodyPost_ret (v:=.agg #[.int .i64 x,.int .i64 y]) (by simp[results,Tryz.results122,go_sem,q0,q1]) rfl ⟨rfl,X2.trans (E9.2.mono fun z (hz:z<W.heap.size)=>by show z≠W.heap.size+1;omega:ae (· <W.heap.size) W2 W9).below⟩
structure zk (W:World) (base mp:Nat) (E:List ((Nat×Nat)×List Nat)) (es:List (Value×Value)):Prop where
 len:es.length=E.length
 map:qN W mp es
 Xw:∀ (i:Nat) (x:(Nat×Nat)×List Nat),E[i]? =some x->∃ v,es[i]? =some (eu x.1,v)/\W.ownsRow base 5 1 v x.2.length (x.2.map cU)
theorem zk.below {W W':World} {base mp:Nat} {E:List ((Nat×Nat)×List Nat)} {es:List (Value×Value)} (h:zk W base mp E es) (hk:aa W W'):zk W' base mp E es:=
 ⟨h.len,h.map.below hk,fun i x hx=>by
  obtain⟨v,h1,h2⟩:=h.Xw i x hx
  exact⟨v,h1,ak h2 hk⟩⟩
theorem zk.kept {W W':World} {base mp b2 n size:Nat} {e:TypeId} {v:Value} {xs:List Value} {E:List ((Nat×Nat)×List Nat)} {es:List (Value×Value)} (h:zk W base mp E es) (ho:W.ownsRow b2 e size v n xs) (he:5≠e) (hg:W.grownBy W' v.ownBlock):zk W' base mp E es:=
 ⟨h.len,(hg.block mp h.map.lt (fun e2=>lZ ho h.map (fun c fz e=>by cases e) mp e2.symm rfl)).trans h.map,fun i x hx=>by
  obtain⟨v,h1,h2⟩:=h.Xw i x hx
  exact⟨v,h1,h2.kept hg (ownBlock_ne he h2 ho)⟩⟩
theorem zk.put {W W':World} {base mp:Nat} {E:List ((Nat×Nat)×List Nat)} {es:List (Value×Value)} {q:Nat×Nat} {wd:List Nat} {v:Value} (h:zk W base mp E es) (hv:W.ownsRow base 5 1 v wd.length (wd.map cU)) (hm:qN W' mp (es++ [(eu q,v)])) (hk:ae (· ≠mp) W W'):zk W' base mp (E++ [(q,wd)]) (es++ [(eu q,v)]):=by
 have hrow:∀ (u:Value) (n:Nat) (xs:List Value),W.ownsRow base 5 1 u n xs->W'.ownsRow base 5 1 u n xs:=fun u n xs ho=>aj ho hk fun x hx=>lZ ho h.map (fun c fz e=>by cases e) x hx
 refine⟨by rw[aJ,aJ,h.len];rfl,hm,fun i x hx=>?_⟩;by_cases hi:i<E.length
 ·rw[bK hi]at hx
  obtain⟨u,h1,h2⟩:=h.Xw i x hx;exact⟨u,by rw[bK (by rw[h.len];exact hi)];exact h1,hrow _ _ _ h2⟩
 ·have gJ:=(List.getElem?_eq_some_iff.1 hx).1
  rw[aJ,List.length_singleton]at gJ;obtain rfl:i=E.length:=by omega
  rw[cM (aG _),Nat.sub_self]at hx;cases hx;exact⟨v,by rw[cM (by rw[h.len];exact aG _),h.len,Nat.sub_self];rfl,hrow _ _ _ hv⟩
theorem zk.keys {W:World} {base mp:Nat} {E:List ((Nat×Nat)×List Nat)} {es:List (Value×Value)} (h:zk W base mp E es) (hE:∀ y∈E,y.1.1<=4000/\y.1.2<=4000):∀ p∈es,∃ k,keyOf Tryz.prog 133 p.1=some k:=fun p hp=>by
 obtain⟨i,hi⟩:=List.mem_iff_getElem?.1 hp;have gJ:=(List.getElem?_eq_some_iff.1 hi).1;have hx:E[i]? =some (E[i]'(by rw[<-h.len];exact gJ)):=az _;obtain⟨v,h1,_⟩:=h.Xw i _ hx;rw[hi]at h1;cases h1;obtain⟨h2,h3⟩:=hE _ (aw hx);exact Gk _ h2 h3
set_option maxRecDepth 100000
theorem zk.look {W:World} {base mp:Nat} {E:List ((Nat×Nat)×List Nat)} {es:List (Value×Value)} (h:zk W base mp E es) (hE:∀ y∈E,y.1.1<=4000/\y.1.2<=4000) (q:Nat×Nat) (h1:q.1<=4000) (h2:q.2<=4000): (q∉E.map Prod.fst/\(∀ p∈es,p.1≠eu q)/\(Instr.lookup 206 (.map (some mp)) (eu q) true).run Tryz.prog W=.ok (.tuple #[.slice none 0 0,.bool false]) W)\/ (∃ (i:Nat) (wd:List Nat) (v:Value),E[i]? =some (q,wd)/\W.ownsRow base 5 1 v wd.length (wd.map cU)/\(Instr.lookup 206 (.map (some mp)) (eu q) true).run Tryz.prog W=.ok (.tuple #[v,.bool true]) W/\(Instr.lookup 206 (.map (some mp)) (eu q) false).run Tryz.prog W=.ok v W):=by
 have hz:(zeroValue 44).run Tryz.prog W=.ok (.slice none 0 0) W:=by kernel_rfl
 rcases Lr Tryz.vz Tryz.underlying206 hz h.map (h.keys hE) (eu q) (Gk q h1 h2)with⟨g1,g2,_⟩ | ⟨i,v,g1,g2,g3⟩
 ·refine .inl ⟨fun hm=>?_,g1,g2⟩
  obtain⟨y,hy,rfl⟩:=List.mem_map.1 hm;obtain⟨i,hi⟩:=List.mem_iff_getElem?.1 hy;obtain⟨v,h3,_⟩:=h.Xw i y hi;exact g1 _ (aw h3) rfl
 ·have gJ:=(List.getElem?_eq_some_iff.1 g1).1
  have hx:E[i]? =some (E[i]'(by rw[<-h.len];exact gJ)):=az _;obtain⟨u,h3,h4⟩:=h.Xw i _ hx;rw[g1]at h3;injection h3 with h3
  injection h3 with h5 h6
  subst h6;have h7:=zN h5;refine .inr ⟨i,_,v,?_,h4,g2,g3⟩;rw[hx];congr 1;exact Prod.ext h7.symm rfl
theorem zk.val {W:World} {base mp:Nat} {E:List ((Nat×Nat)×List Nat)} {es:List (Value×Value)} (h:zk W base mp E es) (hE:∀ y∈E,y.1.1<=4000/\y.1.2<=4000) (hn:(E.map Prod.fst).Nodup) {i:Nat} {x:(Nat×Nat)×List Nat} (hx:E[i]? =some x): ∃ a c,W.ownsRow base 5 1 (.slice a x.2.length c) x.2.length (x.2.map cU)/\∀ W',qN W' mp es->(Instr.lookup 206 (.map (some mp)) (eu x.1) false).run Tryz.prog W'=.ok (.slice a x.2.length c) W':=by
 obtain⟨v,h1,h2⟩:=h.Xw i x hx;obtain⟨a,c,rfl⟩:=ownsRow_form h2;refine⟨a,c,h2,fun W' Mj=>?_⟩;obtain⟨b1,b2⟩:=hE x (aw hx);have hz:(zeroValue 44).run Tryz.prog W'=.ok (.slice none 0 0) W':=by kernel_rfl
 rcases Lr Tryz.vz Tryz.underlying206 hz Mj (h.keys hE) (eu x.1) (Gk x.1 b1 b2)with⟨g1,_,_⟩ | ⟨j,v,g1,_,g3⟩
 ·exact absurd rfl (g1 _ (aw h1))
 ·have DK:=(List.getElem?_eq_some_iff.1 g1).1
  have hy:E[j]? =some (E[j]'(by rw[<-h.len];exact DK)):=az _;obtain⟨u,h3,_⟩:=h.Xw j _ hy;rw[g1]at h3;injection h3 with h3
  injection h3 with h5 _
  have e1:(E.map Prod.fst)[j]? =some x.1:=by rw[aO,hy];exact congrArg some (zN h5).symm
  have e2:(E.map Prod.fst)[i]? =some x.1:=by rw[aO,hx];rfl
  have e3:j=i:=(jR hn e1).symm.trans (jR hn e2);subst e3;rw[h1]at g1;injection g1 with g1
  injection g1 with _ g4
  rw[<-g4]at g3;exact g3
theorem zk.one {W:World} {base mp:Nat} {q:Nat×Nat} (h:qN W mp [(eu q,.slice none 0 0)]):zk W base mp [(q,[])] [(eu q,.slice none 0 0)]:=⟨rfl,h,fun i x hx=>by
 cases i with
 | zero=>cases hx;exact⟨_,rfl,World.ownsRow_nil _ _ _ _⟩
 | succ i=>simp at hx⟩
section
variable {α:Type} [DecidableEq α]
theorem yu {F:α->Nat->α} {lt:Nat->Nat} {x:α×List Nat} {E:List (α×List Nat)} :∀ k,∀ y∈ia F lt x E k,y∈E\/∃ j,j<k/\y=(F x.1 j,x.2++ [lt j])
 | 0,y,hy=>.inl hy
 | k+1,y,hy=>by
  rw[ia,nY]at hy;split at hy
  ·rcases yu k y hy with h | ⟨j,h1,h2⟩
   ·exact .inl h
   ·exact .inr ⟨j,by omega,h2⟩
  ·rcases List.mem_append.1 hy with hy | hy
   ·rcases yu k y hy with h | ⟨j,h1,h2⟩
    ·exact .inl h
    ·exact .inr ⟨j,by omega,h2⟩
   ·exact .inr ⟨k,by omega,by simpa using hy⟩
theorem lL {F:α->Nat->α} {lt:Nat->Nat} {K:Nat} {p0:α} :∀ n,∀ y∈dp F lt K p0 n,y.2.length<=n
 | 0,y,hy=>by
  have:y=(p0,[]):=by simpa[dp]using hy
  rw[this];exact aG _
 | n+1,y,hy=>by
  rw[dp]at hy;split at hy
  ·have:=lL n y hy;omega
  ·rename_i x hx
   rcases yu K y hy with h | ⟨j,_,h2⟩
   ·have:=lL n y h;omega
   ·have:=lL n x (aw hx)
    rw[h2,aJ,List.length_singleton];show x.2.length+1<=n+1;omega
end
theorem Gl {F:Nat×Nat->Nat->Nat×Nat} {lt:Nat->Nat} {x:(Nat×Nat)×List Nat} {E:List ((Nat×Nat)×List Nat)} :∀ k,E.length<=(ia F lt x E k).length
 | 0=>aG _
 | k+1=>by
  have h:=Gl (F:=F) (lt:=lt) (x:=x) (E:=E) k;rw[ia,nY];split
  ·exact h
  ·rw[aJ];omega
theorem Gm {F:Nat×Nat→Nat→Nat×Nat} {lt:Nat→Nat} {x:(Nat×Nat)×List Nat} {E:List ((Nat×Nat)×List Nat)} {k m:Nat} (h:k≤m):(ia F lt x E k).length≤ (ia F lt x E m).length:=by
  induction m with
  | zero => obtain rfl : k = 0 := by omega
            exact aG _
  | succ m ih =>
    by_cases e : k = m + 1
    · subst e; exact aG _
    · refine Nat.le_trans (ih (by omega)) ?_
      rw[ia,nY];split
      · exact aG _
      · rw[aJ];omega
theorem Tm (a1 a2:Option Addr) (c1 c2:Nat) (w:World):ah 33 #[.slice a1 0 c1,.slice a2 0 c2] w fun e w'=>e=.returned (.bool true)/\Ext w w':=by
 go_enter Tryz.func33,Tryz.ntmps33
 go_wp2;go_loopw [13] (fun i wr=>i=.int .i64 0/\Ext w wr) (fun _ _=>0);case atStart=>exact⟨rfl,Ext.refl _⟩
 case round=>
  obtain⟨rfl,hx⟩:=hrel;obtain⟨wo,rfl⟩:=ag (wr:World);have HX:=hid hx;clear hx;go_wp2;go_ret;exact⟨rfl,HX⟩
theorem take_eq_all {α:Type} {l1 l2:List α} {n:Nat} (h1:n=l1.length) (h2:n=l2.length) (h:l1.take n=l2.take n):l1=l2:=by rw[List.take_of_length_le (by omega),List.take_of_length_le (by omega)]at h;exact h
theorem Oh {α:Type} {l1 l2:List α} {k:Nat} {x:α} (h:l1.take k=l2.take k) (h1:l1[k]? =some x) (h2:l2[k]? =some x):l1.take (k+1)=l2.take (k+1):=by rw[List.take_add_one,List.take_add_one,h,h1,h2]
theorem Lt {α:Type} [BEq α] [LawfulBEq α] {l1 l2:List α} (h:l1.length≠l2.length):(l1==l2)=false:=by rw[beq_eq_false_iff_ne];intro e;exact h (by rw[e])
theorem aaq {α:Type} [BEq α] [LawfulBEq α] {l1 l2:List α} {k:Nat} {x y:α} (h1:l1[k]? =some x) (h2:l2[k]? =some y) (h:x≠y):(l1==l2)=false:=by rw[beq_eq_false_iff_ne];intro e;rw[e,h2]at h1;exact h (Option.some.inj h1).symm
theorem Tn (a1 a2:Option Addr) (n m c1 c2:Nat) (h:n≠m) (w:World):ah 33 #[.slice a1 n c1,.slice a2 m c2] w fun e w'=>e=.returned (.bool false)/\Ext w w':=by
 have d1:((n:Int)==m)=false:=by rw[beq_eq_false_iff_ne];omega
 have d2:((n:Int) != m)=true:=by rw[bne_iff_ne];omega
 have d3:¬ (n:Int)=m:=by omega
 go_enter Tryz.func33,Tryz.ntmps33
 go_wp2;go_ret;exact⟨rfl,Ext.refl _⟩
theorem AK (v1 v2:Value) (l1 l2:List Int) (w:World) (h1:jO aM w v1 l1) (h2:jO aM w v2 l2) (hn:l1.length<=1000000): ah 33 #[v1,v2] w fun e w'=>e=.returned (.bool (l1==l2))/\Ext w w':=by
 by_cases hl:l1.length=l2.length
 ·rcases Nat.eq_zero_or_pos l1.length with h0 | h0
  ·have e1:=List.eq_nil_of_length_eq_zero h0
   have e2:=List.eq_nil_of_length_eq_zero (hl▸h0);subst e1 e2;obtain⟨a1,c1,rfl⟩:=h1.form;obtain⟨a2,c2,rfl⟩:=h2.form;exact Tm a1 a2 c1 c2 w
  ·have g1:bQ aM w v1 l1:=by
    rcases h1 with h | ⟨h,_⟩
    ·exact h
    ·rw[h]at h0;exact absurd h0 (by simp)
   have g2:bQ aM w v2 l2:=by
    rcases h2 with h | ⟨h,_⟩
    ·exact h
    ·rw[h]at hl;simp at hl;rw[hl]at h0;exact absurd h0 (by simp)
   exact nw v1 v2 l1 l2 w g1 g2 hn
 ·rw[Lt hl]
  obtain⟨a1,c1,rfl⟩:=h1.form;obtain⟨a2,c2,rfl⟩:=h2.form;exact Tn _ _ _ _ _ _ hl w
theorem AO (v1 v2:Value) (l1 l2:List (List Int)) (w:World) (h1:rN w v1 l1) (h2:rN w v2 l2) (hn:l1.length<=1000000) (hs:∀ l∈l1,l.length<=1000000): ah 67 #[v1,v2,.func (.func 33) #[] #[]] w fun e w'=>e=.returned (.bool (l1==l2))/\aa w w':=by
 obtain⟨a1,c1,rfl⟩:=h1.form;obtain⟨a2,c2,rfl⟩:=h2.form;obtain⟨n,jB⟩:=ag l1.length;obtain⟨m,qQ⟩:=ag l2.length;rw[<-jB]at h1 hn ⊢;rw[<-qQ]at h2 ⊢;obtain⟨r,hr⟩:=ag ((l1==l2));rw[<-hr];have HN:=hid jB;have HM:=hid qQ;have HR:=hid hr;have H1:=hid h1;have H2:=hid h2;have HS:=hid hs;have eg:=Qk;clear h1 h2 jB qQ hr hs;by_cases hnm:n=m
 ·subst hnm
  go_enter Tryz.func67,Tryz.ntmps67
  go_wp2;go_loopw [17] (fun i wr=>∃ k:Nat,k<=n/\i=.int .i64 k/\l1.take k=l2.take k/\aa w wr) (fun i _=>n-(intOf i).toNat);case atStart=>exact⟨0,by omega,rfl,rfl,Below.refl _ _⟩
  case round=>
   obtain⟨k,hk,rfl,ht,hx⟩:=hrel;obtain⟨wo,rfl⟩:=ag (wr:World);have HX:=hid hx;have HT:=hid ht;by_cases hlt:k<n
   ·obtain⟨l,hl⟩:∃ l,l1[k]? =some l:=⟨_,az (by have:=HN.out;omega)⟩
    obtain⟨l',hl'⟩:∃ l,l2[k]? =some l:=⟨_,az (by have:=HM.out;omega)⟩;obtain⟨b,off,e1,k1,rfl,hb,x1,y1⟩:=(H1.below hx).elem hl;obtain⟨b',off',e2,k2,rfl,hb',x2,y2⟩:=(H2.below hx).elem hl';have eE:(k:Int)<n:=by omega
    obtain⟨q,hq⟩:=ag ((l==l'))
    have CE:Hid (ah 33 #[.slice e1 l.length k1,.slice e2 l'.length k2] wo fun e w'=>e=.returned (.bool q)/\Ext wo w'):=hid (by
     rw[hq];exact AK _ _ l l' wo y1 y2 (HS l (aw hl)))
    obtain⟨j,hj⟩:=ag l.length;obtain⟨j',hj'⟩:=ag l'.length;rw[<-hj]at x1 CE;rw[<-hj']at x2 CE;have HQ:=hid hq;have Hz:=hid hl;have Yr:=hid hl';clear hl hl' y1 y2 hx hj hj' ht hq;go_wp2_with fail
    refine(CE).mono ?_;rintro e w2 ⟨rfl,hx⟩;have XX:=hid (HX.trans (hx.below.mono HX.size));clear hx x1 x2;cases q with
    | true=>
     go_wp2;go_roundw;case rel=>exact⟨k+1,by omega,by go_num,Oh HT Hz (by rw[Yr.out,eq_of_beq HQ.symm]),XX⟩
     case measure=>simp[intOf];omega
    | false=>
     have hf:r=false:=by rw[HR.out];exact aaq Hz Yr (by intro e;have:=HQ.out;rw[e]at this;simp at this)
     go_wp2;go_ret;exact⟨by rw[hf];rfl,XX⟩
   ·obtain rfl:k=n:=by omega
    have hf:r=true:=by rw[HR.out,take_eq_all HN.out HM.out HT.out];simp
    clear hx ht;go_wp2;go_ret;exact⟨by rw[hf];rfl,HX⟩
 ·have hf:r=false:=by
   rw[HR.out];exact Lt (by have:=HN.out;have:=HM.out;omega)
  have d1:((n:Int)==m)=false:=by rw[beq_eq_false_iff_ne];omega
  have d2:((n:Int) != m)=true:=by rw[bne_iff_ne];omega
  have d3:¬ (n:Int)=m:=by omega
  go_enter Tryz.func67,Tryz.ntmps67
  go_wp2;go_ret;exact⟨by rw[hf];rfl,Below.refl _ _⟩
def eqD (a b:DF):Bool:=a.cl==b.cl&&a.nx==b.nx&&a.mr==b.mr
theorem VV {a b:DF} :eqD a b=true↔a=b:=by obtain⟨a0,a1,a2⟩:=a;obtain⟨b0,b1,b2⟩:=b;unfold eqD;simp[and_assoc]
theorem Gn (v v':Value) (d x:DF) (w:World) (h:Kp w v d) (h':Kp w v' x) (sm:Sm d): ah 17 #[v,v'] w fun e w'=>e=.returned (.bool (eqD d x))/\aa w w':=by
 obtain⟨v0,v1,v2,rfl,h0,h1,h2⟩:=h;obtain⟨a0,c0,rfl⟩:=h0.1.form;obtain⟨a1,c1,rfl⟩:=h1.form;obtain⟨a2,c2,rfl⟩:=h2.form;obtain⟨u0,u1,u2,rfl,g0,g1,g2⟩:=h';obtain⟨b0,e0,rfl⟩:=g0.1.form;obtain⟨b1,e1,rfl⟩:=g1.form;obtain⟨b2,e2,rfl⟩:=g2.form;have SM:=hid sm;have eg:=Qk;have H0:=hid h0.1;have H1:=hid h1;have H2:=hid h2;have G0:=hid g0.1;have G1:=hid g1;have G2:=hid g2;clear h0 h1 h2 g0 g1 g2 sm;obtain⟨r,hr⟩:=ag (eqD d x);rw[<-hr];have HR:Hid (r=(d.cl==x.cl&&d.nx==x.nx&&d.mr==x.mr)):=hid hr;clear hr;generalize d.cl.length=n0 at*;generalize d.nx.length=n1 at*;generalize d.mr.length=n2 at*;generalize x.cl.length=m0 at*;generalize x.nx.length=m1 at*;generalize x.mr.length=m2 at*;go_enter Tryz.func17,Tryz.ntmps17;go_wp2_with fail
 refine aI ?_;intro V hV;have B3:Hid (ar V w.heap.size #[.slice a0 n0 c0,.slice a1 n1 c1,.slice a2 n2 c2] 29):=by rw[hV];exact(ar.new _ _ _).alloc _
 have B4:Hid (ar V (w.heap.size+1) #[.slice b0 m0 e0,.slice b1 m1 e1,.slice b2 m2 e2] 29):=by rw[hV];exact(ar.new (w.alloc _) _ _).at (by simp)
 have HX:Hid (aa w V):=by rw[hV];exact(((Ext.refl w).alloc _).alloc _).below
 clear hV;refine(wy _ _ d.cl x.cl V (H0.below HX) (G0.below HX) SM.cl).mono ?_;rintro e w3 ⟨rfl,hx⟩;have X3:=hid (HX.trans (hx.below.mono HX.size));have D3:=hid (B3.ext hx);have D5:=hid (B4.ext hx);clear hx B3 B4 HX;obtain⟨⟨k0,k1,k2⟩,_⟩:=D3.three;obtain⟨⟨l0,l1,l2⟩,_⟩:=D5.three;obtain⟨q,hq⟩:=ag ((d.cl==x.cl));rw[<-hq]at HR ⊢;clear hq;cases q with
 | false=>
  go_wp2;go_ret;exact⟨by rw[HR.out];rfl,X3⟩
 | true=>
  go_wp2_with fail
  refine(AO _ _ d.nx x.nx _ (.inl (H1.below X3)) (.inl (G1.below X3)) SM.nx SM.Bn).mono ?_;rintro e w4 ⟨rfl,hx⟩;have X4:=hid (X3.trans (hx.mono X3.size));have E3:=hid (D3.below hx D3.lt);have E5:=hid (D5.below hx D5.lt);clear hx k0 k1 k2 l0 l1 l2;obtain⟨⟨k0,k1,k2⟩,_⟩:=E3.three;obtain⟨⟨l0,l1,l2⟩,_⟩:=E5.three;obtain⟨q,hq⟩:=ag ((d.nx==x.nx));rw[<-hq]at HR ⊢;clear hq;cases q with
  | false=>
   go_wp2;go_ret;exact⟨by rw[HR.out];rfl,X4⟩
  | true=>
   go_wp2_with fail
   refine(AO _ _ d.mr x.mr _ (.inl (H2.below X4)) (.inl (G2.below X4)) SM.mr SM.Yw).mono ?_;rintro e w5 ⟨rfl,hx⟩;have X5:=hid (X4.trans (hx.mono X4.size));clear hx k0 k1 k2 l0 l1 l2;rw[show(d.mr==x.mr)=r from HR.symm];go_wp2;go_ret;exact⟨rfl,X5⟩
theorem j5 {d:DF} (rt:Rt d) (v:Value) (W:World) (h:dr W v d):ah 16 #[v] W fun e w'=>e=.returned (.bool true)/\aa W w':=by have:=oD v d W h rt.ZF;rwa[(dF d).2 rt]at this
theorem JM {d:DF} (sm:Sm d) (hr:d.right=false) (v:Value) (W:World) (h:dr W v d):ah 16 #[v] W fun e w'=>e=.returned (.bool false)/\aa W w':=by have:=oD v d W h sm;rwa[hr]at this
theorem abw {d:DF} (sm:Sm d) (hr:d.right=false) (w:World) (v:Value) (h:dr w v d): ah 12 #[v] w fun e w'=>e=.returned (.tuple #[.agg #[.slice none 0 0,.slice none 0 0,.slice none 0 0],.int .i64 182])/\aa w w':=by
 have CR:Hid (∀ W,aa w W->ah 16 #[v] W fun e w'=>e=.returned (.bool false)/\aa W w'):=hid fun W hW=>JM sm hr v W (h.below hW)
 obtain⟨n0,dw⟩:=ag d.cl.length;obtain⟨n1,fH⟩:=ag d.nx.length;obtain⟨n2,jg⟩:=ag d.mr.length;obtain⟨a0,c0,a1,c1,a2,c2,rfl⟩:=h.form;rw[<-dw, <-fH, <-jg]at h CR ⊢;have H:=hid h;have sH:=hid fH;clear h dw fH jg;go_enter Tryz.func12,Tryz.ntmps12;go_upto_region 1 with fail
 refine aA ?_;intro V hV;have B0:Hid (ar V w.heap.size #[.slice a0 n0 c0,.slice a1 n1 c1,.slice a2 n2 c2] 29):=hid (by rw[hV];exact(ar.new w _ _).alloc _);have R0:Hid (ar V (w.heap.size+1) #[.slice none 0 0,.slice none 0 0,.slice none 0 0] 29):=hid (by rw[hV];exact(ar.new (w.alloc _) _ _).at (by simp));have X0:Hid (aa w V):=hid (by rw[hV];exact(((Ext.refl w).alloc _).alloc _).below);clear hV;obtain⟨p0,p1,p2⟩:=bN.qC B0;go_wp2_with fail
 refine(CR V X0).mono ?_;rintro e w1 ⟨rfl,hx⟩;have B1:=hid (B0.below hx B0.lt);have R1:=hid (R0.below hx R0.lt);have hV1:w.heap.size+1<V.heap.size:=R0.lt;have hW1:V.heap.size<=w1.heap.size:=hx.size;have X1:=hid (X0.trans (hx.mono X0.size));clear hx p0 p1 p2 B0 X0 CR R0;obtain⟨⟨l0,l1,l2⟩,z0,z1,z2⟩:=R1.three;go_wp2;refine bA ?_;intro W9 gj;have E9:Hid (ar W9 (w.heap.size+1) #[.slice none 0 0,.slice none 0 0,.slice none 0 0] 29/\ae (· ≠w.heap.size+1) w1 W9):=by rw[gj];exact hid ⟨R1.yl,fE _ _ _ _ _⟩
 clear gj z0 z1 z2 l0 l1 l2;obtain⟨m0,m1,m2⟩:=bN.qC E9.1;refine bodyPost_ret (v:=.tuple #[.agg #[.slice none 0 0,.slice none 0 0,.slice none 0 0],.int .i64 182]) (by simp[results,Tryz.results12,go_sem,m0,m1,m2]) rfl ⟨rfl,X1.trans (E9.2.mono fun x (hx:x<w.heap.size)=>by show x≠w.heap.size+1;omega:ae (· <w.heap.size) w1 W9).below⟩
theorem tH {d:DF} (rt:Rt d) {k0 k1 k2:Nat} (tJ:k0=(cq d).cl.length) (lM:k1=(cq d).nx.length) (hk2:k2=(cq d).mr.length) (w:World) (v:Value) (h:dr w v d): ah 12 #[v] w (qB k0 k1 k2 0 (cq d) w):=by
 have CR:Hid (∀ W,aa w W->ah 16 #[v] W fun e w'=>e=.returned (.bool true)/\aa W w'):=hid fun W hW=>j5 rt v W (h.below hW)
 have CL:Hid (∀ W,aa w W->ah 62 #[v] W (Gg k0 k1 k2 (cq d) W)):=hid fun W hW=>ym rt tJ lM hk2 W v (h.below hW)
 obtain⟨n0,dw⟩:=ag d.cl.length;obtain⟨n1,fH⟩:=ag d.nx.length;obtain⟨n2,jg⟩:=ag d.mr.length;obtain⟨a0,c0,a1,c1,a2,c2,rfl⟩:=h.form;rw[<-dw, <-fH, <-jg]at h CR CL ⊢;have H:=hid h;have sH:=hid fH;clear h dw fH jg tJ lM hk2;go_enter Tryz.func12,Tryz.ntmps12;go_upto_region 1 with fail
 refine aA ?_;intro V hV;have B0:Hid (ar V w.heap.size #[.slice a0 n0 c0,.slice a1 n1 c1,.slice a2 n2 c2] 29):=hid (by rw[hV];exact(ar.new w _ _).alloc _);have R0:Hid (ar V (w.heap.size+1) #[.slice none 0 0,.slice none 0 0,.slice none 0 0] 29):=hid (by rw[hV];exact(ar.new (w.alloc _) _ _).at (by simp));have X0:Hid (aa w V):=hid (by rw[hV];exact(((Ext.refl w).alloc _).alloc _).below);clear hV;obtain⟨p0,p1,p2⟩:=bN.qC B0;go_wp2_with fail
 refine(CR V X0).mono ?_;rintro e w1 ⟨rfl,hx⟩;have B1:=hid (B0.below hx B0.lt);have R1:=hid (R0.below hx R0.lt);have hV1:w.heap.size+1<V.heap.size:=R0.lt;have hW1:V.heap.size<=w1.heap.size:=hx.size;have X1:=hid (X0.trans (hx.mono X0.size));clear hx p0 p1 p2 B0 X0 CR R0;obtain⟨p0,p1,p2⟩:=bN.qC B1;go_wp2_with fail
 refine(CL w1 X1).mono ?_;rintro e w2 ⟨x0,y0,x1,y1,x2,y2,rfl,ho,hx⟩;have O2:=hid ho;have R2:=hid (R1.below hx R1.lt);have X2:=hid (X1.trans (hx.mono X1.size));clear ho hx p0 p1 p2 B1 R1 X1 CL;obtain⟨⟨l0,l1,l2⟩,z0,z1,z2⟩:=R2.three;go_wp2;refine bA ?_;intro W9 gj;have E9:Hid (ar W9 (w.heap.size+1) #[.slice x0 k0 y0,.slice x1 k1 y1,.slice x2 k2 y2] 29/\ae (· ≠w.heap.size+1) w2 W9):=by
  rw[gj];exact hid ⟨R2.yl,fE _ _ _ _ _⟩
 clear gj z0 z1 z2 l0 l1 l2;obtain⟨m0,m1,m2⟩:=bN.qC E9.1;refine bodyPost_ret (v:=.tuple #[.agg #[.slice x0 k0 y0,.slice x1 k1 y1,.slice x2 k2 y2],.int .i64 0]) (by simp[results,Tryz.results12,go_sem,m0,m1,m2]) rfl ⟨x0,y0,x1,y1,x2,y2,rfl,(O2.keeps E9.2 fun x h1 _=>by show x≠_;omega).base (by omega),X2.trans (E9.2.mono fun x (hx:x<w.heap.size)=>by show x≠w.heap.size+1;omega:ae (· <w.heap.size) w2 W9).below⟩
theorem Tp {d:DF} (rt:Rt d) {k0 k1 k2:Nat} (tJ:k0=(cq d).cl.length) (lM:k1=(cq d).nx.length) (hk2:k2=(cq d).mr.length) (w:World) (v:Value) (h:dr w v d): ah 14 #[v] w fun e w'=>e=.returned (.tuple #[.int .i64 k1,.int .i64 k0,.int .i64 0])/\aa w w':=by
 have CR:Hid (∀ W,aa w W->ah 16 #[v] W fun e w'=>e=.returned (.bool true)/\aa W w'):=hid fun W hW=>j5 rt v W (h.below hW)
 have CL:Hid (∀ W,aa w W->ah 62 #[v] W (Gg k0 k1 k2 (cq d) W)):=hid fun W hW=>ym rt tJ lM hk2 W v (h.below hW)
 obtain⟨n0,dw⟩:=ag d.cl.length;obtain⟨n1,fH⟩:=ag d.nx.length;obtain⟨n2,jg⟩:=ag d.mr.length;obtain⟨a0,c0,a1,c1,a2,c2,rfl⟩:=h.form;rw[<-dw, <-fH, <-jg]at h CR CL ⊢;have H:=hid h;have sH:=hid fH;clear h dw fH jg tJ lM hk2;go_enter Tryz.func14,Tryz.ntmps14;go_upto_region 1 with fail
 refine aA ?_;intro V hV;have B0:Hid (ar V w.heap.size #[.slice a0 n0 c0,.slice a1 n1 c1,.slice a2 n2 c2] 29):=hid (by rw[hV];exact ar.new w _ _);have X0:Hid (aa w V):=hid (by rw[hV];exact((Ext.refl w).alloc _).below);clear hV;obtain⟨p0,p1,p2⟩:=bN.qC B0;go_wp2_with fail
 refine(CR V X0).mono ?_;rintro e w1 ⟨rfl,hx⟩;have B1:=hid (B0.below hx B0.lt);have X1:=hid (X0.trans (hx.mono X0.size));clear hx p0 p1 p2 B0 X0 CR;obtain⟨⟨p0,p1,p2⟩,z0,z1,z2⟩:=B1.three;go_wp2_with fail
 refine(CL w1 X1).mono ?_;rintro e w2 ⟨x0,y0,x1,y1,x2,y2,rfl,ho,hx⟩;have B2:=hid (B1.below hx B1.lt);have X2:=hid (X1.trans (hx.mono X1.size));clear ho hx p0 p1 p2 z0 z1 z2 B1 X1 CL;obtain⟨⟨p0,p1,p2⟩,z0,z1,z2⟩:=B2.three;go_upto_region 4 with fail
 refine aA ?_;intro V3 hV;have KV:Hid (ae (· ≠w.heap.size) w2 V3):=hid (by rw[hV];exact fE _ _ _ _ _);have B3:Hid (ar V3 w.heap.size #[.slice x0 k0 y0,.slice x1 k1 y1,.slice x2 k2 y2] 29):=hid (by rw[hV];exact B2.yl);clear hV p0 p1 p2 z0 z1 z2;have X3:Hid (aa w V3):=hid (X2.trans (KV.mono fun x (hx:x<w.heap.size)=>by show x≠w.heap.size;omega:ae (· <w.heap.size) w2 V3).below);obtain⟨p0,p1,p2⟩:=bN.qC B3
 go_quiet (fail)
 go_wp2;exact bodyPost_ret (v:=.tuple #[.int .i64 k1,.int .i64 k0,.int .i64 0]) (by simp[results,Tryz.results14,go_sem]) rfl ⟨rfl,((ae.ai X3 fun _ h=>h:ae (· <w.heap.size) w V3).drewN _).below⟩
theorem JN {d:DF} (rt:Rt d) (w:World) (v:Value) (h:dr w v d): ah 36 #[v] w fun e w'=>∃ a c,e=.returned (.tuple #[.slice a d.nx.length c,.int .i64 0])/\w'.ownsRow w.heap.size 3 1 (.slice a d.nx.length c) d.nx.length ((List.range d.nx.length).map fun s=>cV (kq d s))/\aa w w':=by
 have CR:Hid (∀ W,aa w W->ah 16 #[v] W fun e w'=>e=.returned (.bool true)/\aa W w'):=hid fun W hW=>j5 rt v W (h.below hW)
 have CL:Hid (∀ W,aa w W->ah 79 #[v] W fun e w'=>∃ u,e=.returned u/\w'.ownsRow W.heap.size 3 1 u d.nx.length ((List.range d.nx.length).map fun s=>cV (kq d s))/\aa W w'):=hid fun W hW=>yf v d rt W (h.below hW)
 obtain⟨n0,dw⟩:=ag d.cl.length;obtain⟨n1,fH⟩:=ag d.nx.length;obtain⟨n2,jg⟩:=ag d.mr.length;obtain⟨a0,c0,a1,c1,a2,c2,rfl⟩:=h.form;rw[<-dw, <-fH, <-jg]at h CR CL ⊢;have H:=hid h;have sH:=hid fH;obtain⟨R,hR⟩:=ag ((List.range n1).map fun s=>cV (kq d s));rw[<-hR]at CL ⊢;clear h dw fH jg hR;go_enter Tryz.func36,Tryz.ntmps36;go_upto_region 1 with fail
 refine aA ?_;intro V hV;have B0:Hid (ar V w.heap.size #[.slice a0 n0 c0,.slice a1 n1 c1,.slice a2 n2 c2] 29):=hid (by rw[hV];exact ar.new w _ _);have X0:Hid (aa w V):=hid (by rw[hV];exact((Ext.refl w).alloc _).below);clear hV;obtain⟨p0,p1,p2⟩:=bN.qC B0;go_wp2_with fail
 refine(CR V X0).mono ?_;rintro e w1 ⟨rfl,hx⟩;have B1:=hid (B0.below hx B0.lt);have X1:=hid (X0.trans (hx.mono X0.size));clear hx p0 p1 p2 B0 X0 CR;obtain⟨p0,p1,p2⟩:=bN.qC B1;go_wp2_with fail
 refine(CL w1 X1).mono ?_;rintro e w2 ⟨u,rfl,ho,hx⟩;obtain⟨ua,uc,rfl⟩:=ownsRow_form ho;have O2:=hid (aH ho X1.size);have X2:=hid (X1.trans (hx.mono X1.size));clear ho hx p0 p1 p2 B1 X1 CL;go_wp2;exact bodyPost_ret (v:=.tuple #[.slice ua n1 uc,.int .i64 0]) (by simp[results,Tryz.results36,go_sem]) rfl ⟨ua,uc,rfl,O2,X2⟩
end
end Go.Proofs.YtjgccapbphadjaaGreatDoor
