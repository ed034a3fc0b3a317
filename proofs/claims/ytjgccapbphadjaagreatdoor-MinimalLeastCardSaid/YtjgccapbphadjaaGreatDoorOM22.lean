/- The law's made: the automaton of a small one. Printed by wip/gen/made22.py. -/
import Derived.Test.YtjgccapbphadjaaGreatDoorOM21
set_option maxRecDepth 100000
set_option maxHeartbeats 16000000
open Go.Lib (hid)
namespace Go.Proofs.YtjgccapbphadjaaGreatDoor
section
open Go Go.RowKit Go.Shelf Go.Maps
attribute [local go_sem] encS
theorem AH (q:BS):∀ (l:List BS) (b:Nat),b<l.length->((((aM l).set (b*4) (.int .u64 (wd q 0).toNat)).set (b*4+1) (.int .u64 (wd q 1).toNat)).set (b*4+2) (.int .u64 (wd q 2).toNat)).set (b*4+3) (.int .u64 (wd q 3).toNat)=aM (l.set b q)
 | [],b,h=>absurd h (Nat.not_lt_zero b)
 | a::l,0,_=>rfl
 | a::l,b+1,h=>by
  have ih:=AH q l b (by simpa using h);have e:∀ (X:List Value) (j:Nat) (v:Value),((encS a).toList++X).set (j+4) v=(encS a).toList++X.set j v:=fun X j v=>rfl
  show(((((encS a).toList++aM l).set ((b+1)*4) _).set ((b+1)*4+1) _).set ((b+1)*4+2) _).set ((b+1)*4+3) _=(encS a).toList++aM (l.set b q);rw[show(b+1)*4=b*4+4 by omega,show b*4+4+1=b*4+1+4 by omega,show b*4+4+2=b*4+2+4 by omega,show b*4+4+3=b*4+3+4 by omega,e,e,e,e,ih]
theorem dt.store {W:World} {base b2 n m c g s:Nat} {us ws:List Value} {ll:List (List Int)} (h:dt W base n us ll) (hr:W.ownsRow b2 39 1 (.slice (some ⟨g,0,none⟩) m c) m ws) (v:Value):dt (W.setCell ⟨g,s,none⟩ v) base n us ll:=by
 refine⟨h.l1,h.l2,fun i u l hu hl=>?_,h.far⟩;have ho:=h.rows i u l hu hl;refine ai ho ((ae.refl (· ≠g) W).setCell (p:=⟨g,s,none⟩) (fun h=>h rfl) _) fun x hx e=>?_
 rcases ownBlock_ne (by decide) ho hr with h5 | h5
 ·rw[h5]at hx;cases hx
 ·exact h5 (by rw[hx,e];rfl)
def yi (lo:Nat) (v:Value) (n:Nat) (xs:List Value) (x:Value):il.App:=⟨3,1,v,n,xs,1,lo,fun ns _=>ns=[x],fun _ _ _ _ h=>h⟩
theorem De (base:Nat) (v:Value) (d:DF) (rt:Rt d) (w:World) (hd:bA base w v d) (rH:base<=w.heap.size): ah 116 #[v] w fun e w'=>∃ u,e=.returned u/\bA base w' u (ie d)/\aa w w':=by
 have sr:Hid (∀ u0 u1 u2,v=.agg #[u0,u1,u2]->br base w u2 d.mr):=hid fun u0 u1 u2 e=>by
  obtain⟨v0,v1,v2,e',h0,h1,h2⟩:=hd;rw[e']at e;cases e;exact h2
 have h:=hd.df;clear hd;obtain⟨iI,y7,kJ,kK,kL⟩:=info_parts Tryz.mB;obtain⟨iL,zX,mK,mL,mM⟩:=info_parts Tryz.tR;obtain⟨iS,hiS,MH,MI,MJ⟩:=info_parts Tryz.zE;have eg1:∀ (args:Array Value) (w:World),(callFunc 174 args).run Tryz.prog w=.ok (.enter 174 args) w:=fun args w=>rfl
 obtain⟨v0,v1,v2,rfl,h0,h1,h2⟩:=h;obtain⟨a0,c0,rfl⟩:=h0.1.form;obtain⟨a1,c1,rfl⟩:=h1.form;obtain⟨a2,c2,rfl⟩:=h2.form;clear h2;have yA:=rt.mr;obtain⟨n,hn⟩:=ag d.nx.length;obtain⟨K,hK⟩:=ag d.cl.length;obtain⟨N,hN⟩:=ag (eC (cg d) d.cl.length);have Tu:n<=4000:=by have:=rt.le;omega
 have fE:1<=n:=by have:=rt.pos;omega
 have hK2:K<=256:=by have:=rt.En;omega
 have hNK:N<=K:=by rw[hN,hK];exact rY (kA d)
 have h2:=sr.out _ _ _ rfl;rw[yA, <-hn]at h2 ⊢;rw[<-hn]at h1;rw[<-hK]at h0 ⊢;have CP:Hid (∀ W (db:Nat),aa w W->ar W db #[.slice a0 K c0,.slice a1 n c1,.slice a2 n c2] 29->ah 137 #[.int .i64 K,.func (.func 174) #[] #[.pointer (some ⟨db,0,none⟩)]] W fun e w'=>∃ u,e=.returned (.tuple #[u,.int .i64 N])/\w'.ownsRow W.heap.size 3 1 u K ((List.range K).map fun k=>cQ (cg d k))/\aa W w'):=hid fun W db hW hB=>by
  obtain⟨k1,k2⟩:=SH rt;rw[<-hK]at k1 k2;rw[<-hK]at hN;refine(qp 174 #[.pointer (some ⟨db,0,none⟩)] (NM d) K (by omega) W (fun s hs=>?_) eg1 (fun s W2 hs hW2=>?_)).mono ?_
  ·unfold NM
   rw[xB];unfold xT;rw[aQ,List.length_range, <-hn];omega
  ·exact Gj s db d rt (by rw[<-hK];exact hs) (.slice a1 n c1) W2 ((hB.below hW2 hB.lt).cell 1) ((h1.below hW).below hW2)
  ·rintro e w' ⟨u,rfl,h5,h6⟩
   refine⟨u,by rw[k1, <-hN],?_,h6⟩;have e:(List.range K).map (fun s=>cQ (dF (NM d) K s))=(List.range K).map fun k=>cQ (cg d k):=List.map_congr_left fun s hs=>by rw[k2 s (List.mem_range.1 hs)]
   rw[<-e];exact h5
 have HCL:Hid (∀ k,k<K->∃ (b off:Nat),a0=some ⟨b,off,none⟩/\b<w.heap.size/\w.cell? ⟨b,off+k*4,none⟩=some (.int .u64 (wd (d.cl.getD k 0) 0).toNat)/\w.cell? ⟨b,off+k*4+1,none⟩=some (.int .u64 (wd (d.cl.getD k 0) 1).toNat)/\w.cell? ⟨b,off+k*4+2,none⟩=some (.int .u64 (wd (d.cl.getD k 0) 2).toNat)/\w.cell? ⟨b,off+k*4+3,none⟩=some (.int .u64 (wd (d.cl.getD k 0) 3).toNat)):=hid fun k hk=>by
  obtain⟨b,off,e1,e2,e3⟩:=h0.1.elem (i:=k) (s:=d.cl.getD k 0) (by rw[bh,az (by rw[<-hK];exact hk)];rfl);exact⟨b,off,e1,e2,e3⟩
 have GV:Hid (∀ s,s<n->∃ (b:Nat) (off:Nat) (ad:Option Addr) (cp:Nat),a1=some ⟨b,off,none⟩/\b<w.heap.size/\w.cell? ⟨b,off+s,none⟩=some (.slice ad K cp)/\bZ aN w (.slice ad K cp) (d.nx.getD s [])):=hid fun s hs=>by
  have hrow:d.nx[s]? =some (d.nx.getD s []):=by rw[bh,az (by rw[<-hn];exact hs)];rfl
  obtain⟨b,off,a',c',e1,e2,e3,e4⟩:=h1.elem hrow;rw[rt.len s (by rw[<-hn];exact hs), <-hK]at e3 e4;exact⟨b,off,a',c',e1,e2,e3,e4⟩
 have H2:=hid h2;have HN:=hid hn;have HK:=hid hK;have oQ:=hid hN;have RT:=hid rt;clear h0 h1 h2 hn hK hN yA rt eg1 sr;go_enter Tryz.func116,Tryz.ntmps116;go_wp2_with fail
 refine aH ?_;intro V hV;have B1:Hid (ar V w.heap.size #[.slice a0 K c0,.slice a1 n c1,.slice a2 n c2] 29):=hid (by rw[hV];exact(ar.new w _ _).alloc _);have R1:Hid (ar V (w.heap.size+1) #[.slice none 0 0,.slice none 0 0,.slice none 0 0] 29):=hid (by rw[hV];exact(ar.new (w.alloc _) _ _).at (by simp));have X1:Hid (aa w V):=hid (by rw[hV];exact(((Ext.refl w).alloc _).alloc _).below);clear hV;have hsV:w.heap.size+1<V.heap.size:=R1.out.lt;refine(CP.out V w.heap.size X1.out B1.out).mono ?_;rintro e w5 ⟨u,rfl,ho,hx⟩;obtain⟨pa,pc,rfl⟩:=ownsRow_form ho;have P5:=hid ho;have B5:=hid (B1.out.below hx B1.out.lt);have R5:=hid (R1.out.below hx R1.out.lt);have X5:=hid (X1.out.trans (hx.mono X1.out.size));have hs5:V.heap.size<=w5.heap.size:=hx.size;clear ho hx B1 R1 X1 CP;obtain⟨b0,b1,b2⟩:=bA.mO B5.out;go_upto_region 3 with fail
 refine aK false (fun _=>False) (by kernel_rfl) 10 [0,1,0,4,12,28,0,64,255,0,1023] (fun i=>i==1 || i==5 || i==9 || i==10) (by kernel_rfl) (fun i=>if i=1 then aZ.row w5.heap.size 56 4 N (aM (List.replicate N 0))else if i=5 then aZ.row w5.heap.size 39 1 n (List.replicate n (.slice none 0 0))else if i=9 then aZ.uP w5.heap.size #[.slice none 0 0,.slice none 0 0,.slice none 0 0] 29 else aZ.any _) ?_;intro C hC hne;have HC:=hid hC;have f1:=aC hC (p:=⟨w.heap.size,1,none⟩) B5.out.lt (fun h=>h) b1;have f2:=aC hC (p:=⟨w.heap.size,2,none⟩) B5.out.lt (fun h=>h) b2;clear hC b0 b1 b2
 repeat (refine au (fun K hK=>?_);first | (refine bX rfl ?_;try go_simp;refine hK _ _ ?_;clear hK K) | (refine bR rfl rfl ?_;unfold aB;go_simp;refine hK _ _ ?_;clear hK K))
 refine au (fun K0 hK=>?_);refine ck rfl rfl (aZ.row w5.heap.size 56 4 N (aM (List.replicate N 0))) rfl (fun W hW hN=>?_) (fun v hv=>?_)
 ·have hM:=(HC.out W).1 hW
  clear hW hN hK K0;refine AG (.tmp 20) (.tmp 20) 26 rfl 56 iS (.agg #[.int .u64 0,.int .u64 0,.int .u64 0,.int .u64 0]) 4 Tryz.underlying26 hiS MH MI .i64 .i64 _ _ N rfl rfl rfl rfl (by rw[MJ];omega) (by unfold maxLen;omega) (fun w' hr hg=>?_);rw[Ib]at hr;exact⟨Move.ak (ae.bw hg fun x hx=>⟨hx,fun e=>by cases e⟩:ae (· <W.heap.size) W w').below,⟨_,_,rfl⟩,aF hr hM.size⟩
 obtain⟨x0,y0,rfl⟩:=hv;go_simp;refine hK _ _ ?_;clear hK K0
 repeat (refine au (fun K hK=>?_);first | (refine bX rfl ?_;try go_simp;refine hK _ _ ?_;clear hK K) | (refine bR rfl rfl ?_;unfold aB;go_simp;refine hK _ _ ?_;clear hK K))
 refine au (fun K0 hK=>?_);refine ck rfl rfl (aZ.row w5.heap.size 39 1 n (List.replicate n (.slice none 0 0))) rfl (fun W hW hN=>?_) (fun v hv=>?_)
 ·have hM:=(HC.out W).1 hW
  clear hW hN hK K0;refine AG (.tmp 24) (.tmp 24) 27 rfl 39 iL (.slice none 0 0) 1 Tryz.underlying27 zX mK mL .i64 .i64 _ _ n rfl rfl rfl rfl (by rw[mM];omega) (by unfold maxLen;omega) (fun w' hr hg=>?_);rw[H9]at hr;exact⟨Move.ak (ae.bw hg fun x hx=>⟨hx,fun e=>by cases e⟩:ae (· <W.heap.size) W w').below,⟨_,_,rfl⟩,aF hr hM.size⟩
 obtain⟨x1,y1,rfl⟩:=hv;go_simp;refine hK _ _ ?_;clear hK K0
 repeat (refine au (fun K hK=>?_);first | (refine bX rfl ?_;try go_simp;refine hK _ _ ?_;clear hK K) | (refine bR rfl rfl ?_;unfold aB;go_simp;refine hK _ _ ?_;clear hK K))
 refine au (fun K0 hK=>?_);refine ck rfl rfl (aZ.uP w5.heap.size #[.slice none 0 0,.slice none 0 0,.slice none 0 0] 29) rfl (fun W hW hN=>?_) (fun v hv=>?_)
 ·have hM:=(HC.out W).1 hW
  have sX:=hM.size;clear hW hN hK K0;go_simp;exact⟨Move.ak ((Ext.refl _).alloc _).below,⟨_,rfl⟩,fun b hb=>by cases hb;exact⟨ar.new _ _ _,sX⟩⟩
 obtain⟨bx,rfl⟩:=hv;go_simp;refine hK _ _ ?_;clear hK K0;refine bG (fun W hW hH=>?_);have hM:=(HC.out W).1 hW;have hb8:(aZ.uP w5.heap.size #[.slice none 0 0,.slice none 0 0,.slice none 0 0] 29).H (.pointer (some ⟨bx,0,none⟩)) W:=hH _ (aw (show _=some _ from rfl:_[0]? =some _));have LN:Hid (W.ownsRow w5.heap.size 39 1 (.slice x1 n y1) n (List.replicate n (.slice none 0 0))):=hid (hH _ (aw (show _=some _ from rfl:_[1]? =some _)));have LC:Hid (W.ownsRow w5.heap.size 56 4 (.slice x0 N y0) N (aM (List.replicate N 0))):=hid (hH _ (aw (show _=some _ from rfl:_[2]? =some _)));have BX:=hid (hb8 bx rfl);have XW:=hid hM.below;have UA:w5.heap.size<=W.heap.size:=hM.size;clear hM hW hH HC hne f1 f2 hb8;obtain⟨⟨q0,q1,q2⟩,z0,z1,z2⟩:=BX.out.1.three;go_upto_region 4 with fail
 refine ax ?_;intro W2 hV;have KV:Hid (ae (· ≠bx) W W2):=hid (by rw[hV];exact eE _ _ _ _ _);have BO:Hid (ar W2 bx #[.slice x0 N y0,.slice x1 n y1,.slice a2 n c2] 29):=hid (by rw[hV];exact((BX.out.1.set 0 _).set 1 _).set 2 _);clear hV q0 q1 q2 z0 z1 z2;have zD:w5.heap.size<=bx:=BX.out.2;have LN2:=hid (ai LN.out KV.out fun x e=>cm BX.out.1 LN.out (by decide) x e);have LC2:=hid (ai LC.out KV.out fun x e=>cm BX.out.1 LC.out (by decide) x e);have KW:Hid (ae (· <w5.heap.size) w5 W2):=hid ((ae.ak XW.out fun _ h=>h:ae (· <w5.heap.size) w5 W).tr (KV.out.mono fun x (hx:x<w5.heap.size)=>by show x≠bx;omega));clear KV BX LN LC XW;obtain⟨g5,Sg⟩:=ag w5.heap.size;have P2:=hid (ai P5.out KW.out fun x e=>(P5.out.lt x e).2);have Zz:∀ x,(Value.slice pa K pc).ownBlock=some x->x<w5.heap.size:=fun x e=>(P5.out.lt x e).2
 have B2:=hid (B5.out.keeps KW.out B5.out.lt);have R2:=hid (R5.out.keeps KW.out R5.out.lt);have X2:Hid (aa w W2):=hid (X5.out.trans (KW.out.mono fun x (hx:x<w.heap.size)=>by show x<w5.heap.size;omega:ae (· <w.heap.size) w5 W2).below);have Yv:w.heap.size+1<w5.heap.size:=by omega
 have ahJ:w5.heap.size<=W2.heap.size:=KW.out.size;rw[<-Sg]at LN2 LC2 zD Zz Yv ahJ;clear Sg KW P5 B5 R5 X5 UA;have ahK:=hid Zz;clear Zz;go_wp2_with fail
 go_loopw [31] (fun kv wr=>∃ (k:Nat) (us:List Value),k<=K/\kv=.int .i64 k/\ar wr bx #[.slice x0 N y0,.slice x1 n y1,.slice a2 n c2] 29/\wr.ownsRow g5 56 4 (.slice x0 N y0) N (aM (kN d N k))/\wr.ownsRow g5 39 1 (.slice x1 n y1) n us/\dt wr g5 n us (jX d k)/\ae (· <g5) W2 wr) (fun kv _=>K-(intOf kv).toNat)
 case atStart=>exact⟨0,_,Nat.zero_le _,rfl,BO.out,by rw[NL];exact LC2.out,LN2.out,by rw[JD, <-HN.out];exact dt.start _ _ _,ae.refl _ _⟩
 case round=>
  obtain⟨k,us,hk,rfl,hb,hc,hr,uo,hx⟩:=hrel;obtain⟨wo,rfl⟩:=ag (wr:World);have HB:=hid hb;have HC:=hid hc;have HR:=hid hr;have Wq:=hid uo;have HX:=hid hx;clear hb hc hr uo hx;by_cases hlt:k<K
  ·have eG:(k:Int)<K:=by omega
   have WQ:k<d.cl.length:=by rw[<-HK.out];exact hlt
   obtain⟨b,hbe⟩:=ag (cg d k);have hbN:b<N:=by rw[hbe,oQ.out];exact iR WQ
   have OO:(b:Int)<N:=by omega
   obtain⟨o,hoe⟩:=ag (tk d.cl (cg d) b k);have PO:=ai P2.out HX.out fun x e=>ahK.out x e
   obtain⟨pg,pu,rfl,_,_,hpu,hpc,_⟩:=fB PO hlt;rw[aO,List.getElem?_range hlt]at hpu;cases hpu;replace hpc:wo.cell? ⟨pg,k,none⟩=some (.int .i64 (cg d k:Nat)):=hpc;rw[<-hbe]at hpc
   have Fz:Hid (o=0↔ ¬cg d k<(cV (cg d) k).length):=hid (by
    rw[hoe,Gi (by omega) RT.out.part.ne,Vq (kA d) WQ,hbe]
    exact⟨fun h ⟨j,h1,h2⟩=>h j h1 h2,fun h j h1 h2=>h ⟨j,h1,h2⟩⟩)
   have BK:=hid (B2.out.keeps HX.out (by show w.heap.size<g5;omega));have XK:Hid (aa w wo):=hid (X2.out.trans (HX.out.mono fun x (hx:x<w.heap.size)=>by show x<g5;omega:ae (· <w.heap.size) W2 wo).below);obtain⟨gc,rfl,Ua⟩:∃ gc,x0=some ⟨gc,0,none⟩/\g5<=gc:=by
    rcases HC.out.2 with⟨h5,h6⟩ | ⟨g,c,cur,h5,h6,_⟩
    ·cases h5;omega
    ·cases h5;exact⟨g,rfl,h6⟩
   obtain⟨gc',oc,e1,_,c0,c1,TB,c3⟩:=(fL (l:=kN d N k) (by unfold kN;rw[aQ,List.length_range];exact HC.out)).1.elem (yh d hbN);cases e1;rw[<-hoe]at c0 c1 TB c3;simp only[Nat.zero_add]at c0 c1 TB c3;have HBE:=hid hbe;have HOE:=hid hoe;clear PO hbe hoe;obtain⟨k0,k1,k2⟩:=bA.mO HB.out;obtain⟨m0,m1,m2⟩:=bA.mO BK.out;have heq:∀ W,(Op.equalIn 10000 56 (.agg #[.int .u64 (wd o 0).toNat,.int .u64 (wd o 1).toNat,.int .u64 (wd o 2).toNat,.int .u64 (wd o 3).toNat]) (.agg #[.int .u64 0,.int .u64 0,.int .u64 0,.int .u64 0])).run Tryz.prog W=(.ok (o==0) W):=fun W=>iy o 0 W
   obtain⟨q,hq⟩:=ag ((o==0));have HQ:=hid hq;rw[<-hq]at heq;clear hq
   go_upto_if 42 with fail
   go_cut [46] from 42 to 66 (fun _ wx=>∃ Vn,ar wx bx #[.slice (some ⟨gc,0,none⟩) N y0,.slice x1 n y1,.slice a2 n c2] 29/\wx.ownsRow g5 56 4 (.slice (some ⟨gc,0,none⟩) N y0) N (aM (kN d N k))/\wx.ownsRow g5 39 1 (.slice x1 n y1) n Vn/\dt wx g5 n Vn (jX d (k+1))/\ae (· <g5) wo wx)
   case first=>
    cases q with
    | false=>
     have hold:Hid (cg d k<(cV (cg d) k).length):=hid (Classical.byContradiction fun h=>by
      have h1:=Fz.out.2 h;have h2:=HQ.out;rw[h1]at h2
      cases h2)
     go_wp2_with fail
     go_meet
     exact⟨us,HB.out,HC.out,HR.out,by rw[NJ hold.out];exact Wq.out,ae.refl _ _⟩
    | true=>
     have hnw:Hid (¬cg d k<(cV (cg d) k).length):=hid (Fz.out.1 (beq_iff_eq.1 HQ.out.symm));go_wp2_with fail
     go_loopw [46] (fun sv wr=>∃ (s:Nat) (Vn:List Value),s<=n/\sv=.int .i64 s/\ar wr bx #[.slice (some ⟨gc,0,none⟩) N y0,.slice x1 n y1,.slice a2 n c2] 29/\wr.ownsRow g5 56 4 (.slice (some ⟨gc,0,none⟩) N y0) N (aM (kN d N k))/\wr.ownsRow g5 39 1 (.slice x1 n y1) n Vn/\dt wr g5 n Vn (mH d k s)/\ae (· <g5) wo wr) (fun sv _=>n-(intOf sv).toNat)
     case atStart=>exact⟨0,us,Nat.zero_le _,rfl,HB.out,HC.out,HR.out,by rw[JA];exact Wq.out,ae.refl _ _⟩
     case round=>
      obtain⟨s,us1,hs,rfl,hb,hc,hr,uo,hx⟩:=hrel;obtain⟨wi,rfl⟩:=ag (wr:World);have IB:=hid hb;have IC:=hid hc;have IR:=hid hr;have IRS:=hid uo;have IX:=hid hx;clear hb hc hr uo hx;by_cases pF:s<n
      ·have Ls:(s:Int)<n:=by omega
       obtain⟨xg,xu,rfl,Fo,hxg,hxu,hxc,hxf⟩:=fB IR.out pF;have hsN:s<d.nx.length:=by rw[<-HN.out];exact pF
       have hrow:=NI d k hsN;obtain⟨l,hle⟩:=ag ((cV (cg d) k).map fun j=>(d.nx.getD s []).getD j 0);rw[<-hle]at hrow;have ZA:=IRS.out.rows s xu l hxu hrow;obtain⟨m,hme⟩:=ag l.length;have lC:m<=k:=by rw[hme,hle,aQ];exact SD _ _
       rw[<-hme]at ZA;obtain⟨ua,uc,rfl⟩:=ownsRow_form ZA;obtain⟨b1,ND,ad1,cp1,rfl,hb1,hc1,hsl1⟩:=GV.out s pF;have XI:Hid (aa w wi):=hid (XK.out.trans (IX.out.mono fun x (hx:x<w.heap.size)=>by show x<g5;omega:ae (· <w.heap.size) wo wi).below);have uk:∀ b o u,b<w.heap.size->w.cell? ⟨b,o,none⟩=some u->wi.cell? ⟨b,o,none⟩=some u:=fun b o u hb h=>((ae.ak XI.out fun _ h=>h:ae (· <w.heap.size) w wi).cell (p:=⟨b,o,none⟩) hb).trans h
       obtain⟨ahO,ZE⟩:=tz RT.out hsN WQ;obtain⟨b2,fV,rfl,hb2,hc2⟩:=hsl1.elem ZE;replace hc1:=uk _ _ _ hb1 hc1;replace hc2:wi.cell? ⟨b2,fV+k,none⟩=some (.int .i64 (dL d s k:Nat)):=uk _ _ _ hb2 hc2;obtain⟨x,hxe⟩:=ag (dL d s k);rw[<-hxe]at hc2;have HX9:Hid ((d.nx.getD s []).getD k 0=((x:Nat):Int)):=hid (by rw[bh,ZE,hxe];rfl);have HLE:=hid hle;have HME:=hid hme;have HUR:=hid ZA;have HXU:=hid hxu;have ia:=hid hrow;have hgi:g5<=wi.heap.size:=by have:=IX.out.size;have:=HX.out.size;omega
       have ZF:∀ z,(Value.slice ua m uc).ownBlock=some z->g5<=z/\z<wi.heap.size:=fun z e=>HUR.out.lt z e
       have IBK:=hid (BK.out.keeps IX.out (by show w.heap.size<g5;omega));obtain⟨i0,i1,i2⟩:=bA.mO IB.out;obtain⟨j0,j1,j2⟩:=bA.mO IBK.out;clear hle hme ZA hxu hrow ZE ahO hsl1 uk hxe;go_upto_region 11 with fail
       obtain⟨PL,vn⟩:=ag ([yi wi.heap.size (.slice ua m uc) m (l.map aN) (.int .i64 x)]:List il.App);have oT:PL[0]? =some (yi wi.heap.size (.slice ua m uc) m (l.map aN) (.int .i64 x)):=by rw[vn];rfl
       have hall:∀ q∈PL,q=yi wi.heap.size (.slice ua m uc) m (l.map aN) (.int .i64 x):=fun q hq=>by rw[vn]at hq;simpa using hq
       have Dd:Hid (il.kj wi PL):=hid ⟨fun q hq=>by rw[hall q hq];exact aD _,fun q hq x e=>by
        rw[hall q hq]at e;exact(ZF x e).2,fun i j q q' hi hj mz=>by
        have hl:PL.length=1:=by rw[vn];rfl
        have h1:=(List.getElem?_eq_some_iff.1 hi).1;have h2:=(List.getElem?_eq_some_iff.1 hj).1
        omega⟩
       have vK:∀ z,¬ (Value.slice ua m uc).ownBlock=some z->¬ ∃ q∈PL,q.v.ownBlock=some z:=fun z hz ⟨q,hq,e⟩=>by
        rw[hall q hq]at e;exact hz e
       have Po:=hid vK;clear vn hall vK;refine RegG.bB (il.bT g5 wi PL) (il.bT.drew) (fun _ _ _ h k=>h.trans k) (by kernel_rfl) 14 [0,1,0,0,8,0,56,120,0,0,768,1792,3840,8184,16383,32767] (fun i=>i==12 || i==13) (by kernel_rfl) (fun _=>none) (fun j hj=>(by first | rfl | (have kR:16<=j:=hj;first | exact if_neg (by omega) | (split<;>first | omega | rfl)))) (by kernel_rfl) (fun i=>if i=12 then il.ij.vR g5 wi PL 1 #[.int .i64 x] 3 else if i=13 then il.ij.app g5 wi PL (yi wi.heap.size (.slice ua m uc) m (l.map aN) (.int .i64 x)) (aw oT)else RegG.aZ.any _) ?_;intro C hC hne;have HC:=hid hC;have jY:∀ {z:Nat},z<wi.heap.size->¬ (Value.slice ua m uc).ownBlock=some z->∀ W: {W//C W},W.1.heap[z]? =wi.heap[z]? :=fun {z} h1 h2 W=>((hC W.1).1 W.2).keeps.keep z ⟨h1,Po.out z h2⟩
       have nbx:¬ (Value.slice ua m uc).ownBlock=some bx:=fun e=>cm IB.out HUR.out (by decide) bx e rfl
       have ngx:¬ (Value.slice ua m uc).ownBlock=some xg:=fun e=>by
        rcases ownBlock_ne (by decide) HUR.out IR.out with h5 | h5
        ·rw[h5]at e;cases e
        ·exact h5 (e.trans rfl)
       have o1:∀ W: {W//C W},W.1.cell? ⟨bx,1,none⟩=some (.slice (some ⟨xg,0,none⟩) n y1):=fun W=>(IB.out.same (jY IB.out.lt nbx W)).cell 1
       have o2:∀ W: {W//C W},W.1.cell? ⟨xg,s,none⟩=some (.slice ua m uc):=fun W=>by
        have e:W.1.cell? ⟨xg,s,none⟩=wi.cell? ⟨xg,s,none⟩:=by unfold World.cell?;rw[jY hxg ngx W]
        exact e.trans hxc
       have o3:∀ W: {W//C W},W.1.cell? ⟨b2,fV+k,none⟩=some (.int .i64 x):=fun W=>by
        have e:W.1.cell? ⟨b2,fV+k,none⟩=wi.cell? ⟨b2,fV+k,none⟩:=by unfold World.cell?;rw[jY (z:=b2) (by have:=XI.out.size;omega) (fun e=>by have:=(ZF b2 e).1;omega) W]
        exact e.trans hc2
       clear hC jY
       repeat (refine RegG.au (fun K hK=>?_);first | (refine RegG.bX rfl ?_;try go_simp;refine hK _ _ ?_;clear hK K) | (refine RegG.bR rfl rfl ?_;unfold aB;go_simp;refine hK _ _ ?_;clear hK K))
       refine RegG.au (fun K hK=>?_);refine RegG.ck rfl rfl (il.ij.vR g5 wi PL 1 #[.int .i64 x] 3) rfl (fun W hW hN=>?_) (fun v hv=>?_)
       ·have hM:=(HC.out W).1 hW
        clear hW hK K
        (go_simp;exact⟨.below ((Ext.refl _).alloc _).below,⟨_,rfl⟩,fun b hb=>by cases hb;exact⟨ar.new _ _ _,Dd.out.fresh hM.size⟩⟩)
       obtain⟨x3,rfl⟩:=hv;go_simp;refine hK _ _ ?_;clear hK K;refine RegG.au (fun K hK=>?_);refine RegG.ck rfl rfl (il.ij.app g5 wi PL (yi wi.heap.size (.slice ua m uc) m (l.map aN) (.int .i64 x)) (aw oT)) rfl (fun W hW hN=>?_) (fun v hv=>?_)
       ·have hM:=(HC.out W).1 hW
        clear hW hK K;refine il.dI (w0:=wi) (PL:=PL) (p:=yi wi.heap.size (.slice ua m uc) m (l.map aN) (.int .i64 x)) (.tmp 58) (.tmp 63) 39 rfl iI (.int .i64 0) 8 Tryz.underlying39 y7 kJ kK kL rfl (show(0:Nat)<1 from by decide) Dd.out oT rfl (hM.old _ (aw oT) HUR.out) ⟨x3,0,none⟩ 1 rfl [.int .i64 x] rfl rfl (cK (hN.at 0 rfl (by kernel_rfl) x3 rfl).1) (by intro u hu;simp at hu;rw[hu];rfl) (by show m+1<=maxLen;unfold maxLen;omega) (by show(m+1)*8<=_;omega) (Nat.le_trans hgi hM.size) (show(0:Nat)<1 from by decide) hM.size (fun v W2 g1 g2 g3 _=>⟨g1,g2,g3⟩)
       obtain⟨yf,yg,hv2⟩:=hv;replace hv2:v=.slice yf (m+1) yg:=hv2;subst hv2;go_simp;refine hK _ _ ?_;clear hK K;refine RegG.bG (fun W7 hW hH=>?_);have hM:=(HC.out W7).1 hW;have Q0:Hid (il.After g5 wi (yi wi.heap.size (.slice ua m uc) m (l.map aN) (.int .i64 x)) W7 (.slice yf (m+1) yg)):=hid (hH _ (aw (show _=some _ from rfl:_[0]? =some _)));have K7:Hid (ae (fun z=>z<wi.heap.size/\(Value.slice ua m uc).ownBlock≠some z) wi W7):=hid (hM.keeps.mono fun z hz=>⟨hz.1,Po.out z hz.2⟩);clear hM hW hH hne o1 o2 o3 Dd Po oT hxc hc1 hc2 i0 i1 i2 j0 j1 j2;have IB7:=hid (IB.out.keeps K7.out ⟨IB.out.lt,nbx⟩)
       have IR7:=hid (ai IR.out K7.out fun z e=>⟨(IR.out.lt z e).2,fun e2=>by
        have e3:xg=z:=by simpa[Value.ownBlock]using e
        exact ngx (e3▸e2)⟩)
       have IC7:=hid (ai IC.out K7.out fun z e=>⟨(IC.out.lt z e).2,fun e2=>by
        rcases ownBlock_ne (by decide) HUR.out IC.out with h5 | h5
        ·rw[h5]at e2;cases e2
        ·exact h5 (e2.trans e.symm)⟩)
       have RS7:Hid (dt W7 g5 n (us1.set s (.slice yf (m+1) yg)) (mH d k (s+1))):=hid (by
        obtain⟨⟨ns,h5,h6⟩,h7⟩:=Q0.out;have h6:ns=[.int .i64 x]:=h6;subst h6;rw[<-NH d k hsN, <-HLE.out,HX9.out];refine IRS.out.more HXU.out ia.out K7.out ?_ h7;have e:(l++ [((x:Nat):Int)]).map aN=l.map aN++ [.int .i64 x]:=by rw[List.map_append];rfl
        rw[e,aG, <-HME.out]
        exact h5)
       have IX7:Hid (ae (· <g5) wo W7):=hid (IX.out.tr (K7.out.mono fun z (hz:z<g5)=>⟨by omega,fun e=>by have:=(ZF z e).1;omega⟩));obtain⟨sg,su,se,_,hsg,hsu,hsc,hsf⟩:=fB IR7.out pF;cases se;clear Q0 K7;go_wp2;go_roundw;case rel=>
        have kg:ae (· ≠xg) W7 (W7.setCell ⟨xg,s,none⟩ (.slice yf (m+1) yg)):=(ae.refl _ _).setCell (p:=⟨xg,s,none⟩) (fun h=>h rfl) _;refine⟨s+1,us1.set s (.slice yf (m+1) yg),by omega,by go_num,IB7.out.keeps kg (fun e=>cm IB7.out IR7.out (by decide) xg rfl e.symm),ai IC7.out kg fun z e e2=>?_,(IR7.out.stored s _).1,RS7.out.store IR7.out _,IX7.out.tr (kg.mono fun z (hz:z<g5)=>by show z≠xg;omega)⟩;rcases ownBlock_ne (by decide) IC7.out IR7.out with h5 | h5
        ·rw[h5]at e;cases e
        ·exact h5 (e.trans (by rw[e2];rfl))
       case measure=>simp[intOf];omega
      ·obtain rfl:s=n:=by omega
       have Ls:¬ ((s:Int)<s):=by omega
       go_wp2_with fail
       go_meet
       refine⟨us1,IB.out,IC.out,IR.out,?_,IX.out⟩;have h5:=IRS.out;rw[show mH d k s=jX d (k+1) by rw[HN.out];exact NG hnw.out]at h5;exact h5
   case rest=>
   obtain⟨us2,jb,jc,jr,jrs,jx⟩:=hcut;obtain⟨W3,rfl⟩:=ag (wc:World);have JB:=hid jb;have JC:=hid jc;have JR:=hid jr;have JRS:=hid jrs;have JX:=hid jx;clear jb jc jr jrs jx c0 c1 TB c3 k0 k1 k2 m0 m1 m2 hpc heq HQ Fz;have JK:=hid (BK.out.keeps JX.out (by show w.heap.size<g5;omega));obtain⟨sb,sof,e5,my,d0,d1,d2,d3⟩:=HCL.out k hlt;cases e5;have JW:Hid (aa w W3):=hid (XK.out.trans (JX.out.mono fun x (hx:x<w.heap.size)=>by show x<g5;omega:ae (· <w.heap.size) wo W3).below);have uk:∀ b o u,b<w.heap.size->w.cell? ⟨b,o,none⟩=some u->W3.cell? ⟨b,o,none⟩=some u:=fun b o u hb h=>((ae.ak JW.out fun _ h=>h:ae (· <w.heap.size) w W3).cell (p:=⟨b,o,none⟩) hb).trans h
   have Vr:sb<W3.heap.size:=by have:=JW.out.size;omega
   replace d0:=uk _ _ _ my d0;replace d1:=uk _ _ _ my d1;replace d2:=uk _ _ _ my d2;replace d3:=uk _ _ _ my d3;obtain⟨gc2,oc2,e6,Al,c0,c1,TB,c3⟩:=(fL (l:=kN d N k) (by unfold kN;rw[aQ,List.length_range];exact JC.out)).1.elem (yh d hbN);cases e6;rw[<-HOE.out]at c0 c1 TB c3;simp only[Nat.zero_add]at c0 c1 TB c3;obtain⟨t,hte⟩:=ag (d.cl.getD k 0);rw[<-hte]at d0 d1 d2 d3;have HTE:=hid hte;have CO:Hid (∀ W,ah 76 #[.agg (encS o),.agg (encS t)] W fun e w'=>e=.returned (.agg (encS (o ||| t)))/\Ext W w'):=hid fun W=>Ph o t W
   obtain⟨k0,k1,k2⟩:=bA.mO JB.out;obtain⟨m0,m1,m2⟩:=bA.mO JK.out;clear uk hte;go_upto_region 13 with fail
   refine aK false (fun _=>False) (by kernel_rfl) 14 [0,1,0,0,8,0,56,120,0,256,0,1792,3840,8184,16383,32767] (fun i=>i==13) (by kernel_rfl) (fun i=>if i=13 then aZ.Du _ (.agg (encS (o ||| t)))else aZ.any _) ?_;intro C hC hne;have HC:=hid hC;have o0:=aC hC (p:=⟨bx,0,none⟩) JB.out.lt (fun h=>h) k0;have o1:=aC hC (p:=⟨w.heap.size,0,none⟩) JK.out.lt (fun h=>h) m0;have p0:=aC hC (p:=⟨gc,b*4,none⟩) Al (fun h=>h) c0;have p1:=aC hC (p:=⟨gc,b*4+1,none⟩) Al (fun h=>h) c1;have p2:=aC hC (p:=⟨gc,b*4+2,none⟩) Al (fun h=>h) TB;have p3:=aC hC (p:=⟨gc,b*4+3,none⟩) Al (fun h=>h) c3;have r0:=aC hC (p:=⟨sb,sof+k*4,none⟩) Vr (fun h=>h) d0;have r1:=aC hC (p:=⟨sb,sof+k*4+1,none⟩) Vr (fun h=>h) d1;have r2:=aC hC (p:=⟨sb,sof+k*4+2,none⟩) Vr (fun h=>h) d2;have r3:=aC hC (p:=⟨sb,sof+k*4+3,none⟩) Vr (fun h=>h) d3;clear hC k0 k1 k2 m0 m1 m2 c0 c1 TB c3 d0 d1 d2 d3
   repeat (refine au (fun K hK=>?_);first | (refine bX rfl ?_;try go_simp;refine hK _ _ ?_;clear hK K) | (refine bR rfl rfl ?_;unfold aB;go_simp;refine hK _ _ ?_;clear hK K))
   refine au (fun K hK=>?_);refine ck rfl rfl (aZ.Du _ (.agg (encS (o ||| t)))) rfl (fun W hW hN=>?_) (fun v hv=>?_)
   ·have hM:=(HC.out W).1 hW
    clear hW;go_simp;refine bM ((CO.out W).mono ?_);rintro e w2 ⟨rfl,hx⟩;exact⟨_,rfl,Move.ak hx.below,rfl,trivial⟩
   replace hv:v=_:=hv;subst hv;go_simp;refine hK _ _ ?_;clear hK K;refine bG (fun W hW hH=>?_);have hM:=(HC.out W).1 hW;have ZB:=hid (JB.out.below hM.below JB.out.lt);have ZC:=hid (aj JC.out hM.below);have ZR:=hid (aj JR.out hM.below);have ZRS:=hid (JRS.out.below hM.below);have ZX:Hid (ae (· <g5) W2 W):=hid ((HX.out.tr JX.out).tr (ae.ak hM.below fun z (hz:z<g5)=>by have:=JX.out.size;have:=HX.out.size;omega:ae (· <g5) W3 W));clear hM hW hH HC hne o0 o1 p0 p1 p2 p3 r0 r1 r2 r3 JB JC JR JRS JX CO;obtain⟨gc3,oc3,e7,aor,c0,c1,TB,c3⟩:=(fL (l:=kN d N k) (by unfold kN;rw[aQ,List.length_range];exact ZC.out)).1.elem (yh d hbN);cases e7;simp only[Nat.zero_add]at c0 c1 TB c3;have y0':=ZC.out.frozenAt (b*4);have y1':=ZC.out.frozenAt (b*4+1);have y2':=ZC.out.frozenAt (b*4+2);have y3':=ZC.out.frozenAt (b*4+3);go_wp2;go_roundw;case rel=>
    obtain⟨W8,Wz⟩:=ag ((((W.setCell ⟨gc,b*4,none⟩ (.int .u64 (wd (o ||| t) 0).toNat)).setCell ⟨gc,b*4+1,none⟩ (.int .u64 (wd (o ||| t) 1).toNat)).setCell ⟨gc,b*4+2,none⟩ (.int .u64 (wd (o ||| t) 2).toNat)).setCell ⟨gc,b*4+3,none⟩ (.int .u64 (wd (o ||| t) 3).toNat));rw[<-Wz];have kg:ae (· ≠gc) W W8:=by rw[Wz];exact((((ae.refl _ _).setCell (p:=⟨gc,b*4,none⟩) (fun h=>h rfl) _).setCell (p:=⟨gc,b*4+1,none⟩) (fun h=>h rfl) _).setCell (p:=⟨gc,b*4+2,none⟩) (fun h=>h rfl) _).setCell (p:=⟨gc,b*4+3,none⟩) (fun h=>h rfl) _
    refine⟨k+1,us2,by omega,by go_num,ZB.out.keeps kg fun e=>cm ZB.out ZC.out (by decide) gc rfl e.symm,?_,ai ZR.out kg fun z e e2=>?_,ZRS.out.keeps kg fun u z hu e hz e2=>?_,ZX.out.tr (kg.mono fun z (hz:z<g5)=>by show z≠gc;omega)⟩
    ·have h5:=((((ZC.out.stored (b*4) (.int .u64 (wd (o ||| t) 0).toNat)).1.stored (b*4+1) (.int .u64 (wd (o ||| t) 1).toNat)).1.stored (b*4+2) (.int .u64 (wd (o ||| t) 2).toNat)).1.stored (b*4+3) (.int .u64 (wd (o ||| t) 3).toNat)).1
     rw[AH (o ||| t) (kN d N k) b (by unfold kN;rw[aQ,List.length_range];exact hbN),HBE.out,HOE.out,HTE.out,HBE.out,SF d (by rw[<-HBE.out];exact hbN)]at h5;rw[Wz,HBE.out,HOE.out,HTE.out,HBE.out];exact h5
    ·rcases ownBlock_ne (by decide) ZR.out ZC.out with h5 | h5
     ·rw[h5]at e;cases e
     ·exact h5 (e.trans (by rw[e2];rfl))
    ·obtain⟨i,hi⟩:=List.mem_iff_getElem?.1 hu
     have gL:=(List.getElem?_eq_some_iff.1 hi).1;have hr5:=ZRS.out.rows i u _ hi (az (by rw[ZRS.out.l2, <-ZRS.out.l1];exact gL));rcases ownBlock_ne (by decide) hr5 ZC.out with h5 | h5
     ·rw[h5]at e;cases e
     ·exact h5 (e.trans (by rw[e2];rfl))
   case measure=>simp[intOf];omega
  ·obtain rfl:k=K:=by omega
   have eG:¬ ((k:Int)<k):=by omega
   have RF:=hid (R2.out.keeps HX.out (by show w.heap.size+1<g5;omega));have XK:Hid (aa w wo):=hid (X2.out.trans (HX.out.mono fun x (hx:x<w.heap.size)=>by show x<g5;omega:ae (· <w.heap.size) W2 wo).below);obtain⟨⟨k0,k1,k2⟩,_⟩:=HB.out.three;obtain⟨⟨l0,l1,l2⟩,z0,z1,z2⟩:=RF.out.three;go_wp2;refine bu ?_;intro W9 gq;have E9:Hid (ar W9 (w.heap.size+1) #[.slice x0 N y0,.slice x1 n y1,.slice a2 n c2] 29/\ae (· ≠w.heap.size+1) wo W9):=by rw[gq];exact hid ⟨RF.out.yT,eE _ _ _ _ _⟩
   clear gq z0 z1 z2 k0 k1 k2 l0 l1 l2;obtain⟨⟨m0,m1,m2⟩,_⟩:=E9.out.1.three;refine bodyPost_ret (v:=.agg #[.slice x0 N y0,.slice x1 n y1,.slice a2 n c2]) (by simp[results,Tryz.results116,go_sem,m0,m1,m2]) rfl ⟨_,rfl,⟨_,_,_,rfl,?_,?_,?_⟩,XK.out.trans (E9.out.2.mono fun x (hx:x<w.heap.size)=>by show x≠w.heap.size+1;omega:ae (· <w.heap.size) wo W9).below⟩
   ·have h5:=aF (base':=base) (ai HC.out E9.out.2 fun x e=>by have:=(HC.out.lt x e).1;show x≠_;omega) (by omega)
    have e:kN d N k=(ie d).cl:=by rw[oQ.out,HK.out];exact SG d
    have e2:(ie d).cl.length=N:=by rw[<-e];unfold kN;rw[aQ,List.length_range]
    show W9.ownsRow base 56 4 _ (ie d).cl.length _;rw[e2, <-e];exact h5
   ·have e:jX d k=(ie d).nx:=by rw[HK.out];exact NK d
    have h5:br g5 wo (.slice x1 n y1) (jX d k):=RowsIn.ll Wq.out.rows Wq.out.l1 Wq.out.l2 HR.out;rw[e]at h5;exact(h5.keeps E9.out.2 fun x h1 _=>by show x≠_;omega).base (by omega)
   ·exact H2.out.keeps (R:=(· <w.heap.size)) ((ae.ak XK.out fun _ h=>h:ae (· <w.heap.size) w wo).tr (E9.out.2.mono fun x (hx:x<w.heap.size)=>by show x≠w.heap.size+1;omega)) fun _ _ h=>h
end
section
open Go Go.RowKit Go.Shelf Go.Maps
def AK (n0 n1 n2:Nat) (d:DF) (W:World) (e:Ending) (w':World):Prop:=
 ∃ a0 c0 a1 c1 a2 c2,e=.returned (.agg #[.slice a0 n0 c0,.slice a1 n1 c1,.slice a2 n2 c2])/\bA W.heap.size w' (.agg #[.slice a0 n0 c0,.slice a1 n1 c1,.slice a2 n2 c2]) d/\aa W w'
theorem cS.form {w:World} {v:Value} {d:DF} (h:cS w v d):∃ a0 c0 a1 c1 a2 c2,v=.agg #[.slice a0 d.cl.length c0,.slice a1 d.nx.length c1,.slice a2 d.mr.length c2]:=by obtain⟨v0,v1,v2,rfl,h0,h1,h2⟩:=h;obtain⟨a0,c0,rfl⟩:=h0.1.form;obtain⟨a1,c1,rfl⟩:=h1.form;obtain⟨a2,c2,rfl⟩:=h2.form;exact⟨_,_,_,_,_,_,rfl⟩
theorem Le {d:DF} (rt:Rt d) {n0 n1 n2:Nat} (h0:n0=(aI d).cl.length) (h1:n1=(aI d).nx.length) (h2:n2=(aI d).mr.length) (W:World) (u:Value) (h:cS W u d):ah 115 #[u] W (oV n0 n1 n2 0 (aI d) W):=
 (Sy u d rt rt.UZ W h).mono fun e w' ⟨r,hr,hd,hx⟩=>by
  subst h0 h1 h2;obtain⟨a0,c0,a1,c1,a2,c2,rfl⟩:=hd.form;exact⟨a0,c0,a1,c1,a2,c2,hr,hd,hx⟩
theorem NN {d:DF} (rt:Rt d) (p:Nat->Nat) {n0 n1 n2:Nat} (h0:n0=(cA d p).cl.length) (h1:n1=(cA d p).nx.length) (h2:n2=(cA d p).mr.length) (W:World) (u pv:Value) (h:cS W u d) (hp:bZ (fun u:Value=>u) W pv ((List.range d.nx.length).map fun s=>cQ (p s))):ah 81 #[u,pv] W (AK n0 n1 n2 (cA d p) W):=
 (Jz u pv d rt rt.UZ p W h hp).mono fun e w' ⟨r,hr,hd,hx⟩=>by
  subst h0 h1 h2;obtain⟨a0,c0,a1,c1,a2,c2,rfl⟩:=hd.form;exact⟨a0,c0,a1,c1,a2,c2,hr,hd,hx⟩
def Lf (base n0 n1 n2:Nat) (d:DF) (W:World) (e:Ending) (w':World):Prop:=
 ∃ a0 c0 a1 c1 a2 c2,e=.returned (.agg #[.slice a0 n0 c0,.slice a1 n1 c1,.slice a2 n2 c2])/\bA base w' (.agg #[.slice a0 n0 c0,.slice a1 n1 c1,.slice a2 n2 c2]) d/\aa W w'
theorem Gk {d:DF} (rt:Rt d) {n0 n1 n2:Nat} (h0:n0=(ie d).cl.length) (h1:n1=(ie d).nx.length) (h2:n2=(ie d).mr.length) (base:Nat) (W:World) (u:Value) (h:bA base W u d) (hb:base<=W.heap.size):ah 116 #[u] W (Lf base n0 n1 n2 (ie d) W):=
 (De base u d rt W h hb).mono fun e w' ⟨r,hr,hd,hx⟩=>by
  subst h0 h1 h2;obtain⟨a0,c0,a1,c1,a2,c2,rfl⟩:=hd.form;exact⟨a0,c0,a1,c1,a2,c2,hr,hd,hx⟩
theorem Df {w:World} {base n:Nat} {v:Value} {e:TypeId} {l:List Value} (h:w.ownsRow base e 1 v n l) (hn:n=l.length):bZ (fun u:Value=>u) w v l:=by
 have e1:l=l.map fun u:Value=>u:=by rw[List.map_id']
 rw[e1]at h;exact dc h hn
theorem ar.qy {w:World} {b:Nat} {x0 x1 x2 y0 y1 y2:Value} {t:TypeId} (h:ar w b #[x0,x1,x2] t):ar (((w.setCell ⟨b,0,none⟩ y0).setCell ⟨b,1,none⟩ y1).setCell ⟨b,2,none⟩ y2) b #[y0,y1,y2] t:=((h.set 0 _).set 1 _).set 2 _
theorem qz {d:DF} (rt:Rt d) {k0 k1 k2:Nat} (lH:k0=(aP d).cl.length) (iK:k1=(aP d).nx.length) (hk2:k2=(aP d).mr.length) (w:World) (v:Value) (h:cS w v d): ah 62 #[v] w (AK k0 k1 k2 (aP d) w):=by
 have rt1:Rt (aI d):=dE rt;have rt2:Rt (cA (aI d) (gI (aI d))):=FZ rt1 (NC rt1);have rt3:Rt (qw d):=Sj rt2;obtain⟨n0,dh⟩:=ag d.cl.length;obtain⟨n1,fE⟩:=ag d.nx.length;obtain⟨n2,jk⟩:=ag d.mr.length;obtain⟨n3,GU⟩:=ag ((aI d).cl.length);obtain⟨n4,Tu⟩:=ag ((aI d).nx.length);obtain⟨n5,hn5⟩:=ag ((aI d).mr.length);obtain⟨m0,ve⟩:=ag ((cA (aI d) (gI (aI d))).cl.length);obtain⟨m1,rK⟩:=ag ((cA (aI d) (gI (aI d))).nx.length);obtain⟨m2,tN⟩:=ag ((cA (aI d) (gI (aI d))).mr.length);obtain⟨m3,hm3⟩:=ag ((qw d).cl.length);obtain⟨m4,ui⟩:=ag ((qw d).nx.length);obtain⟨m5,hm5⟩:=ag ((qw d).mr.length);obtain⟨R,hR⟩:=ag ((List.range (aI d).nx.length).map fun s=>cQ (gI (aI d) s));have CT:Hid (∀ W u,cS W u d->ah 115 #[u] W (oV n3 n4 n5 0 (aI d) W)):=hid fun W u h=>Le rt GU Tu hn5 W u h
 have CB:Hid (∀ W u,cS W u (aI d)->ah 79 #[u] W fun e w'=>∃ a c,e=.returned (.slice a n4 c)/\w'.ownsRow W.heap.size 3 1 (.slice a n4 c) n4 R/\aa W w'):=hid fun W u h=>(ye u _ rt1 W h).mono fun e w' ⟨r,hr,ho,hx⟩=>by
  rw[<-hR, <-Tu]at ho;obtain⟨a,c,rfl⟩:=ownsRow_form ho;exact⟨a,c,hr,ho,hx⟩
 have CM:Hid (∀ W u pv,cS W u (aI d)->bZ (fun u:Value=>u) W pv R->ah 81 #[u,pv] W (AK m0 m1 m2 (cA (aI d) (gI (aI d))) W)):=hid fun W u pv h hp=>NN rt1 _ ve rK tN W u pv h (by rw[<-hR];exact hp)
 have CN:Hid (∀ base W u,bA base W u (cA (aI d) (gI (aI d)))->base<=W.heap.size->ah 116 #[u] W (Lf base m3 m4 m5 (qw d) W)):=hid fun base W u h hb=>Gk rt2 hm3 ui hm5 base W u h hb
 have CZ:Hid (∀ W u,cS W u (qw d)->ah 115 #[u] W (oV k0 k1 k2 0 (aP d) W)):=hid fun W u h=>Le rt3 lH iK hk2 W u h
 have Yf:Hid (n4=R.length):=hid (by rw[hR,aQ,List.length_range];exact Tu);obtain⟨a0,c0,a1,c1,a2,c2,rfl⟩:=h.form;rw[<-dh, <-fE, <-jk]at h ⊢;have H:=hid h;generalize cA (aI d) (gI (aI d))=d2 at*;generalize aI d=d1 at*;generalize qw d=d3 at*;generalize aP d=d4 at*;clear h rt rt1 rt2 rt3 dh fE jk GU Tu hn5 ve rK tN hm3 ui hm5 lH iK hk2 hR;go_enter Tryz.func62,Tryz.ntmps62;go_upto_region 1 with fail
 refine ax ?_;intro V hV;have B0:Hid (ar V w.heap.size #[.slice a0 n0 c0,.slice a1 n1 c1,.slice a2 n2 c2] 29):=hid (by rw[hV];exact(ar.new w _ _).alloc _);have R0:Hid (ar V (w.heap.size+1) #[.slice none 0 0,.slice none 0 0,.slice none 0 0] 29):=hid (by rw[hV];exact(ar.new (w.alloc _) _ _).at (by simp));have X0:Hid (aa w V):=hid (by rw[hV];exact(((Ext.refl w).alloc _).alloc _).below);clear hV;obtain⟨p0,p1,p2⟩:=bA.mO B0.out;go_wp2_with fail
 refine(CT.out V _ (H.out.below X0.out)).mono ?_;rintro e w1 ⟨x0,y0,x1,y1,x2,y2,rfl,ho,hx⟩;have O1:=hid ho;have B1:=hid (B0.out.below hx B0.out.lt);have R1:=hid (R0.out.below hx R0.out.lt);have X1:=hid (X0.out.trans (hx.mono X0.out.size));have hV1:w.heap.size+1<V.heap.size:=R0.out.lt;have hW1:V.heap.size<=w1.heap.size:=hx.size;clear ho hx p0 p1 p2 B0 R0 X0 CT;obtain⟨⟨p0,p1,p2⟩,z0,z1,z2⟩:=B1.out.three;go_upto_region 2 with fail
 refine ax ?_;intro V1 hV;have KV:Hid (ae (· ≠w.heap.size) w1 V1):=hid (by rw[hV];exact eE _ _ _ _ _);have B2:Hid (ar V1 w.heap.size #[.slice x0 n3 y0,.slice x1 n4 y1,.slice x2 n5 y2] 29):=hid (by rw[hV];exact B1.out.qy);clear hV p0 p1 p2 z0 z1 z2;have R2:=hid (R1.out.keeps KV.out (by omega));have O2:=hid (O1.out.keeps KV.out fun x h1 _=>by show x≠w.heap.size;omega);have X2:Hid (aa w V1):=hid (X1.out.trans (KV.out.mono fun x (hx:x<w.heap.size)=>by show x≠w.heap.size;omega:ae (· <w.heap.size) w1 V1).below);have hW2:w1.heap.size<=V1.heap.size:=KV.out.size;clear B1 R1 O1 X1 KV;obtain⟨p0,p1,p2⟩:=bA.mO B2.out;refine aK false (fun _=>False) (by kernel_rfl) 3 [0,0,2,7,15,31] (fun i=>i==2) (by kernel_rfl) (fun i=>if i=2 then aZ.row V1.heap.size 3 1 n4 R else aZ.any _) ?_;intro C hC hne;have HC:=hid hC;have f0:=aC hC (p:=⟨w.heap.size,0,none⟩) B2.out.lt (fun h=>h) p0;have f1:=aC hC (p:=⟨w.heap.size,1,none⟩) B2.out.lt (fun h=>h) p1;have f2:=aC hC (p:=⟨w.heap.size,2,none⟩) B2.out.lt (fun h=>h) p2;clear hC p0 p1 p2
 repeat (refine au (fun K hK=>?_);first | (refine bX rfl ?_;try go_simp;refine hK _ _ ?_;clear hK K) | (refine bR rfl rfl ?_;unfold aB;go_simp;refine hK _ _ ?_;clear hK K))
 refine au (fun K hK=>?_);refine ck rfl rfl (aZ.row V1.heap.size 3 1 n4 R) rfl (fun W hW hN=>?_) (fun v hv=>?_)
 ·have hM:=(HC.out W).1 hW
  clear hW;go_simp;refine bM ((CB.out W _ (O2.out.below hM.below).df).mono ?_);rintro e w2 ⟨pa,pc,rfl,ho,hx⟩;exact⟨_,rfl,Move.ak hx,⟨_,_,rfl⟩,aF ho hM.size⟩
 obtain⟨pa,pc,rfl⟩:=hv;go_simp;refine hK _ _ ?_;clear hK K;refine bG (fun W hW hH=>?_);have hM:=(HC.out W).1 hW;have PR:Hid (W.ownsRow V1.heap.size 3 1 (.slice pa n4 pc) n4 R):=hid (hH _ (aw (show _=some _ from rfl:_[0]? =some _)));have B3:=hid (B2.out.below hM.below B2.out.lt);have R3:=hid (R2.out.below hM.below R2.out.lt);have O3:=hid (O2.out.below hM.below);have X3:=hid (X2.out.trans (hM.below.mono X2.out.size));have hW3:V1.heap.size<=W.heap.size:=hM.size;clear hM hW hH HC hne f0 f1 f2 B2 R2 O2 X2 CB;go_wp2_with fail
 refine(CM.out W _ _ O3.out.df (Df PR.out Yf.out)).mono ?_;rintro e w3 ⟨s0,t0,s1,t1,s2,t2,rfl,ho,hx⟩;have OM:=hid ho;have B4:=hid (B3.out.below hx B3.out.lt);have R4:=hid (R3.out.below hx R3.out.lt);have X4:=hid (X3.out.trans (hx.mono X3.out.size));have Kt:W.heap.size<=w3.heap.size:=hx.size;clear ho hx B3 R3 X3 O3 PR CM;go_wp2_with fail
 refine(CN.out W.heap.size w3 _ OM.out Kt).mono ?_;rintro e w4 ⟨q0,r0,q1,r1,q2,r2,rfl,hd,hx⟩;have ON:=hid hd;have B5:=hid (B4.out.below hx B4.out.lt);have R5:=hid (R4.out.below hx R4.out.lt);have X5:=hid (X4.out.trans (hx.mono X4.out.size));have Yv:w3.heap.size<=w4.heap.size:=hx.size;clear hd hx B4 R4 X4 OM CN;obtain⟨⟨p0,p1,p2⟩,z0,z1,z2⟩:=B5.out.three;go_upto_region 3 with fail
 refine ax ?_;intro V5 hV;have KV:Hid (ae (· ≠w.heap.size) w4 V5):=hid (by rw[hV];exact eE _ _ _ _ _);have B6:Hid (ar V5 w.heap.size #[.slice q0 m3 r0,.slice q1 m4 r1,.slice q2 m5 r2] 29):=hid (by rw[hV];exact B5.out.qy);clear hV p0 p1 p2 z0 z1 z2;have R6:=hid (R5.out.keeps KV.out (by omega));have O6:=hid (ON.out.keeps KV.out fun x h1 _=>by show x≠w.heap.size;omega);have X6:Hid (aa w V5):=hid (X5.out.trans (KV.out.mono fun x (hx:x<w.heap.size)=>by show x≠w.heap.size;omega:ae (· <w.heap.size) w4 V5).below);have uL:w4.heap.size<=V5.heap.size:=KV.out.size;clear B5 R5 ON X5 KV;obtain⟨p0,p1,p2⟩:=bA.mO B6.out;go_wp2_with fail
 refine(CZ.out V5 _ O6.out.df).mono ?_;rintro e w5 ⟨g0,h0,g1,h1,g2,h2,rfl,ho,hx⟩;have OZ:=hid ho;have B7:=hid (B6.out.below hx B6.out.lt);have R7:=hid (R6.out.below hx R6.out.lt);have X7:=hid (X6.out.trans (hx.mono X6.out.size));have hW7:V5.heap.size<=w5.heap.size:=hx.size;clear ho hx p0 p1 p2 B6 R6 X6 O6 CZ;obtain⟨⟨p0,p1,p2⟩,z0,z1,z2⟩:=B7.out.three;go_upto_region 4 with fail
 refine ax ?_;intro V6 hV;have KV:Hid (ae (· ≠w.heap.size) w5 V6):=hid (by rw[hV];exact eE _ _ _ _ _);have B8:Hid (ar V6 w.heap.size #[.slice g0 k0 h0,.slice g1 k1 h1,.slice g2 k2 h2] 29):=hid (by rw[hV];exact B7.out.qy);clear hV p0 p1 p2 z0 z1 z2;have R8:=hid (R7.out.keeps KV.out (by omega));have O8:=hid (OZ.out.keeps KV.out fun x h1 _=>by show x≠w.heap.size;omega);have X8:Hid (aa w V6):=hid (X7.out.trans (KV.out.mono fun x (hx:x<w.heap.size)=>by show x≠w.heap.size;omega:ae (· <w.heap.size) w5 V6).below);clear B7 R7 OZ X7 KV;obtain⟨p0,p1,p2⟩:=bA.mO B8.out;obtain⟨⟨l0,l1,l2⟩,z0,z1,z2⟩:=R8.out.three;go_wp2;refine bu ?_;intro W9 gq;have E9:Hid (ar W9 (w.heap.size+1) #[.slice g0 k0 h0,.slice g1 k1 h1,.slice g2 k2 h2] 29/\ae (· ≠w.heap.size+1) V6 W9):=by
  rw[gq];exact hid ⟨R8.out.qy,eE _ _ _ _ _⟩
 clear gq z0 z1 z2 p0 p1 p2 l0 l1 l2;obtain⟨m0,m1,m2⟩:=bA.mO E9.out.1;refine bodyPost_ret (v:=.agg #[.slice g0 k0 h0,.slice g1 k1 h1,.slice g2 k2 h2]) (by simp[results,Tryz.results62,go_sem,m0,m1,m2]) rfl ⟨g0,h0,g1,h1,g2,h2,rfl,(O8.out.keeps E9.out.2 fun x h1 _=>by show x≠_;omega).base (by omega),X8.out.trans (E9.out.2.mono fun x (hx:x<w.heap.size)=>by show x≠w.heap.size+1;omega:ae (· <w.heap.size) V6 W9).below⟩
def Gl (w:World) (v:Value) (l:List (List (Nat×Nat×Nat))):Prop:=(∃ p c,v=.slice p 0 c/\l=[])\/
 ∃ b off c,v=.slice (some ⟨b,off,none⟩) l.length c/\b<w.heap.size/\l.length<=c/\l≠[]/\∀ (i:Nat) (s:List (Nat×Nat×Nat)),l[i]? =some s->s.length<=1000000000000000/\∃ u,dR w u s/\w.cell? ⟨b,off+i,none⟩=some u
theorem Gl.below {w w':World} {v:Value} {l:List (List (Nat×Nat×Nat))} (h:Gl w v l) (hk:aa w w'):Gl w' v l:=by
 rcases h with h | ⟨b,off,c,hv,hb,hc,hl,h⟩
 ·exact .inl h
 ·have hcell:∀ j,w'.cell? ⟨b,j,none⟩=w.cell? ⟨b,j,none⟩:=fun j=>(ae.ak hk fun _ h=>h:ae (· <w.heap.size) w w').cell (p:=⟨b,j,none⟩) hb
  refine .inr ⟨b,off,c,hv,aA hb hk.size,hc,hl,fun i s hi=>?_⟩;rw[hcell];obtain⟨h1,u,h3,h4⟩:=h i s hi;exact⟨h1,u,h3.below hk,h4⟩
def uE (w:World) (v:Value) (l:List (List (Nat×Nat×Nat))) (fl:Nat):Prop:=∃ u,v=.agg #[u,.int .u8 fl]/\Gl w u l
theorem uE.below {w w':World} {v:Value} {l:List (List (Nat×Nat×Nat))} {fl:Nat} (h:uE w v l fl) (hk:aa w w'):uE w' v l fl:=by obtain⟨u,h1,h2⟩:=h;exact⟨u,h1,h2.below hk⟩
theorem dR.cap {w:World} {a:Option Addr} {n c:Nat} {l:List (Nat×Nat×Nat)} (h:dR w (.slice a n c) l):l.length<=c:=by
 rcases h with⟨e,rfl⟩ | ⟨ad,c',e,rfl⟩ | ⟨b,off,c',e,hb,hc,hl,h⟩
 ·exact Nat.zero_le _
 ·exact Nat.zero_le _
 ·cases e;exact hc
theorem SI {m:Nat} (h:m<256):bits .and .u8 (m:Int) 1=((m%2:Nat):Int):=by
 have h1:∀ m:Fin 256,bits .and .u8 ((m.val:Nat):Int) 1=((m.val%2:Nat):Int):=by decide+kernel
 exact h1 ⟨m,h⟩
theorem ZG {fl:Nat} (nY:fl<256) (k:Nat):(bits .and .u8 ((fl:Int)/2^k) 1==1)=(fl/2^k%2==1):=by
 have h1:(fl:Int)/2^k=((fl/2^k:Nat):Int):=by simp
 rw[h1,SI (Nat.lt_of_le_of_lt (Nat.div_le_self _ _) nY)];rcases Nat.mod_two_eq_zero_or_one (fl/2^k)with h | h<;>rw[h]<;>rfl
def Dg (n0 n1 n2:Nat) (ok:Bool) (d:DF) (W:World) (e:Ending) (w':World):Prop:=
 ∃ a0 c0 a1 c1 a2 c2,e=.returned (.tuple #[.agg #[.slice a0 n0 c0,.slice a1 n1 c1,.slice a2 n2 c2],.bool ok])/\bA W.heap.size w' (.agg #[.slice a0 n0 c0,.slice a1 n1 c1,.slice a2 n2 c2]) d/\aa W w'
theorem dR.ZH {w:World} {a:Option Addr} {n c m:Nat} {l:List (Nat×Nat×Nat)} (h:dR w (.slice a n c) l) (hm:m=min n 12):dR w (.slice a m c) (l.take 12):=by
 rcases h with⟨e,rfl⟩ | ⟨ad,c',e,rfl⟩ | ⟨b,off,c',e,hb,hc,hl,h⟩
 ·cases e
  obtain rfl:m=0:=by omega
  exact .inl ⟨rfl,rfl⟩
 ·cases e
  obtain rfl:m=0:=by omega
  exact .inr (.inl ⟨ad,c,rfl,rfl⟩)
 ·cases e
  have hlen:(l.take 12).length=m:=by rw[List.length_take];omega
  refine .inr (.inr ⟨b,off,c,by rw[hlen],hb,by omega,?_,fun i s hi=>h i s ?_⟩)
  ·intro e
   have h1:=congrArg List.length e;rw[hlen]at h1;have h2:l.length≠0:=fun e=>hl (List.eq_nil_of_length_eq_zero e)
   have h3:m=0:=h1;omega
  ·by_cases Z9:i<12
   ·rwa[List.getElem?_take_of_lt Z9]at hi
   ·rw[aX (by rw[List.length_take];omega)]at hi;cases hi
theorem JE (p:Option Addr) (c:Nat) (fl:Nat) (nY:fl<256) (l:List (List (Nat×Nat×Nat))) (hl:l=[]) {d:DF} {code:Int} (he:kP (cI l fl) 60=(d,code)) (mP:code=0->0<d.nx.length) {n0 n1 n2:Nat} (h0:n0=d.cl.length) (h1:n1=d.nx.length) (h2:n2=d.mr.length) (w:World) (hT:∀ W,aa w W->nE W): ah 11 #[.agg #[.slice p 0 c,.int .u8 fl]] w (Dg n0 n1 n2 (code==0) d w):=by
 have CO:Hid (∀ W u,aa w W->iW W u (cI l fl)->ah 61 #[u,.int .i64 60] W (oV n0 n1 n2 code d W)):=hid fun W u hW hu=>xA (qm l fl nY) he h0 h1 h2 W u hu fun V hV=>hT V (hW.trans (hV.mono hW.size))
 have j6:Hid (code=0->0<n1):=hid fun e=>by rw[h1];exact mP e
 obtain⟨ok,qA⟩:=ag ((code==0));rw[<-qA];have SJ:=hid qA;clear qA;have Av:Hid (eB w.heap.size w (.slice none 0 0) (cI l fl)):=hid (by rw[hl];exact eB.nil _ _);have l4:min (0:Int) 3=0:=by decide
 clear he mP h0 h1 h2 hT hl;go_enter Tryz.func11,Tryz.ntmps11;go_upto_region 1 with fail
 refine ax ?_;intro V hV;have B0:Hid (ar V w.heap.size #[.slice p 0 c,.int .u8 fl] 24):=hid (by rw[hV];exact(ar.new w _ _).alloc _);have R0:Hid (ar V (w.heap.size+1) #[.slice none 0 0,.slice none 0 0,.slice none 0 0] 29):=hid (by rw[hV];exact(ar.new (w.alloc _) _ _).at (by simp));have X0:Hid (aa w V):=hid (by rw[hV];exact(((Ext.refl w).alloc _).alloc _).below);clear hV;have b0:V.cell? ⟨w.heap.size,0,none⟩=some (.slice p 0 c):=B0.out.cell 0;go_wp2_with fail
 clear b0;go_loopw [4,19] (fun pv iv wr=>pv=.slice none 0 0/\iv=.int .i64 0/\wr=V) (fun _ _ _=>0);case atStart=>exact⟨rfl,rfl,rfl⟩
 case round=>
  obtain⟨rfl,rfl,hw⟩:=hrel;obtain⟨wo,rfl⟩:=ag (wr:World);subst hw;replace Av:=hid (Av.out.below X0.out);go_wp2_with fail
  refine(CO.out wo _ X0.out Av.out.pts).mono ?_;rintro e w5 ⟨a0,c0,a1,c1,a2,c2,rfl,ho,hx⟩;have O5:=hid ho;have R5:=hid (R0.out.below hx R0.out.lt);have X5:=hid (X0.out.trans (hx.mono X0.out.size));have hsO:w.heap.size+1<wo.heap.size:=R0.out.lt;clear ho hx CO;go_upto_region 11 with fail
  refine ax ?_;intro V6 hV;obtain⟨db,Vs⟩:=ag w5.heap.size;have D6:Hid (ar V6 db #[.slice a0 n0 c0,.slice a1 n1 c1,.slice a2 n2 c2] 29):=hid (by rw[hV,Vs];exact ar.new w5 _ _);have qK:aa w5 V6:=by rw[hV];exact((Ext.refl _).alloc _).below
  have O6:=hid (O5.out.below qK);have R6:=hid (R5.out.below qK R5.out.lt);have X6:=hid (X5.out.trans (qK.mono X5.out.size));have hdr:w.heap.size+1<db:=by rw[Vs];exact R5.out.lt
  rw[<-Vs];have q0:V6.cell? ⟨db,0,none⟩=some (.slice a0 n0 c0):=D6.out.cell 0;have q1:V6.cell? ⟨db,1,none⟩=some (.slice a1 n1 c1):=D6.out.cell 1;have q2:V6.cell? ⟨db,2,none⟩=some (.slice a2 n2 c2):=D6.out.cell 2;clear hV qK O5 R5 X5 Vs;have JF:=D6.out.lt;have HF:Hid (∃ c,ar V6 (w.heap.size+1) c 29/\c.size=(#[.slice a0 n0 c0,.slice a1 n1 c1,.slice a2 n2 c2]:Array Value).size):=hid ⟨_,R6.out,rfl⟩;have qA:=SJ.out;have hn:ok=true->decide ((0:Int)<n1)=true:=fun e=>by
   rw[qA]at e;have:=j6.out (by simpa using e);exact decide_eq_true (by omega)
  have HN9:=hid hn;have adk:((code:Int)==0)=ok:=qA.symm;clear hn qA SJ;refine bB (fO (w.heap.size+1) 29 #[.slice a0 n0 c0,.slice a1 n1 c1,.slice a2 n2 c2]) (fO.drew _ _ _ _) (fun _ _ _ h k=>h.trans k) (by kernel_rfl) 10 [0,0,2,6,14,30,62,126,254,15,1023] (fun i=>i==9) (by kernel_rfl) (fun i=>if i=9 then aZ.wrote (w.heap.size+1) 29 #[.slice a0 n0 c0,.slice a1 n1 c1,.slice a2 n2 c2]else aZ.any _) ?_;intro C hC _;have HC:=hid hC;have k0:∀ W: {W//C W},W.1.cell? ⟨db,0,none⟩=some (.slice a0 n0 c0):=fun W=>(((hC W.1).1 W.2).keeps.cell (p:=⟨db,0,none⟩) ⟨JF,by show ¬db=_;omega⟩).trans q0
  have k1:∀ W: {W//C W},W.1.cell? ⟨db,1,none⟩=some (.slice a1 n1 c1):=fun W=>(((hC W.1).1 W.2).keeps.cell (p:=⟨db,1,none⟩) ⟨JF,by show ¬db=_;omega⟩).trans q1
  have k2:∀ W: {W//C W},W.1.cell? ⟨db,2,none⟩=some (.slice a2 n2 c2):=fun W=>(((hC W.1).1 W.2).keeps.cell (p:=⟨db,2,none⟩) ⟨JF,by show ¬db=_;omega⟩).trans q2
  clear hC q0 q1 q2;cases ok with
  | false=>
   repeat (refine au (fun K hK=>?_);first | (refine bX rfl ?_;try go_simp;refine hK _ _ ?_;clear hK K) | (refine bR rfl rfl ?_;unfold aB;go_simp;refine hK _ _ ?_;clear hK K))
   refine au (fun K hK=>?_);refine ck rfl rfl (aZ.wrote (w.heap.size+1) 29 #[.slice a0 n0 c0,.slice a1 n1 c1,.slice a2 n2 c2]) rfl (fun W hW hN=>?_) (fun v hv=>?_)
   ·have hM:=(HC.out W).1 hW
    obtain⟨c,hb,hcs⟩:=hM.old HF.out;obtain⟨x0,x1,x2,rfl⟩:∃ x0 x1 x2,c= #[x0,x1,x2]:=by
     have h4:c.toList.length=3:=by rw[Array.length_toList,hcs];rfl
     match hc:c.toList,h4 with
     | [x0,x1,x2],_=>exact⟨x0,x1,x2,by rw[<-Array.toArray_toList (xs:=c),hc]⟩
    have HB:=hid hb;obtain⟨⟨y0,y1,y2⟩,z0,z1,z2⟩:=hb.three;clear hW hN hK K hb hcs hM;go_simp;exact⟨fO.store ⟨(eE _ _ _ _ _).mono fun _ h=>h.2,fun h=>by cases h⟩ HB.out.qy,trivial,HB.out.qy⟩
   go_simp;refine hK _ _ ?_;clear hK K hv
   repeat (refine au (fun K hK=>?_);first | (refine bX rfl ?_;try go_simp;refine hK _ _ ?_;clear hK K) | (refine bR rfl rfl ?_;unfold aB;go_simp;refine hK _ _ ?_;clear hK K))
   refine bG (fun w9 hW hH=>?_);have hM:=(HC.out w9).1 hW;have H4:Hid (ar w9 (w.heap.size+1) #[.slice a0 n0 c0,.slice a1 n1 c1,.slice a2 n2 c2] 29):=hH _ (aW ..);have K9:Hid (ae (fun k=>k<V6.heap.size/\¬k=w.heap.size+1) V6 w9):=hid hM.keeps;clear hM hW hH HC HF k0 k1 k2;go_wp2;obtain⟨m0,m1,m2⟩:=bA.mO (H4.out:ar w9 (w.heap.size+1) #[.slice a0 n0 c0,.slice a1 n1 c1,.slice a2 n2 c2] 29);refine bodyPost_ret (v:=.tuple #[.agg #[.slice a0 n0 c0,.slice a1 n1 c1,.slice a2 n2 c2],.bool false]) (by simp[results,Tryz.results11,go_sem,m0,m1,m2]) rfl ⟨a0,c0,a1,c1,a2,c2,rfl,(O6.out.keeps K9.out fun x h1 h2=>⟨h2,by omega⟩).base (by omega),X6.out.trans (K9.out.mono fun x (hx:x<w.heap.size)=>⟨by have:=X6.out.size;omega,by omega⟩:ae (· <w.heap.size) V6 w9).below⟩
  | true=>
   have d1:=HN9.out rfl;have d2:0<n1:=by have:=of_decide_eq_true d1;omega
   repeat (refine au (fun K hK=>?_);first | (refine bX rfl ?_;try go_simp;refine hK _ _ ?_;clear hK K) | (refine bR rfl rfl ?_;unfold aB;go_simp;refine hK _ _ ?_;clear hK K))
   refine au (fun K hK=>?_);refine ck rfl rfl (aZ.wrote (w.heap.size+1) 29 #[.slice a0 n0 c0,.slice a1 n1 c1,.slice a2 n2 c2]) rfl (fun W hW hN=>?_) (fun v hv=>?_)
   ·have hM:=(HC.out W).1 hW
    obtain⟨c,hb,hcs⟩:=hM.old HF.out;obtain⟨x0,x1,x2,rfl⟩:∃ x0 x1 x2,c= #[x0,x1,x2]:=by
     have h4:c.toList.length=3:=by rw[Array.length_toList,hcs];rfl
     match hc:c.toList,h4 with
     | [x0,x1,x2],_=>exact⟨x0,x1,x2,by rw[<-Array.toArray_toList (xs:=c),hc]⟩
    have HB:=hid hb;obtain⟨⟨y0,y1,y2⟩,z0,z1,z2⟩:=hb.three;clear hW hN hK K hb hcs hM;go_simp;exact⟨fO.store ⟨(eE _ _ _ _ _).mono fun _ h=>h.2,fun h=>by cases h⟩ HB.out.qy,trivial,HB.out.qy⟩
   go_simp;refine hK _ _ ?_;clear hK K hv
   repeat (refine au (fun K hK=>?_);first | (refine bX rfl ?_;try go_simp;refine hK _ _ ?_;clear hK K) | (refine bR rfl rfl ?_;unfold aB;go_simp;refine hK _ _ ?_;clear hK K))
   refine bG (fun w9 hW hH=>?_);have hM:=(HC.out w9).1 hW;have H4:Hid (ar w9 (w.heap.size+1) #[.slice a0 n0 c0,.slice a1 n1 c1,.slice a2 n2 c2] 29):=hH _ (aW ..);have K9:Hid (ae (fun k=>k<V6.heap.size/\¬k=w.heap.size+1) V6 w9):=hid hM.keeps;clear hM hW hH HC HF k0 k1 k2;go_wp2;obtain⟨m0,m1,m2⟩:=bA.mO (H4.out:ar w9 (w.heap.size+1) #[.slice a0 n0 c0,.slice a1 n1 c1,.slice a2 n2 c2] 29);refine bodyPost_ret (v:=.tuple #[.agg #[.slice a0 n0 c0,.slice a1 n1 c1,.slice a2 n2 c2],.bool true]) (by simp[results,Tryz.results11,go_sem,m0,m1,m2]) rfl ⟨a0,c0,a1,c1,a2,c2,rfl,(O6.out.keeps K9.out fun x h1 h2=>⟨h2,by omega⟩).base (by omega),X6.out.trans (K9.out.mono fun x (hx:x<w.heap.size)=>⟨by have:=X6.out.size;omega,by omega⟩:ae (· <w.heap.size) V6 w9).below⟩
theorem Gm (b off c:Nat) (fl:Nat) (nY:fl<256) (l:List (List (Nat×Nat×Nat))) {d:DF} {code:Int} (he:kP (cI l fl) 60=(d,code)) (mP:code=0->0<d.nx.length) {n0 n1 n2:Nat} (h0:n0=d.cl.length) (h1:n1=d.nx.length) (h2:n2=d.mr.length) (w:World) (hb:b<w.heap.size) (hc:l.length<=c) (iZ:l.length<=1000000000000000) (hS:∀ (i:Nat) (s:List (Nat×Nat×Nat)),l[i]? =some s->s.length<=1000000000000000/\∃ u,dR w u s/\w.cell? ⟨b,off+i,none⟩=some u) (hT:∀ W,aa w W->nE W): ah 11 #[.agg #[.slice (some ⟨b,off,none⟩) l.length c,.int .u8 fl]] w (Dg n0 n1 n2 (code==0) d w):=by
 obtain⟨iP,hiP,Vt,Vu,ZI⟩:=info_parts Tryz.Y0;have CO:Hid (∀ W u,aa w W->iW W u (cI l fl)->ah 61 #[u,.int .i64 60] W (oV n0 n1 n2 code d W)):=hid fun W u hW hu=>xA (qm l fl nY) he h0 h1 h2 W u hu fun V hV=>hT V (hW.trans (hV.mono hW.size))
 have j6:Hid (code=0->0<n1):=hid fun e=>by rw[h1];exact mP e
 obtain⟨ok,qA⟩:=ag ((code==0));rw[<-qA];have SJ:=hid qA;clear qA;have HS:=hid hS;obtain⟨n,hn⟩:=ag l.length;obtain⟨N,hN⟩:=ag (min n 3);have l4:min (n:Int) 3=(N:Int):=by omega
 have Fp:N<=n:=by omega
 have hN3:N<=3:=by omega
 rw[<-hn]at hc iZ ⊢;have Fq:N<=c:=by omega
 have oQ:=hid hn;have HN:=hid hN;clear hS hn hN he mP h0 h1 h2 hT;go_enter Tryz.func11,Tryz.ntmps11;go_upto_region 1 with fail
 refine ax ?_;intro V hV;have B0:Hid (ar V w.heap.size #[.slice (some ⟨b,off,none⟩) n c,.int .u8 fl] 24):=hid (by rw[hV];exact(ar.new w _ _).alloc _);have R0:Hid (ar V (w.heap.size+1) #[.slice none 0 0,.slice none 0 0,.slice none 0 0] 29):=hid (by rw[hV];exact(ar.new (w.alloc _) _ _).at (by simp));have X0:Hid (aa w V):=hid (by rw[hV];exact(((Ext.refl w).alloc _).alloc _).below);clear hV;have b0:V.cell? ⟨w.heap.size,0,none⟩=some (.slice (some ⟨b,off,none⟩) n c):=B0.out.cell 0;go_wp2_with fail
 clear b0;go_loopw [4,19] (fun pv iv wr=>∃ k:Nat,k<=N/\iv=.int .i64 k/\eB V.heap.size wr pv ((cI l fl).take k)/\aa V wr) (fun _ iv _=>N-(intOf iv).toNat);case atStart=>exact⟨0,by omega,rfl,eB.nil _ _,Below.refl _ _⟩
 case round=>
  obtain⟨k,hk,rfl,hI,hx⟩:=hrel;obtain⟨wo,rfl⟩:=ag (wr:World);have HI:=hid hI;have HX:=hid (X0.out.trans (hx.mono X0.out.size));have HVX:=hid hx;have BO:=hid (B0.out.below hx B0.out.lt);have RO:=hid (R0.out.below hx R0.out.lt);clear hI hx;by_cases hlt:k<N
  ·have eG:(k:Int)<N:=by omega
   obtain⟨s,hsk⟩:∃ s,l[k]? =some s:=⟨_,az (by have:=oQ.out;omega)⟩;obtain⟨hs9,u,hu,c0⟩:=HS.out k _ hsk;have wc:∀ (o:Nat) (u:Value),w.cell? ⟨b,o,none⟩=some u->wo.cell? ⟨b,o,none⟩=some u:=fun o u h=>((ae.ak HX.out fun _ h=>h:ae (· <w.heap.size) w wo).cell (p:=⟨b,o,none⟩) hb).trans h
   replace c0:=wc _ _ c0;obtain⟨ua,uc,rfl⟩:=hu.form;obtain⟨sn,pF⟩:=ag s.length;obtain⟨S,hSe⟩:=ag (min sn 12);have akJ:min (sn:Int) 12=(S:Int):=by omega
   have hSn:S<=sn:=by omega
   have hsc:sn<=uc:=by rw[pF];exact hu.cap
   have hSc:S<=uc:=by omega
   rw[<-pF]at hu c0;have HU:=hid (hu.ZH hSe);obtain⟨m,hm⟩:=ag (((cI l fl).take k).length);obtain⟨pa,pc,Oq,HI2⟩:∃ pa pc,_=Value.slice pa m pc/\Hid (eB V.heap.size wo (.slice pa m pc) ((cI l fl).take k)):=by
    obtain⟨pa,pc,e⟩:=HI.out.form;rw[<-hm]at e;exact⟨pa,pc,e,hid (e▸HI.out)⟩
   subst Oq;have HM:=hid hm;have hmN:m<=3:=by rw[hm,List.length_take];omega
   have HSK:=hid hsk;have hT9:(s.take 12).length<=1000000000000000:=by rw[List.length_take];omega
   clear HI hm hu hsk wc pF hSe;go_wp2_with fail
   refine(I9 _ (s.take 12) hT9 wo (HU.out.below HX.out)).mono ?_;rintro e w1 ⟨t,rfl,ht,hx1⟩;have HT:=hid ht;have X1:Hid (aa w w1):=hid (HX.out.trans (hx1.mono HX.out.size));have V1:Hid (aa V w1):=hid (HVX.out.trans (hx1.mono HVX.out.size));have P1:=hid (HI2.out.below hx1);have B1:=hid (BO.out.below hx1 BO.out.lt);obtain⟨tp,tc,rfl⟩:=ht.form;clear ht hx1 HI2 c0 HVX BO;go_wp2_with fail
   refine(Ak _ (hZ (s.take 12)) w1 HT.out (nK _).fine (by have:=(nK (s.take 12)).size;omega) (nK _).cD).mono ?_;rintro e w2 ⟨u2,rfl,ho,hx2⟩;obtain⟨xa0,xn0,xc0,xa1,xn1,xc1,xa2,xn2,xc2,xa3,xn3,xc3,rfl⟩:=ho.form;have HO:=hid (ho.base (base':=V.heap.size) V1.out.size);have X2:Hid (aa w w2):=hid (X1.out.trans (hx2.mono X1.out.size));have V2:Hid (aa V w2):=hid (V1.out.trans (hx2.mono V1.out.size));have P2:=hid (P1.out.below hx2);have B2:=hid (B1.out.below hx2 B1.out.lt);clear ho hx2 X1 P1 HT V1 B1;go_upto_region 8 with fail
   refine ax ?_;intro V3 cT;have BN:Hid (ar V3 w2.heap.size #[.slice xa0 xn0 xc0,.slice xa1 xn1 xc1,.slice xa2 xn2 xc2,.slice xa3 xn3 xc3,.bool (hZ (s.take 12)).nf.emp] 118):=hid (by rw[cT];exact ar.new w2 _ _);have XV3:Hid (aa w2 V3):=hid (by rw[cT];exact((Ext.refl w2).alloc _).below);clear cT;have B3:=hid (B2.out.below XV3.out B2.out.lt);have P3:=hid (P2.out.below XV3.out);have O3:=hid (HO.out.below XV3.out);have X3:Hid (aa w V3):=hid (X2.out.trans (XV3.out.mono X2.out.size));have V3':Hid (aa V V3):=hid (V2.out.trans (XV3.out.mono V2.out.size));obtain⟨f0,f1,f2,f3,f4⟩:=BN.out.five;have g1:V3.cell? ⟨w.heap.size,1,none⟩=some (.int .u8 fl):=B3.out.cell 1;have hbn:=BN.out.lt;have hb3:=B3.out.lt;clear B2 P2 HO X2 V2 XV3;have hk3:k<3:=by omega
   obtain⟨bg,hbg⟩:=ag ((fl/2^k%2==1));obtain⟨mk,lC⟩:=ag (k*(fl/64):Nat);have YC:ql fl k s=⟨(hZ (s.take 12)).nf,bg,(mk:Int)⟩:=by rw[hbg,lC];rfl
   have HPT:=hid YC;clear YC;refine aK false (fun _=>False) (by kernel_rfl) 16 [0,0,0,4,0,28,60,124,0,0,512,1536,3584,7936,16382,32766,65535,131071] (fun i=>i==15) (by kernel_rfl) (fun i=>if i=15 then aZ.rowOf 1 #[.slice xa0 xn0 xc0,.slice xa1 xn1 xc1,.slice xa2 xn2 xc2,.slice xa3 xn3 xc3,.bool (hZ (s.take 12)).nf.emp,.bool bg,.int .i64 mk] 124 else aZ.any _) ?_;intro C hC hne;have HC:=hid hC;have e0:=aC hC (p:=⟨w2.heap.size,0,none⟩) hbn (fun h=>h) f0;have e1:=aC hC (p:=⟨w2.heap.size,1,none⟩) hbn (fun h=>h) f1;have e2:=aC hC (p:=⟨w2.heap.size,2,none⟩) hbn (fun h=>h) f2;have e3:=aC hC (p:=⟨w2.heap.size,3,none⟩) hbn (fun h=>h) f3;have e4:=aC hC (p:=⟨w2.heap.size,4,none⟩) hbn (fun h=>h) f4;have r1:=aC hC (p:=⟨w.heap.size,1,none⟩) hb3 (fun h=>h) g1;clear hC g1 f0 f1 f2 f3 f4
   repeat (refine au (fun K hK=>?_);first | (refine bX rfl ?_;try go_simp;refine hK _ _ ?_;clear hK K) | (refine bR rfl rfl ?_;unfold aB;go_simp;refine hK _ _ ?_;clear hK K))
   have fb:=ZG nY k;rw[<-hbg]at fb;have fq:((fl:Int)/2^6)=((fl/64:Nat):Int):=by simp
   have hfm:fl/64<=3:=by omega
   have hfk:k*(fl/64)<=2*3:=Nat.mul_le_mul (by omega) hfm;have fw:IntKind.i64.wrap ((fl/64:Nat):Int)=((fl/64:Nat):Int):=IntWalk.i64_in _ (by omega);have fm:IntKind.i64.wrap ((k:Int)*IntKind.i64.wrap ((fl:Int)/64))=(mk:Int):=by rw[show((fl:Int)/64)=((fl/64:Nat):Int) by simp,fw,show(k:Int)*((fl/64:Nat):Int)=((k*(fl/64):Nat):Int) by simp, <-lC];exact IntWalk.i64_in _ (by omega)
   have fm2:IntKind.i64.wrap ((k:Int)*IntKind.i64.wrap ((fl:Int)/2^6))=(mk:Int):=fm;clear fq fw hbg lC;refine au (fun K hK=>?_);refine ck rfl rfl (aZ.rowOf 1 #[.slice xa0 xn0 xc0,.slice xa1 xn1 xc1,.slice xa2 xn2 xc2,.slice xa3 xn3 xc3,.bool (hZ (s.take 12)).nf.emp,.bool bg,.int .i64 mk] 124) rfl (fun W hW hN=>?_) (fun v hv=>?_)
   ·clear hW hK K hN
    refine Er 115 124 (.tmp 51) rfl Tryz.underlying115 hiP Vt Vu (by decide) (by decide) #[.slice xa0 xn0 xc0,.slice xa1 xn1 xc1,.slice xa2 xn2 xc2,.slice xa3 xn3 xc3,.bool (hZ (s.take 12)).nf.emp,.bool bg,.int .i64 mk] (by simp[Act.eval,fb,fm]) rfl ?_;exact⟨Move.ak ((Ext.refl _).alloc _).below,⟨_,rfl⟩,fun b hb=>by cases hb;exact ar.new _ _ _⟩
   obtain⟨bl,rfl⟩:=hv;go_simp;refine hK _ _ ?_;clear hK K;refine bG (fun W4 hW hH=>?_);have hM:=(HC.out W4).1 hW;have B4:Hid (ar W4 bl #[.slice xa0 xn0 xc0,.slice xa1 xn1 xc1,.slice xa2 xn2 xc2,.slice xa3 xn3 xc3,.bool (hZ (s.take 12)).nf.emp,.bool bg,.int .i64 mk] 124):=hid (hH _ (aw (show _=some _ from rfl:_[0]? =some _)) bl rfl);have E4:Hid (aa V3 W4):=hid hM.below;clear hM hW hH HC fb fm fm2 e0 e1 e2 e3 e4 r1;have X4:Hid (aa w W4):=hid (X3.out.trans (E4.out.mono X3.out.size));have V4:Hid (aa V W4):=hid (V3'.out.trans (E4.out.mono V3'.out.size));have P4:=hid (P3.out.below E4.out);have O4:=hid (O3.out.below E4.out);have ahU:V.heap.size<=W4.heap.size:=V4.out.size;clear P3 E4 O3 BN B3 X3 V3';obtain⟨cs,g1,g2⟩:=P4.out;rw[<-HM.out]at g1;have G1:=hid g1;have G2:=hid g2;clear g1 g2 P4
   go_wp2_with (at_builtin;refine wpList_append_own_at _ rfl (.tmp 37) (.tmp 52) 115 rfl V.heap.size 124 iP (.agg #[.slice none 0 0,.slice none 0 0,.slice none 0 0,.slice none 0 0,.bool false,.bool false,.int .i64 0]) 7 120 Tryz.underlying115 hiP Vt Vu ZI rfl (by decide) _ _ _ rfl G1.out ⟨bl,0,none⟩ 1 1 [.slice xa0 xn0 xc0,.slice xa1 xn1 xc1,.slice xa2 xn2 xc2,.slice xa3 xn3 xc3,.bool (hZ (s.take 12)).nf.emp,.bool bg,.int .i64 mk] rfl rfl (cK B4.out) (by
    intro u hu;simp only[List.mem_cons,List.not_mem_nil,or_false]at hu
    rcases hu with rfl | rfl | rfl | rfl | rfl | rfl | rfl<;>rfl) (by unfold maxLen;omega) (by omega) ahU ?_;intro v' w5 hown' hgrow hh hat;obtain⟨pa3,pc3,rfl⟩:=ownsRow_form hown';have Jg:=hid hown';have HG5:=hid hgrow;clear hown' hgrow hh hat)
   have P5:Hid (eB V.heap.size w5 (.slice pa3 (m+1) pc3) ((cI l fl).take k++ [ql fl k s])):=hid (eB.more (by rw[<-HM.out];exact G1.out) G2.out O4.out HG5.out (by rw[<-HM.out,HPT.out];exact Jg.out));have X5:Hid (aa V w5):=hid (V4.out.trans ((Below.refl _ _).grown HG5.out V4.out.size (fun c e=>(G1.out.lt c e).1)));clear Jg HG5;go_roundw;case rel=>
    refine⟨k+1,by omega,by go_num,?_,X5.out⟩;rw[CD HSK.out hk3];exact P5.out
   case measure=>simp[intOf];omega
  ·obtain rfl:k=N:=by omega
   have Ii:¬ ((k:Int)<k):=by omega
   have Av:Hid (eB V.heap.size wo _ (cI l fl)):=hid (by
    have h5:=HI.out;rw[List.take_of_length_le (by rw[uw];have:=HN.out;have:=oQ.out;omega)]at h5
    exact h5)
   clear HI;obtain⟨pa,pc,rfl⟩:=Av.out.form;go_wp2_with fail
   refine(CO.out wo _ HX.out Av.out.pts).mono ?_;rintro e w5 ⟨a0,c0,a1,c1,a2,c2,rfl,ho,hx⟩;have O5:=hid ho;have R5:=hid (RO.out.below hx RO.out.lt);have X5:=hid (HX.out.trans (hx.mono HX.out.size));have hsO:w.heap.size+1<wo.heap.size:=RO.out.lt;clear ho hx CO;go_upto_region 11 with fail
   refine ax ?_;intro V6 hV;obtain⟨db,Vs⟩:=ag w5.heap.size;have D6:Hid (ar V6 db #[.slice a0 n0 c0,.slice a1 n1 c1,.slice a2 n2 c2] 29):=hid (by rw[hV,Vs];exact ar.new w5 _ _);have qK:aa w5 V6:=by rw[hV];exact((Ext.refl _).alloc _).below
   have O6:=hid (O5.out.below qK);have R6:=hid (R5.out.below qK R5.out.lt);have X6:=hid (X5.out.trans (qK.mono X5.out.size));have hdr:w.heap.size+1<db:=by rw[Vs];exact R5.out.lt
   rw[<-Vs];have q0:V6.cell? ⟨db,0,none⟩=some (.slice a0 n0 c0):=D6.out.cell 0;have q1:V6.cell? ⟨db,1,none⟩=some (.slice a1 n1 c1):=D6.out.cell 1;have q2:V6.cell? ⟨db,2,none⟩=some (.slice a2 n2 c2):=D6.out.cell 2;clear hV qK O5 R5 X5 Vs;have JF:=D6.out.lt;have HF:Hid (∃ c,ar V6 (w.heap.size+1) c 29/\c.size=(#[.slice a0 n0 c0,.slice a1 n1 c1,.slice a2 n2 c2]:Array Value).size):=hid ⟨_,R6.out,rfl⟩;have qA:=SJ.out;have hn:ok=true->decide ((0:Int)<n1)=true:=fun e=>by
    rw[qA]at e;have:=j6.out (by simpa using e);exact decide_eq_true (by omega)
   have HN9:=hid hn;have adk:((code:Int)==0)=ok:=qA.symm;clear hn qA SJ;refine bB (fO (w.heap.size+1) 29 #[.slice a0 n0 c0,.slice a1 n1 c1,.slice a2 n2 c2]) (fO.drew _ _ _ _) (fun _ _ _ h k=>h.trans k) (by kernel_rfl) 10 [0,0,2,6,14,30,62,126,254,15,1023] (fun i=>i==9) (by kernel_rfl) (fun i=>if i=9 then aZ.wrote (w.heap.size+1) 29 #[.slice a0 n0 c0,.slice a1 n1 c1,.slice a2 n2 c2]else aZ.any _) ?_;intro C hC _;have HC:=hid hC;have k0:∀ W: {W//C W},W.1.cell? ⟨db,0,none⟩=some (.slice a0 n0 c0):=fun W=>(((hC W.1).1 W.2).keeps.cell (p:=⟨db,0,none⟩) ⟨JF,by show ¬db=_;omega⟩).trans q0
   have k1:∀ W: {W//C W},W.1.cell? ⟨db,1,none⟩=some (.slice a1 n1 c1):=fun W=>(((hC W.1).1 W.2).keeps.cell (p:=⟨db,1,none⟩) ⟨JF,by show ¬db=_;omega⟩).trans q1
   have k2:∀ W: {W//C W},W.1.cell? ⟨db,2,none⟩=some (.slice a2 n2 c2):=fun W=>(((hC W.1).1 W.2).keeps.cell (p:=⟨db,2,none⟩) ⟨JF,by show ¬db=_;omega⟩).trans q2
   clear hC q0 q1 q2;cases ok with
   | false=>
    repeat (refine au (fun K hK=>?_);first | (refine bX rfl ?_;try go_simp;refine hK _ _ ?_;clear hK K) | (refine bR rfl rfl ?_;unfold aB;go_simp;refine hK _ _ ?_;clear hK K))
    refine au (fun K hK=>?_);refine ck rfl rfl (aZ.wrote (w.heap.size+1) 29 #[.slice a0 n0 c0,.slice a1 n1 c1,.slice a2 n2 c2]) rfl (fun W hW hN=>?_) (fun v hv=>?_)
    ·have hM:=(HC.out W).1 hW
     obtain⟨c,hb,hcs⟩:=hM.old HF.out;obtain⟨x0,x1,x2,rfl⟩:∃ x0 x1 x2,c= #[x0,x1,x2]:=by
      have h4:c.toList.length=3:=by rw[Array.length_toList,hcs];rfl
      match hc:c.toList,h4 with
      | [x0,x1,x2],_=>exact⟨x0,x1,x2,by rw[<-Array.toArray_toList (xs:=c),hc]⟩
     have HB:=hid hb;obtain⟨⟨y0,y1,y2⟩,z0,z1,z2⟩:=hb.three;clear hW hN hK K hb hcs hM;go_simp;exact⟨fO.store ⟨(eE _ _ _ _ _).mono fun _ h=>h.2,fun h=>by cases h⟩ HB.out.qy,trivial,HB.out.qy⟩
    go_simp;refine hK _ _ ?_;clear hK K hv
    repeat (refine au (fun K hK=>?_);first | (refine bX rfl ?_;try go_simp;refine hK _ _ ?_;clear hK K) | (refine bR rfl rfl ?_;unfold aB;go_simp;refine hK _ _ ?_;clear hK K))
    refine bG (fun w9 hW hH=>?_);have hM:=(HC.out w9).1 hW;have H4:Hid (ar w9 (w.heap.size+1) #[.slice a0 n0 c0,.slice a1 n1 c1,.slice a2 n2 c2] 29):=hH _ (aW ..);have K9:Hid (ae (fun k=>k<V6.heap.size/\¬k=w.heap.size+1) V6 w9):=hid hM.keeps;clear hM hW hH HC HF k0 k1 k2;go_wp2;obtain⟨m0,m1,m2⟩:=bA.mO (H4.out:ar w9 (w.heap.size+1) #[.slice a0 n0 c0,.slice a1 n1 c1,.slice a2 n2 c2] 29);refine bodyPost_ret (v:=.tuple #[.agg #[.slice a0 n0 c0,.slice a1 n1 c1,.slice a2 n2 c2],.bool false]) (by simp[results,Tryz.results11,go_sem,m0,m1,m2]) rfl ⟨a0,c0,a1,c1,a2,c2,rfl,(O6.out.keeps K9.out fun x h1 h2=>⟨h2,by omega⟩).base (by omega),X6.out.trans (K9.out.mono fun x (hx:x<w.heap.size)=>⟨by have:=X6.out.size;omega,by omega⟩:ae (· <w.heap.size) V6 w9).below⟩
   | true=>
    have d1:=HN9.out rfl;have d2:0<n1:=by have:=of_decide_eq_true d1;omega
    repeat (refine au (fun K hK=>?_);first | (refine bX rfl ?_;try go_simp;refine hK _ _ ?_;clear hK K) | (refine bR rfl rfl ?_;unfold aB;go_simp;refine hK _ _ ?_;clear hK K))
    refine au (fun K hK=>?_);refine ck rfl rfl (aZ.wrote (w.heap.size+1) 29 #[.slice a0 n0 c0,.slice a1 n1 c1,.slice a2 n2 c2]) rfl (fun W hW hN=>?_) (fun v hv=>?_)
    ·have hM:=(HC.out W).1 hW
     obtain⟨c,hb,hcs⟩:=hM.old HF.out;obtain⟨x0,x1,x2,rfl⟩:∃ x0 x1 x2,c= #[x0,x1,x2]:=by
      have h4:c.toList.length=3:=by rw[Array.length_toList,hcs];rfl
      match hc:c.toList,h4 with
      | [x0,x1,x2],_=>exact⟨x0,x1,x2,by rw[<-Array.toArray_toList (xs:=c),hc]⟩
     have HB:=hid hb;obtain⟨⟨y0,y1,y2⟩,z0,z1,z2⟩:=hb.three;clear hW hN hK K hb hcs hM;go_simp;exact⟨fO.store ⟨(eE _ _ _ _ _).mono fun _ h=>h.2,fun h=>by cases h⟩ HB.out.qy,trivial,HB.out.qy⟩
    go_simp;refine hK _ _ ?_;clear hK K hv
    repeat (refine au (fun K hK=>?_);first | (refine bX rfl ?_;try go_simp;refine hK _ _ ?_;clear hK K) | (refine bR rfl rfl ?_;unfold aB;go_simp;refine hK _ _ ?_;clear hK K))
    refine bG (fun w9 hW hH=>?_);have hM:=(HC.out w9).1 hW;have H4:Hid (ar w9 (w.heap.size+1) #[.slice a0 n0 c0,.slice a1 n1 c1,.slice a2 n2 c2] 29):=hH _ (aW ..);have K9:Hid (ae (fun k=>k<V6.heap.size/\¬k=w.heap.size+1) V6 w9):=hid hM.keeps;clear hM hW hH HC HF k0 k1 k2;go_wp2;obtain⟨m0,m1,m2⟩:=bA.mO (H4.out:ar w9 (w.heap.size+1) #[.slice a0 n0 c0,.slice a1 n1 c1,.slice a2 n2 c2] 29);refine bodyPost_ret (v:=.tuple #[.agg #[.slice a0 n0 c0,.slice a1 n1 c1,.slice a2 n2 c2],.bool true]) (by simp[results,Tryz.results11,go_sem,m0,m1,m2]) rfl ⟨a0,c0,a1,c1,a2,c2,rfl,(O6.out.keeps K9.out fun x h1 h2=>⟨h2,by omega⟩).base (by omega),X6.out.trans (K9.out.mono fun x (hx:x<w.heap.size)=>⟨by have:=X6.out.size;omega,by omega⟩:ae (· <w.heap.size) V6 w9).below⟩
theorem yj (v:Value) (fl:Nat) (nY:fl<256) (l:List (List (Nat×Nat×Nat))) (iZ:l.length<=1000000000000000) {d:DF} {code:Int} (he:kP (cI l fl) 60=(d,code)) (mP:code=0->0<d.nx.length) {n0 n1 n2:Nat} (h0:n0=d.cl.length) (h1:n1=d.nx.length) (h2:n2=d.mr.length) (w:World) (h:uE w v l fl) (hT:∀ W,aa w W->nE W): ah 11 #[v] w (Dg n0 n1 n2 (code==0) d w):=by
 obtain⟨u,rfl,h⟩:=h;rcases h with⟨p,c,rfl,rfl⟩ | ⟨b,off,c,rfl,hb,hc,_,h⟩
 ·exact JE p c fl nY [] rfl he mP h0 h1 h2 w hT
 ·exact Gm b off c fl nY l he mP h0 h1 h2 w hb hc iZ h hT
end
end Go.Proofs.YtjgccapbphadjaaGreatDoor
