/- rx.nodes: the iterator over the nodes of a tree. -/
import Derived.Test.YtpcmhjbehdgdbaaGreatDoorOI08
set_option maxRecDepth 100000
set_option maxHeartbeats 16000000
open Go.Lib (hid)
namespace Go.Proofs.YtpcmhjbehdgdbaaGreatDoor
section
open Go Go.RowKit Go.Shelf Go.Maps
theorem Tryz.PF:(Tryz.prog.info? 140).map (fun i=>(i.zero,i.size,i.bytes))=some (some (.agg #[.int .u64 0,.int .u64 0,.int .u64 0,.int .u64 0,.int .u64 0,.int .u64 0,.int .u64 0]),7,56):=by kernel_rfl
def gq:Array Value:= #[.int .u64 0,.int .u64 0,.int .u64 0,.int .u64 0,.int .u64 0,.int .u64 0,.int .u64 0]
theorem GY:et [0]=gq.toList:=by
 have e:cE (bW (0:PB))=gq:=by unfold cE gq;simp only[Jg];rfl
 unfold et;rw[List.flatMap_cons,e];rfl
def McD (base n mb:Nat) (sv fv:Value) (S0 F0:List Value) (j:Nat) (W:World):Prop:=j∈ [5,9,13,16,19]->aq W mb #[sv,fv] 138/\(j=9->W.ownsRow base 37 4 sv n S0)/\(j=16->W.ownsRow base 140 7 fv n F0)
theorem McD.alloc {base n mb:Nat} {sv fv:Value} {S0 F0:List Value} {j:Nat} {W:World} (h:McD base n mb sv fv S0 F0 j W) (o:Obj):McD base n mb sv fv S0 F0 j (W.alloc o):=fun e=>⟨(h e).1.alloc _,fun e2=>((h e).2.1 e2).alloc _,fun e2=>((h e).2.2 e2).alloc _⟩
theorem GZ (base M:Nat) (F:Nat->Prop) (m:GM) (s:BS) (mn mx:Int) (a:Value) (X:Nat) (w:World) (h:fO base M F w m) (hX:w.cell? ⟨X,0,none⟩=some (.pointer (some ⟨M,0,none⟩))) (Ea:¬F X) (hm:m.cG.length=m.aL.length) (hn:m.aL.length<448): ag 122 #[.agg (aj 2 s mn mx a),.pointer (some ⟨X,0,none⟩)] w fun e w'=>e=.returned (.agg (az ⟨eQ m.aL.length,eQ m.aL.length,false⟩))/\(∃ F',fO base M F' w' ⟨m.aL++ [s],m.cG++ [0]⟩/\(∀ x,F x->F' x)/\∀ x,F' x->F x\/w.heap.size<=x)/\ae (fun x=>x<w.heap.size/\¬F x) w w':=by
 obtain⟨iS,YN,J9,Ka,Kb⟩:=info_parts Tryz.CZ;obtain⟨iB,Za,Kq,Kr,Ks⟩:=info_parts Tryz.PF;obtain⟨sv,fv,h1,h2,h3,h4,h5⟩:=h.row;rw[hm]at h4;obtain⟨n,ot⟩:=ah m.aL.length;rw[<-ot]at h2 h4 hn ⊢;obtain⟨sa,sc,rfl⟩:=ownsRow_form h2;obtain⟨fa,fc,rfl⟩:=ownsRow_form h4;have HM:=hid h;have B1:=hid h1;have O1:=hid h2;have P1:=hid h4;have S3:=hid h3;have S5:=hid h5;have nY:=hid ot;have Jb:=hid hm;have UN:M<w.heap.size:=h1.lt;have Lk:X<w.heap.size:=World.block_lt_of_cell? _ _ hX;have hXM:X≠M:=fun e=>Ea (by rw[e];exact h.fm)
 have rV:base<=w.heap.size:=Nat.le_of_lt (Nat.lt_of_le_of_lt (h.lt M h.fm).1 UN);have HX:=hid hX;have WW:=hid Ea;have c0:w.cell? ⟨M,0,none⟩=some (.slice sa n sc):=h1.cell 0;have c1:w.cell? ⟨M,1,none⟩=some (.slice fa n fc):=h1.cell 1;clear h h1 h2 h3 h4 h5 hm ot hX Ea;have hX:=HX.out;unfold aj;go_enter Tryz.func122,Tryz.ntmps122;go_upto_region 2 with fail
 refine ax ?_;intro V hV;have N0:Hid (aq V w.heap.size #[.int .u8 2,.int .u64 (wd s 0).toNat,.int .u64 (wd s 1).toNat,.int .u64 (wd s 2).toNat,.int .u64 (wd s 3).toNat,.int .i64 mn,.int .i64 mx,a] 40):=by rw[hV];exact hid (((aq.new _ _ _).alloc _).alloc _)
 have R0:Hid (aq V (w.heap.size+1) (zeroV false) 142):=by rw[hV];exact hid ((aq.at (aq.new _ _ _) (by simp)).alloc _)
 have Q0:Hid (aq V (w.heap.size+1+1) (zeroV false) 142):=by rw[hV];exact hid (aq.at (aq.new _ _ _) (by simp))
 have E0:Hid (Ext w V):=by rw[hV];exact hid ((((Ext.refl w).alloc _).alloc _).alloc _)
 have hsz:V.heap.size=w.heap.size+1+1+1:=by rw[hV];simp
 clear hV c0 c1 hX;have BV:=hid (B1.ext E0);have OV:=hid (ay O1 E0.below);have PV:=hid (ay P1 E0.below);have jV:=hid hsz;have Rs:Hid (V.cell? ⟨X,0,none⟩=some (.pointer (some ⟨M,0,none⟩))):=hid ((E0.keeps.cell (p:=⟨X,0,none⟩) Lk).trans HX);have c0:V.cell? ⟨M,0,none⟩=some (.slice sa n sc):=BV.cell 0;have c1:V.cell? ⟨M,1,none⟩=some (.slice fa n fc):=BV.cell 1;have hX:=Rs.out;clear hsz;go_upto_region 3 with fail
 refine RegQ.ck (qh (.slice fa n fc) V.heap.size base n M F (aN m.aL++(encS s).toList) (et m.cG++gq.toList) (encS s) gq) qh.drew (fun _ _ _ h k=>h.trans k) (by kernel_rfl) 20 [0,0,0,4,12,28,0,64,192,508,0,1024,3072,7168,0,16384,65532,131069,262141,524285,1048575,2097151,4194303] (fun i=>i==5 || i==8 || i==9 || i==13 || i==15 || i==16 || i==19 || i==22) (by kernel_rfl) (fun i=>if i=5 then aR.oB _ (.slice sa n sc)else if i=8 then qR.box _ _ _ _ _ _ _ _ _ _ else if i=9 then qR.aba _ _ _ _ _ _ _ _ _ _ (.slice sa n sc)else if i=13 then aR.oB _ (.slice fa n fc)else if i=15 then qR.aa9 _ _ _ _ _ _ _ _ _ _ else if i=16 then qR.abb _ _ _ _ _ _ _ _ _ _ else if i=19 then qR.Zj _ _ _ _ _ _ _ _ _ _ (.slice sa n sc)else aR.any _) (McD base n M (.slice sa n sc) (.slice fa n fc) (aN m.aL) (et m.cG)) (fun _ _ _=>⟨BV,fun _=>OV,fun _=>PV⟩) ?_;intro C hC hne;have HC:=hid hC;have hVw:w.heap.size<=V.heap.size:=by rw[jV.out];omega
 have hXv:X<V.heap.size:=by rw[jV.out];omega
 have fX:∀ W: {W//C W},W.1.cell? ⟨X,0,none⟩=some (.pointer (some ⟨M,0,none⟩)):=fun W=>(((hC W.1).1 W.2).keep.cell (p:=⟨X,0,none⟩) ⟨hXv,hXv,WW⟩).trans hX
 have hnV:¬F w.heap.size:=fun e=>by have:=(HM.lt _ e).2;omega
 have g1:∀ W: {W//C W},W.1.cell? ⟨w.heap.size,1,none⟩=some (.int .u64 (wd s 0).toNat):=fun W=>(((hC W.1).1 W.2).keep.cell (p:=⟨w.heap.size,1,none⟩) ⟨N0.lt,N0.lt,hnV⟩).trans (N0.cell 1)
 have g2:∀ W: {W//C W},W.1.cell? ⟨w.heap.size,2,none⟩=some (.int .u64 (wd s 1).toNat):=fun W=>(((hC W.1).1 W.2).keep.cell (p:=⟨w.heap.size,2,none⟩) ⟨N0.lt,N0.lt,hnV⟩).trans (N0.cell 2)
 have g3:∀ W: {W//C W},W.1.cell? ⟨w.heap.size,3,none⟩=some (.int .u64 (wd s 2).toNat):=fun W=>(((hC W.1).1 W.2).keep.cell (p:=⟨w.heap.size,3,none⟩) ⟨N0.lt,N0.lt,hnV⟩).trans (N0.cell 3)
 have g4:∀ W: {W//C W},W.1.cell? ⟨w.heap.size,4,none⟩=some (.int .u64 (wd s 3).toNat):=fun W=>(((hC W.1).1 W.2).keep.cell (p:=⟨w.heap.size,4,none⟩) ⟨N0.lt,N0.lt,hnV⟩).trans (N0.cell 4)
 clear hC c0 c1 hX
 repeat (refine RegQ.ak (fun K hK=>?_);first | (refine RegQ.cQ rfl ?_;try go_simp;refine hK _ _ ?_;clear hK K) | (refine RegQ.bV rfl rfl ?_;unfold aB;go_simp;refine hK _ _ ?_;clear hK K))
 refine RegQ.ak (fun K hK=>?_);refine RegQ.bS rfl rfl (aR.oB _ (.slice sa n sc)) rfl (fun W hW hD hN=>?_) (fun v hv=>?_)
 ·have hD:=(hD (by decide)).1.cell 0
  have hD:W.cell? ⟨M,0,none⟩=some (.slice sa n sc):=hD;clear hW hN hK K;go_simp;exact⟨⟨qh.below (Below.refl _ _),fun j=>by intros;assumption⟩,rfl,trivial⟩
 replace hv:v=_:=hv;subst hv;go_simp;refine hK _ _ ?_;clear hK K
 repeat (refine RegQ.ak (fun K hK=>?_);first | (refine RegQ.cQ rfl ?_;try go_simp;refine hK _ _ ?_;clear hK K) | (refine RegQ.bV rfl rfl ?_;unfold aB;go_simp;refine hK _ _ ?_;clear hK K))
 refine RegQ.ak (fun K hK=>?_);refine RegQ.bS rfl rfl (qR.box (.slice fa n fc) V.heap.size base n M F (aN m.aL++(encS s).toList) (et m.cG++gq.toList) (encS s) gq) rfl (fun W hW hD hN=>?_) (fun v hv=>?_)
 ·have hMz:=((HC W).1 hW).size
  clear hW hN hK K;go_simp;exact⟨⟨qh.below ((Ext.refl _).alloc _).below,fun j _ _ h=>h.alloc _⟩,⟨_,by omega,rfl⟩,fun b hb=>by cases hb;exact aq.new _ _ _⟩
 obtain⟨bx,xF,rfl⟩:=hv;go_simp;refine hK _ _ ?_;clear hK K;refine RegQ.ak (fun K hK=>?_);refine RegQ.bS rfl rfl (qR.aba (.slice fa n fc) V.heap.size base n M F (aN m.aL++(encS s).toList) (et m.cG++gq.toList) (encS s) gq (.slice sa n sc)) rfl (fun W hW hD hN=>?_) (fun v hv=>?_)
 ·have hMz:=((HC W).1 hW).size
  have rV:aq W bx (encS s) 37:=hN.at 0 rfl (by kernel_rfl) bx rfl;obtain⟨Fl,hDo,_⟩:=hD (by decide);have HBW:=hid rV;have PG:=hid Fl;have Ah:=hid (hDo rfl);clear hW hN hK K rV Fl hDo hD;refine lM (.tmp 16) (.tmp 19) 70 rfl base 37 iS _ 4 32 Tryz.underlying70 YN J9 Ka Kb rfl (by decide) (.slice sa n sc) n (aN m.aL) rfl Ah ⟨bx,0,none⟩ 1 1 (encS s).toList rfl (bQ HBW) rfl (by intro u hu;simp[encS]at hu;rcases hu with rfl | rfl | rfl | rfl<;>rfl) (by unfold maxLen;omega) (by omega) (by omega) (by decide) ?_;intro v' w2 ho hg kh;refine⟨⟨qh.apS Ah (fun x e=>⟨by rw[jV.out];have:=(O1.lt x e).2;omega,S3 x e⟩) PG ho hg (kh.imp (fun h=>h.1) id),fun j hj _ h e=>⟨(h e).1.grown hg (fun e2=>dp PG Ah (by decide) M e2.symm rfl),fun e2=>absurd e2 hj,fun e2=>((h e).2.2 e2).kept hg (ownBlock_ne (by decide) ((h e).2.2 e2) Ah)⟩⟩,ownsRow_form ho,ho,?_⟩;rcases kh with⟨_,h⟩ | ⟨g,cap,h1,h2,_⟩
  ·exact .inr fun x hx=>by rw[h]at hx;cases hx;omega
  ·exact .inl (by rw[h2,h1];rfl)
 obtain⟨s1,s2,rfl⟩:=hv;go_simp;refine hK _ _ ?_;clear hK K
 repeat (refine RegQ.ak (fun K hK=>?_);first | (refine RegQ.cQ rfl ?_;try go_simp;refine hK _ _ ?_;clear hK K) | (refine RegQ.bV rfl rfl ?_;unfold aB;go_simp;refine hK _ _ ?_;clear hK K))
 refine RegQ.ak (fun K hK=>?_);refine RegQ.bS rfl rfl (aR.oB _ (.slice fa n fc)) rfl (fun W hW hD hN=>?_) (fun v hv=>?_)
 ·have hD:=(hD (by decide)).1.cell 1
  have hD:W.cell? ⟨M,1,none⟩=some (.slice fa n fc):=hD;clear hW hN hK K;go_simp;exact⟨⟨qh.below (Below.refl _ _),fun j=>by intros;assumption⟩,rfl,trivial⟩
 replace hv:v=_:=hv;subst hv;go_simp;refine hK _ _ ?_;clear hK K
 repeat (refine RegQ.ak (fun K hK=>?_);first | (refine RegQ.cQ rfl ?_;try go_simp;refine hK _ _ ?_;clear hK K) | (refine RegQ.bV rfl rfl ?_;unfold aB;go_simp;refine hK _ _ ?_;clear hK K))
 refine RegQ.ak (fun K hK=>?_);refine RegQ.bS rfl rfl (qR.aa9 (.slice fa n fc) V.heap.size base n M F (aN m.aL++(encS s).toList) (et m.cG++gq.toList) (encS s) gq) rfl (fun W hW hD hN=>?_) (fun v hv=>?_)
 ·have hMz:=((HC W).1 hW).size
  clear hW hN hK K;go_simp;exact⟨⟨qh.below ((Ext.refl _).alloc _).below,fun j _ _ h=>h.alloc _⟩,⟨_,by omega,rfl⟩,fun b hb=>by cases hb;exact aq.new _ _ _⟩
 obtain⟨by_,al1,rfl⟩:=hv;go_simp;refine hK _ _ ?_;clear hK K;refine RegQ.ak (fun K hK=>?_);refine RegQ.bS rfl rfl (qR.abb (.slice fa n fc) V.heap.size base n M F (aN m.aL++(encS s).toList) (et m.cG++gq.toList) (encS s) gq) rfl (fun W hW hD hN=>?_) (fun v hv=>?_)
 ·have hMz:=((HC W).1 hW).size
  have rV:aq W by_ gq 140:=hN.at 0 rfl (by kernel_rfl) by_ rfl;obtain⟨Fl,_,hDo⟩:=hD (by decide);have HBW:=hid rV;have PG:=hid Fl;have Ah:=hid (hDo rfl);clear hW hN hK K rV Fl hDo hD;refine lM (.tmp 24) (.tmp 26) 136 rfl base 140 iB _ 7 56 Tryz.underlying136 Za Kq Kr Ks rfl (by decide) (.slice fa n fc) n (et m.cG) rfl Ah ⟨by_,0,none⟩ 1 1 gq.toList rfl (bQ HBW) rfl (by intro u hu;simp[gq]at hu;subst hu;rfl) (by unfold maxLen;omega) (by omega) (by omega) (by decide) ?_;intro v' w2 ho hg kh;refine⟨⟨qh.apF Ah (fun x e=>⟨by rw[jV.out];have:=(P1.lt x e).2;omega,S5 x e⟩) PG ho hg (kh.imp (fun h=>h.1) id),fun j hj _ h e=>⟨(h e).1.grown hg (fun e2=>dp PG Ah (by decide) M e2.symm rfl),fun e2=>((h e).2.1 e2).kept hg (ownBlock_ne (by decide) ((h e).2.1 e2) Ah),fun e2=>absurd e2 hj⟩⟩,ownsRow_form ho,ho,?_⟩;rcases kh with⟨_,h⟩ | ⟨g,cap,h1,h2,_⟩
  ·exact .inr fun x hx=>by rw[h]at hx;cases hx;omega
  ·exact .inl (by rw[h2,h1];rfl)
 obtain⟨f1,f2,rfl⟩:=hv;go_simp;refine hK _ _ ?_;clear hK K
 repeat (refine RegQ.ak (fun K hK=>?_);first | (refine RegQ.cQ rfl ?_;try go_simp;refine hK _ _ ?_;clear hK K) | (refine RegQ.bV rfl rfl ?_;unfold aB;go_simp;refine hK _ _ ?_;clear hK K))
 refine RegQ.ak (fun K hK=>?_);refine RegQ.bS rfl rfl (qR.Zj (.slice fa n fc) V.heap.size base n M F (aN m.aL++(encS s).toList) (et m.cG++gq.toList) (encS s) gq (.slice sa n sc)) rfl (fun W hW hD hN=>?_) (fun v hv=>?_)
 ·have hrow:W.ownsRow base 37 4 (.slice s1 (n+1) s2) (n+1) (aN m.aL++(encS s).toList)/\((Value.slice s1 (n+1) s2).ownBlock=(Value.slice sa n sc).ownBlock\/∀ x,(Value.slice s1 (n+1) s2).ownBlock=some x->V.heap.size<=x):=hN.at 3 rfl (by kernel_rfl)
  obtain⟨Fl,_⟩:=hD (by decide);have PG:=hid Fl;have gO:=hid hrow;have hc0:W.cell? ⟨M,0,none⟩=some (.slice sa n sc):=PG.cell 0;have hz0:=PG.frozen 0;have hFM:=HM.fm;clear hW hN hK K hrow Fl hD;go_simp;refine⟨⟨qh.store _ PG ⟨_,_,rfl⟩ hFM (by omega),fun j hj hb h e=>?_⟩,trivial,_,_,PG.set 0 _,?_,gO.2⟩
  ·exfalso
   simp at e;rcases e with rfl | rfl | rfl | rfl | rfl
   ·revert hb;decide
   ·revert hb;decide
   ·revert hb;decide
   ·revert hb;decide
   ·exact hj rfl
  ·exact au gO.1 ((ae.refl (· ≠M) W).setCell (p:=⟨M,0,none⟩) (fun h=>h rfl) _) fun x hx=>dp PG gO.1 (by decide) x hx
 go_simp;refine hK _ _ ?_;clear hK K;refine RegQ.cg (fun W hW hH=>?_);have jT:=(HC.out W).1 hW;obtain⟨ta,tc,hb1,hrow,kh⟩:∃ a c,aq W M #[.slice a (n+1) c,.slice fa n fc] 138/\W.ownsRow base 37 4 (.slice a (n+1) c) (n+1) (aN m.aL++(encS s).toList)/\((Value.slice a (n+1) c).ownBlock=(Value.slice sa n sc).ownBlock\/∀ x,(Value.slice a (n+1) c).ownBlock=some x->V.heap.size<=x):=hH _ (aA (show _=some _ from rfl:_[0]? =some _));have FW:Hid (W.ownsRow base 140 7 (.slice f1 (n+1) f2) (n+1) (et m.cG++gq.toList)/\((Value.slice f1 (n+1) f2).ownBlock=(Value.slice fa n fc).ownBlock\/∀ x,(Value.slice f1 (n+1) f2).ownBlock=some x->V.heap.size<=x)):=hid (hH _ (aA (show _=some _ from rfl:_[1]? =some _)));have BW:=hid hb1;have SW:=hid hrow;have SWo:=hid kh;have KV:=hid jT.keep;have hWs:V.heap.size<=W.heap.size:=jT.size;clear jT hW hH HC hne fX g1 g2 g3 g4 hb1 hrow kh;have k0:W.cell? ⟨M,0,none⟩=some (.slice ta (n+1) tc):=BW.cell 0;have k1:W.cell? ⟨M,1,none⟩=some (.slice fa n fc):=BW.cell 1;have z1:=BW.frozen 1;go_upto_region 4 with fail
 refine ax ?_;intro W2 hW2;have hk2:ae (· ≠M) W W2:=by rw[hW2];exact(ae.refl (· ≠M) W).setCell (p:=⟨M,1,none⟩) (fun h=>h rfl) _
 have BM:Hid (aq W2 M #[.slice ta (n+1) tc,.slice f1 (n+1) f2] 138):=hid (by rw[hW2];exact BW.set 1 _);have S2:=hid (au SW hk2 fun x hx=>dp BW SW (by decide) x hx);have F2:=hid (au FW.1 hk2 fun x hx=>dp BW FW.1 (by decide) x hx);have KA:Hid (ae (fun x=>x<V.heap.size/\¬F x) V W2):=hid ((KV.mono fun x hx=>⟨hx.1,hx.1,hx.2⟩).tr (hk2.mono fun x hx e=>hx.2 (by rw[e];exact HM.fm)));clear hW2 hk2 k0 k1 z1 BW SW KV;have nV:∀ k,w.heap.size<=k->¬F k:=fun k hk e=>by have:=(HM.lt k e).2;omega
 have hV2:w.heap.size+1+1<V.heap.size:=by rw[jV.out];omega
 have hV1:w.heap.size+1<V.heap.size:=by rw[jV.out];omega
 have R2:Hid (aq W2 (w.heap.size+1) (zeroV false) 142):=hid (R0.keeps KA ⟨hV1,nV _ (by omega)⟩);obtain⟨z,hz⟩:=ah (0:PB);have rO:=ir false;rw[<-hz]at rO;have Q2:Hid (aq W2 (w.heap.size+1+1) (az ⟨z,z,false⟩) 142):=hid (by rw[rO];exact Q0.keeps KA ⟨hV2,nV _ (by omega)⟩);have hzb:z ||| eQ n=eQ n:=by rw[hz];exact BitVec.zero_or
 have HZB:=hid hzb;have Je:=hid nV;clear hz rO hzb nV R0 Q0;go_wp2_with fail
 refine(zh (bW z) (w.heap.size+1+1) 0 n hn W2 (fW.fst Q2) (Q2.frozen _)).mono ?_;rintro e w3 ⟨⟨u,rfl⟩,hx⟩;have kk:ae (fun x=>x<W2.heap.size/\x≠w.heap.size+1+1) W2 w3:=(((ae.refl (· ≠w.heap.size+1+1) W2).setCell (p:=⟨w.heap.size+1+1,_,none⟩) (fun h=>h rfl) _).mono fun x hx=>hx.2).tr (hx.mono fun x hx=>hx.1);have hq:aq w3 (w.heap.size+1+1) (az ⟨z ||| eQ n,z,false⟩) 142:=by rw[<-PC z z false hn];exact(Q2.set _ _).keeps hx Q2.lt
 have KA2:Hid (ae (fun x=>x<w.heap.size/\¬F x) V W2):=hid (KA.mono fun x hx=>⟨by have:=hx.1;omega,hx.2⟩);have BM2:=BM;have hW2:V.heap.size<=W2.heap.size:=KA.size;have Q3:Hid (aq w3 (w.heap.size+1+1) (az ⟨z ||| eQ n,z,false⟩) 142):=hid hq;have R3:=hid (R2.keeps kk ⟨R2.lt,by omega⟩);have BM3:=hid (BM2.keeps kk ⟨BM2.lt,by omega⟩);have PH:∀ x,x=w.heap.size+1+1->∀ (v:Value),(v.ownBlock=(Value.slice sa n sc).ownBlock\/v.ownBlock=(Value.slice fa n fc).ownBlock\/∀ x,v.ownBlock=some x->V.heap.size<=x)->v.ownBlock≠some x:=fun x hx v hv e=>by
  rcases hv with h | h | h
  ·have:=(O1.lt x (by rw[<-h,e])).2;omega
  ·have:=(P1.lt x (by rw[<-h,e])).2;omega
  ·have:=h x e;omega
 have S3:=hid (au S2 kk fun x hx=>⟨(S2.lt x hx).2,fun e=>PH x e _ (SWo.elim .inl fun h=>.inr (.inr h)) hx⟩);have F3:=hid (au F2 kk fun x hx=>⟨(F2.lt x hx).2,fun e=>PH x e _ (FW.2.elim (fun h=>.inr (.inl h)) fun h=>.inr (.inr h)) hx⟩);have UQ:Hid (ae (fun x=>x<w.heap.size/\¬F x) V w3):=hid ((KA2).tr (kk.mono fun x hx=>⟨by have:=hx.1;omega,by have:=hx.1;omega⟩));clear hx kk PH hq;clear Q2 R2 BM2 BM S2 F2 KA2 KA;have hw3:V.heap.size<=w3.heap.size:=UQ.size;go_wp2_with fail
 refine(zh (bW z) (w.heap.size+1+1) 7 n hn w3 (fW.cS Q3) (Q3.frozen _)).mono ?_;rintro e w4 ⟨⟨u,rfl⟩,hx⟩;have kk:ae (fun x=>x<w3.heap.size/\x≠w.heap.size+1+1) w3 w4:=(((ae.refl (· ≠w.heap.size+1+1) w3).setCell (p:=⟨w.heap.size+1+1,_,none⟩) (fun h=>h rfl) _).mono fun x hx=>hx.2).tr (hx.mono fun x hx=>hx.1);have hq:aq w4 (w.heap.size+1+1) (az ⟨z ||| eQ n,z ||| eQ n,false⟩) 142:=by rw[<-PD (z ||| eQ n) z false hn];exact(Q3.set _ _).keeps hx Q3.lt
 have Q4:Hid (aq w4 (w.heap.size+1+1) (az ⟨z ||| eQ n,z ||| eQ n,false⟩) 142):=hid hq;have R4:=hid (R3.keeps kk ⟨R3.lt,by omega⟩);have BM4:=hid (BM3.keeps kk ⟨BM3.lt,by omega⟩);have PH:∀ x,x=w.heap.size+1+1->∀ (v:Value),(v.ownBlock=(Value.slice sa n sc).ownBlock\/v.ownBlock=(Value.slice fa n fc).ownBlock\/∀ x,v.ownBlock=some x->V.heap.size<=x)->v.ownBlock≠some x:=fun x hx v hv e=>by
  rcases hv with h | h | h
  ·have:=(O1.lt x (by rw[<-h,e])).2;omega
  ·have:=(P1.lt x (by rw[<-h,e])).2;omega
  ·have:=h x e;omega
 have S4:=hid (au S3 kk fun x hx=>⟨(S3.lt x hx).2,fun e=>PH x e _ (SWo.elim .inl fun h=>.inr (.inr h)) hx⟩);have F4:=hid (au F3 kk fun x hx=>⟨(F3.lt x hx).2,fun e=>PH x e _ (FW.2.elim (fun h=>.inr (.inl h)) fun h=>.inr (.inr h)) hx⟩);have KA4:Hid (ae (fun x=>x<w.heap.size/\¬F x) V w4):=hid ((UQ).tr (kk.mono fun x hx=>⟨by have:=hx.1;omega,by have:=hx.1;omega⟩));clear hx kk PH hq;clear Q3 R3 BM3 S3 F3 UQ;rw[HZB.out]at Q4;go_wp2_with (first | (refine aJ rfl 142 (.tmp 4) rfl (w.heap.size+1+1) rfl (az ⟨eQ n,eQ n,false⟩) _ Q4.range Tryz.underlying142 rfl (bD _) ?_) | (refine wpList_store_row rfl 142 (.tmp 3) (.tmp 38) rfl (w.heap.size+1) (az ⟨eQ n,eQ n,false⟩) rfl rfl 142 (zeroV false) R4 (bD _) rfl (eF _) ?_;refine Hid.out ?_));refine hid ?_;obtain⟨V3,cD⟩:=ah (w4.setRow (w.heap.size+1) (az ⟨eQ n,eQ n,false⟩));rw[<-cD];have R9:Hid (aq V3 (w.heap.size+1) (az ⟨eQ n,eQ n,false⟩) 142):=by rw[cD];exact hid R4.setRow
 have K9:ae (· ≠w.heap.size+1) w4 V3:=by rw[cD];exact bn _ _ _
 clear cD;go_wp2;obtain⟨m0,m1,m2,m3,m4,m5,m6,m7,m8,m9,m10,m11,m12,m13,m14⟩:=R9.part;dsimp only at m0 m1 m2 m3 m4 m5 m6 m7 m8 m9 m10 m11 m12 m13 m14;refine bodyPost_ret (v:=.agg (az ⟨eQ n,eQ n,false⟩)) (by simp[results,Tryz.results122,az,go_sem,m0,m1,m2,m3,m4,m5,m6,m7,m8,m9,m10,m11,m12,m13,m14]) rfl ⟨rfl,?_,?_⟩
 ·have PH:∀ x,x=w.heap.size+1->∀ (v:Value),(v.ownBlock=(Value.slice sa n sc).ownBlock\/v.ownBlock=(Value.slice fa n fc).ownBlock\/∀ x,v.ownBlock=some x->V.heap.size<=x)->v.ownBlock≠some x:=fun x hx v hv e=>by
   rcases hv with h | h | h
   ·have:=(O1.lt x (by rw[<-h,e])).2;omega
   ·have:=(P1.lt x (by rw[<-h,e])).2;omega
   ·have:=h x e;omega
  have S9:=au S4 K9 fun x hx e=>PH x e _ (SWo.elim .inl fun h=>.inr (.inr h)) hx
  have F9:=au F4 K9 fun x hx e=>PH x e _ (FW.2.elim (fun h=>.inr (.inl h)) fun h=>.inr (.inr h)) hx
  have B9:=BM4.keeps K9 (by omega);have hs:=K9.size;have UJ:=KA4.size;have es:aN (m.aL++ [s])=aN m.aL++(encS s).toList:=by rw[fy];simp[aN]
  have ef:et (m.cG++ [0])=et m.cG++gq.toList:=by rw[AG,GY]
  have ls:(m.aL++ [s]).length=n+1:=by rw[aQ, <-nY.out];rfl
  have lf:(m.cG++ [(0:PB)]).length=n+1:=by rw[aQ,Jb.out, <-nY.out];rfl
  refine⟨fun x=>F x\/(Value.slice ta (n+1) tc).ownBlock=some x\/(Value.slice f1 (n+1) f2).ownBlock=some x,⟨.inl HM.fm,fun x hx=>?_,_,_,B9,?_,fun x hx=>.inr (.inl hx),?_,fun x hx=>.inr (.inr hx)⟩,fun x hx=>.inl hx,fun x hx=>?_⟩
  ·rcases hx with h | h | h
   ·have:=HM.lt x h;exact⟨this.1,by omega⟩
   ·exact S9.lt x h
   ·exact F9.lt x h
  ·rw[ls,es];exact S9
  ·rw[lf,ef];exact F9
  ·rcases hx with h | h | h
   ·exact .inl h
   ·rcases SWo.out with h2 | h2
    ·exact .inl (S3 x (by rw[<-h2];exact h))
    ·exact .inr (by have:=h2 x h;omega)
   ·rcases FW.2 with h2 | h2
    ·exact .inl (S5 x (by rw[<-h2];exact h))
    ·exact .inr (by have:=h2 x h;omega)
 ·exact((E0.keeps.mono fun x hx=>hx.1).tr KA4).tr (K9.mono fun x hx=>by have:=hx.1;omega)
def jI (base M:Nat) (F:Nat->Prop) (w:World) (m:GM) (p:GP) (e:Ending) (w':World):Prop:=
 e=.returned (.agg (az p))/\(∃ F',fO base M F' w' m/\(∀ x,F x->F' x)/\∀ x,F' x->F x\/w.heap.size<=x)/\ae (fun x=>x<w.heap.size/\¬F x) w w'/\w.heap.size<w'.heap.size
def G6 (n0:Nat) (t:RX):Prop:=∀ (base M:Nat) (F:Nat->Prop) (m:GM) (w:World) (v:Value),n0<=base->fO base M F w m->aH (· <n0) w v t->m.ok->m.cG.length=m.aL.length->m.aL.length+t.cnt<=448->
 ag 63 #[.pointer (some ⟨M,0,none⟩),v] w (jI base M F w (t.dB m).1 (t.dB m).2)
theorem Tl (n0 base M:Nat) (F:Nat->Prop) (m:GM) (k:Nat) (s:BS) (mn mx:Int) (t:RX) (l:List RX) (p:Option Addr) (n c:Nat) (X:Nat) (w:World) (eZ:n0<=base) (h:fO base M F w m) (hr:aH (· <n0) w (.agg (aj k s mn mx (.slice p n c))) (.nd k s mn mx (t::l))) (ht:G6 n0 t) (hX:w.cell? ⟨X,0,none⟩=some (.pointer (some ⟨M,0,none⟩))) (Ea:¬F X) (ok:m.ok) (hm:m.cG.length=m.aL.length) (hn:m.aL.length+t.cnt<=448): ag 129 #[.agg (aj k s mn mx (.slice p n c)),.pointer (some ⟨X,0,none⟩)] w (jI base M F w (t.dB m).1 (t.dB m).2):=by
 obtain⟨b,off,p',c',rfl,hb,rV,jW,⟨e0,e1,e2,e3,e4,e5,e6,e7⟩,hrt⟩:=hr.elem (i:=0) (t:=t) rfl;have hlen:n=l.length+1:=by obtain⟨p2,c2,e⟩:=hr.form;simp[aj,RX.subs,RX.kind,RX.set,RX.mn,RX.mx]at e;exact e.2.1
 have pW:0<n:=by omega
 have HM:=hid h;have MK:=hid hrt;have HT:=hid ht;have mf:=hid ok;have Jb:=hid hm;have HX:=hid hX;have WW:=hid Ea;have Lk:X<w.heap.size:=World.block_lt_of_cell? _ _ hX;have UN:M<w.heap.size:=(h.lt M h.fm).2;simp only[Nat.zero_mul,Nat.add_zero]at e0 e1 e2 e3 e4 e5 e6 e7;have E:=hid (And.intro e0 (And.intro e1 (And.intro e2 (And.intro e3 (And.intro e4 (And.intro e5 (And.intro e6 e7)))))));clear h hr hrt ht ok hm hX Ea hlen e0 e1 e2 e3 e4 e5 e6 e7;obtain⟨m2,p2,tV⟩:∃ m2 p2,t.dB m=(m2,p2):=⟨_,_,rfl⟩;rw[tV];dsimp only;have HMP:=hid tV;clear tV;unfold aj;go_enter Tryz.func129,Tryz.ntmps129;go_upto_region 1 with fail
 refine ax ?_;intro V hV;have N0:Hid (aq V w.heap.size #[.int .u8 k,.int .u64 (wd s 0).toNat,.int .u64 (wd s 1).toNat,.int .u64 (wd s 2).toNat,.int .u64 (wd s 3).toNat,.int .i64 mn,.int .i64 mx,.slice (some ⟨b,off,none⟩) n c] 40):=by rw[hV];exact hid ((aq.new _ _ _).alloc _)
 have R0:Hid (aq V (w.heap.size+1) (zeroV false) 142):=by rw[hV];exact hid (aq.at (aq.new _ _ _) (by simp))
 have E0:Hid (Ext w V):=by rw[hV];exact hid (((Ext.refl w).alloc _).alloc _)
 have jV:Hid (V.heap.size=w.heap.size+1+1):=hid (by rw[hV];simp);clear hV;have Rs:V.cell? ⟨X,0,none⟩=some (.pointer (some ⟨M,0,none⟩)):=(E0.keeps.cell (p:=⟨X,0,none⟩) Lk).trans HX;have ec:∀ (o:Nat) (u:Value),w.cell? ⟨b,o,none⟩=some u->V.cell? ⟨b,o,none⟩=some u:=fun o u h=>(E0.keeps.cell (p:=⟨b,o,none⟩) rV).trans h
 obtain⟨e0,e1,e2,e3,e4,e5,e6,e7⟩:=E.out;replace e0:=ec _ _ e0;replace e1:=ec _ _ e1;replace e2:=ec _ _ e2;replace e3:=ec _ _ e3;replace e4:=ec _ _ e4;replace e5:=ec _ _ e5;replace e6:=ec _ _ e6;replace e7:=ec _ _ e7;have n7:V.cell? ⟨w.heap.size,7,none⟩=some (.slice (some ⟨b,off,none⟩) n c):=N0.cell 7;have UR:b<V.heap.size:=by rw[jV.out];omega
 have hXv:X<V.heap.size:=by rw[jV.out];omega
 clear ec E;refine aM false (fun _=>False) (by kernel_rfl) 5 [0,0,2,6,14,31,63] (fun i=>i==5 || i==6) (by kernel_rfl) (fun _=>aR.any _) ?_;intro C hC hne;have HC:=hid hC;have f0:=aF hC (p:=⟨b,off,none⟩) UR (fun h=>h) e0;have f1:=aF hC (p:=⟨b,off+1,none⟩) UR (fun h=>h) e1;have f2:=aF hC (p:=⟨b,off+2,none⟩) UR (fun h=>h) e2;have f3:=aF hC (p:=⟨b,off+3,none⟩) UR (fun h=>h) e3;have f4:=aF hC (p:=⟨b,off+4,none⟩) UR (fun h=>h) e4;have f5:=aF hC (p:=⟨b,off+5,none⟩) UR (fun h=>h) e5;have f6:=aF hC (p:=⟨b,off+6,none⟩) UR (fun h=>h) e6;have f7:=aF hC (p:=⟨b,off+7,none⟩) UR (fun h=>h) e7;have fX:=aF hC (p:=⟨X,0,none⟩) hXv (fun h=>h) Rs;have fN:=aF hC (p:=⟨w.heap.size,7,none⟩) N0.lt (fun h=>h) n7;clear hC e0 e1 e2 e3 e4 e5 e6 e7 Rs n7
 repeat (refine ak (fun K hK=>?_);first | (refine cQ rfl ?_;try go_simp;refine hK _ _ ?_;clear hK K) | (refine bV rfl rfl ?_;unfold aB;go_simp;refine hK _ _ ?_;clear hK K))
 refine cg (fun W hW hH=>?_);have jT:=(HC.out W).1 hW;have MW:Hid (fO base M F W m):=hid ((HM.keeps E0.keeps fun x hx=>(HM.lt x hx).2).keeps (ae.ai jT.below fun _ h=>h:ae (· <V.heap.size) V W) fun x hx=>by have:=(HM.lt x hx).2;rw[jV.out];omega);have IW:Hid (aH (· <n0) W (.agg (aj t.kind t.set t.mn t.mx (.slice p' t.subs.length c'))) t):=hid ((MK.keeps E0.keeps fun x hx=>by have:=(HM.lt _ HM.fm).1;omega).keeps (ae.ai jT.below fun _ h=>h:ae (· <V.heap.size) V W) fun x hx=>by have:=(HM.lt _ HM.fm).1;rw[jV.out];omega);have RW:=hid (R0.below jT.below R0.lt);have KW:Hid (ae (· <w.heap.size) w W):=hid (E0.keeps.tr (ae.ai jT.below fun x hx=>by rw[jV.out];omega:ae (· <w.heap.size) V W));have xo:w.heap.size+1+1<=W.heap.size:=by rw[<-jV.out];exact jT.below.size
 clear jT hW hH HC hne f0 f1 f2 f3 f4 f5 f6 f7 fX fN;have CM:Hid (ag 63 #[.pointer (some ⟨M,0,none⟩),.agg (aj t.kind t.set t.mn t.mx (.slice p' t.subs.length c'))] W (jI base M F W (t.dB m).1 (t.dB m).2)):=hid (HT.out base M F m W _ eZ MW IW mf Jb hn);rw[HMP.out]at CM;dsimp only at CM;clear MW IW R0;go_wp2_with fail
 refine CM.mono ?_;rintro e w3 ⟨rfl,hF',hx,hsz⟩;have nV:∀ k,w.heap.size<=k->¬F k:=fun k hk e=>by have:=(HM.lt k e).2;omega
 have R3:Hid (aq w3 (w.heap.size+1) (zeroV false) 142):=hid (RW.keeps hx ⟨by omega,nV _ (by omega)⟩);have PK:=hid hF';have HK:=hid hx;clear hx hF' CM;go_wp2_with (first | (refine wpList_store_row rfl 142 (.tmp 3) (.tmp 9) rfl (w.heap.size+1) (az p2) rfl rfl 142 (zeroV false) R3 (bD _) rfl (eF _) ?_;refine Hid.out ?_));refine hid ?_;obtain⟨V3,cD⟩:=ah (w3.setRow (w.heap.size+1) (az p2));rw[<-cD];have R9:Hid (aq V3 (w.heap.size+1) (az p2) 142):=by rw[cD];exact hid R3.setRow
 have K9:ae (· ≠w.heap.size+1) w3 V3:=by rw[cD];exact bn _ _ _
 clear cD;go_wp2;obtain⟨m0,m1,m2,m3,m4,m5,m6,m7,m8,m9,m10,m11,m12,m13,m14⟩:=R9.part;refine bodyPost_ret (v:=.agg (az p2)) (by simp[results,Tryz.results129,az,go_sem,m0,m1,m2,m3,m4,m5,m6,m7,m8,m9,m10,m11,m12,m13,m14]) rfl ⟨rfl,?_,?_,?_⟩
 ·obtain⟨F',h1,h2,h3⟩:=PK.out
  refine⟨F',⟨h1.fm,fun x hx=>⟨(h1.lt x hx).1,aw (h1.lt x hx).2 K9.size⟩,?_⟩,h2,fun x hx=>(h3 x hx).imp id fun h=>by omega⟩;exact(h1.keeps K9 fun x hx e=>by rcases h3 x hx with h | h;exact nV _ (by omega) h;omega).row
 ·exact(KW.mono fun x hx=>hx.1).tr ((HK.mono fun x hx=>⟨by have:=hx.1;omega,hx.2⟩).tr (K9.mono fun x hx=>by have:=hx.1;omega))
 ·have:=K9.size;omega
end
section
open Go Go.RowKit
theorem Eb:∀ (a b:List RX) (st:GM×GP),RX.fU (a++b) st=RX.fU b (RX.fU a st)
 | [],_,_=>by rw[List.nil_append,RX.fU]
 | t::a,b,st=>by rw[List.cons_append,RX.fU,RX.fU];exact Eb a b _
theorem Ec:∀ (a b:List RX) (st:GM×GP),RX.iK (a++b) st=RX.iK b (RX.iK a st)
 | [],_,_=>by rw[List.nil_append,RX.iK]
 | t::a,b,st=>by rw[List.cons_append,RX.iK,RX.iK];exact Ec a b _
theorem wq:∀ (a b:List RX),RX.gF (a++b)=RX.gF a+RX.gF b
 | [],_=>by rw[List.nil_append,RX.gF,Nat.zero_add]
 | t::a,b=>by rw[List.cons_append,RX.gF,RX.gF,wq a b,Nat.add_assoc]
theorem zl (l:List RX) (k:Nat):RX.gF (l.take k)<=RX.gF l:=by have h:=wq (l.take k) (l.drop k);rw[List.take_append_drop]at h;omega
theorem AK {α:Type} {l:List α} {k:Nat} {t:α} (h:l[k]? =some t):l.take (k+1)=l.take k++ [t]:=by rw[List.take_add_one,h];rfl
theorem zm {l:List RX} {k:Nat} {t:RX} (h:l[k]? =some t):RX.gF (l.take (k+1))=RX.gF (l.take k)+t.cnt:=by rw[AK h,wq,RX.gF,RX.gF,Nat.add_zero]
theorem Ll {l:List RX} {k:Nat} {t:RX} (h:l[k]? =some t) (st:GM×GP):RX.fU (l.take (k+1)) st=((t.dB (RX.fU (l.take k) st).1).1,⟨(RX.fU (l.take k) st).2.fst ||| (t.dB (RX.fU (l.take k) st).1).2.fst,(RX.fU (l.take k) st).2.cS ||| (t.dB (RX.fU (l.take k) st).1).2.cS,(RX.fU (l.take k) st).2.emp || (t.dB (RX.fU (l.take k) st).1).2.emp⟩):=by rw[AK h,Eb,RX.fU,RX.fU]
theorem Lm {l:List RX} {k:Nat} {t:RX} (h:l[k]? =some t) (st:GM×GP):RX.iK (l.take (k+1)) st=cK (t.dB (RX.iK (l.take k) st).1).1 (RX.iK (l.take k) st).2 (t.dB (RX.iK (l.take k) st).1).2:=by rw[AK h,Ec,RX.iK,RX.iK]
theorem PM {l:List RX} (hl:∀ t∈l,t.full=true) {m:GM} (hm:m.ok) (e:Bool) (k:Nat):iT m (RX.fU (l.take k) (m,⟨0,0,e⟩)) (RX.gF (l.take k)):=by have h:=AA (l.take k) (fun t ht m hm=>nt t (hl t (List.mem_of_mem_take ht)) m hm) m (m,⟨0,0,e⟩) 0 ⟨hm,rfl,⟨fun p hp=>by simp at hp,fun p hp=>by simp at hp⟩⟩;rw[Nat.zero_add]at h;exact h
theorem PN {l:List RX} (hl:∀ t∈l,t.full=true) {m:GM} (hm:m.ok) (e:Bool) (k:Nat):iT m (RX.iK (l.take k) (m,⟨0,0,e⟩)) (RX.gF (l.take k)):=by have h:=Az (l.take k) (fun t ht m hm=>nt t (hl t (List.mem_of_mem_take ht)) m hm) m (m,⟨0,0,e⟩) 0 ⟨hm,rfl,⟨fun p hp=>by simp at hp,fun p hp=>by simp at hp⟩⟩;rw[Nat.zero_add]at h;exact h
end
section
open Go Go.RowKit Go.Shelf Go.Maps
def Tm (base M:Nat) (F:Nat->Prop) (st:GM×GP) (O:Nat) (V W:World):Prop:=
 (∃ F',fO base M F' W st.1/\(∀ x,F x->F' x)/\∀ x,F' x->F x\/V.heap.size<=x)/\aq W O (az st.2) 142/\ae (fun x=>x<V.heap.size/\¬F x/\x≠O) V W
theorem PO (n0 base M:Nat) (F:Nat->Prop) (m:GM) (k:Nat) (s:BS) (mn mx:Int) (l:List RX) (p:Option Addr) (n c:Nat) (X:Nat) (w:World) (eZ:n0<=base) (h:fO base M F w m) (hr:aH (· <n0) w (.agg (aj k s mn mx (.slice p n c))) (.nd k s mn mx l)) (ht:∀ t∈l,G6 n0 t) (hf:∀ t∈l,t.full=true) (hX:w.cell? ⟨X,0,none⟩=some (.pointer (some ⟨M,0,none⟩))) (Ea:¬F X) (ok:m.ok) (hm:m.cG.length=m.aL.length) (hn:m.aL.length+RX.gF l<=448) (hL:l.length<=10000): ag 126 #[.agg (aj k s mn mx (.slice p n c)),.pointer (some ⟨X,0,none⟩)] w (jI base M F w (RX.fU l (m,⟨0,0,false⟩)).1 (RX.fU l (m,⟨0,0,false⟩)).2):=by
 have hlen:n=l.length:=by obtain⟨p2,c2,e⟩:=hr.form;simp[aj,RX.subs,RX.kind,RX.set,RX.mn,RX.mx]at e;exact e.2.1
 have hn9:n<=10000:=by omega
 have HM:=hid h;have HR:=hid hr;have HT:=hid ht;have Ru:=hid hf;have mf:=hid ok;have Jb:=hid hm;have HX:=hid hX;have WW:=hid Ea;have Zk:=hid hlen;have Lk:X<w.heap.size:=World.block_lt_of_cell? _ _ hX;have UN:M<w.heap.size:=(h.lt M h.fm).2;have rV:n0<=w.heap.size:=by have:=(h.lt M h.fm).1;omega
 obtain⟨st,hst⟩:=ah (RX.fU l (m,⟨0,0,false⟩));rw[<-hst];have HST:=hid hst;clear h hr ht hf ok hm hX Ea hlen hst;unfold aj;go_enter Tryz.func126,Tryz.ntmps126;go_upto_region 2 with fail
 refine ax ?_;intro V hV;have N0:Hid (aq V w.heap.size #[.int .u8 k,.int .u64 (wd s 0).toNat,.int .u64 (wd s 1).toNat,.int .u64 (wd s 2).toNat,.int .u64 (wd s 3).toNat,.int .i64 mn,.int .i64 mx,.slice p n c] 40):=by rw[hV];exact hid (((aq.new _ _ _).alloc _).alloc _)
 have R0:Hid (aq V (w.heap.size+1) (zeroV false) 142):=by rw[hV];exact hid ((aq.at (aq.new _ _ _) (by simp)).alloc _)
 have O0:Hid (aq V (w.heap.size+1+1) (zeroV false) 142):=by rw[hV];exact hid (aq.at (aq.new _ _ _) (by simp))
 have E0:Hid (Ext w V):=by rw[hV];exact hid ((((Ext.refl w).alloc _).alloc _).alloc _)
 have jV:Hid (V.heap.size=w.heap.size+1+1+1):=hid (by rw[hV];simp);clear hV;have n7:V.cell? ⟨w.heap.size,7,none⟩=some (.slice p n c):=N0.cell 7;have uH:w.heap.size+1+1<V.heap.size:=by rw[jV.out];omega
 have MV:Hid (fO base M F V m):=hid (HM.keeps E0.keeps fun x hx=>(HM.lt x hx).2);have Rs:V.cell? ⟨X,0,none⟩=some (.pointer (some ⟨M,0,none⟩)):=(E0.keeps.cell (p:=⟨X,0,none⟩) Lk).trans HX;have HXV:=hid Rs;clear Rs;go_wp2;clear n7;go_loopw [11] (fun iv W=>∃ k:Nat,k<=n/\iv=.int .i64 k/\Tm base M F (RX.fU (l.take k) (m,⟨0,0,false⟩)) (w.heap.size+1+1) V W) (fun iv _=>n-(intOf iv).toNat);case atStart=>
  refine⟨0,by omega,rfl,?_⟩;rw[List.take_zero,RX.fU];exact⟨⟨F,MV,fun _ h=>h,fun _ h=>.inl h⟩,by rw[ir];exact O0,ae.refl _ _⟩
 case round=>
  obtain⟨k,hk,rfl,hI⟩:=hrel;obtain⟨wo,rfl⟩:=ah (wr:World);have HI:=hid hI;clear hI;by_cases hlt:k<n
  ·have eT:(k:Int)<n:=by omega
   obtain⟨t,dT⟩:∃ t,l[k]? =some t:=⟨_,aC (by have:=Zk.out;omega)⟩;have wu:∀ x,x<n0->¬F x:=fun x hx e=>by have:=(HM.lt x e).1;omega
   obtain⟨b,off,p',c',rfl,hb,hbw2,jW,⟨e0,e1,e2,e3,e4,e5,e6,e7⟩,hrt⟩:=HR.elem dT;have jg:=hid dT;have KO:Hid (ae (fun x=>x<w.heap.size/\¬F x) w wo):=hid ((E0.keeps.mono fun x hx=>hx.1).tr (HI.2.2.mono fun x hx=>⟨by have:=hx.1;omega,hx.2,by have:=hx.1;omega⟩));have ec:∀ (o:Nat) (u:Value),w.cell? ⟨b,o,none⟩=some u->wo.cell? ⟨b,o,none⟩=some u:=fun o u h=>(KO.cell (p:=⟨b,o,none⟩) ⟨hbw2,wu b hb⟩).trans h
   replace e0:=ec _ _ e0;replace e1:=ec _ _ e1;replace e2:=ec _ _ e2;replace e3:=ec _ _ e3;replace e4:=ec _ _ e4;replace e5:=ec _ _ e5;replace e6:=ec _ _ e6;replace e7:=ec _ _ e7;have Rv:wo.cell? ⟨X,0,none⟩=some (.pointer (some ⟨M,0,none⟩)):=(KO.cell (p:=⟨X,0,none⟩) ⟨Lk,WW⟩).trans HX;have Ln:=hid Rv;have Ro:b<wo.heap.size:=World.block_lt_of_cell? _ _ e0;have MK:Hid (aH (· <n0) wo (.agg (aj t.kind t.set t.mn t.mx (.slice p' t.subs.length c'))) t):=hid (hrt.keeps KO fun x hx=>⟨by omega,wu x hx⟩);clear ec dT hrt wu Rv;go_upto_region 5 with fail
   refine ax ?_;intro W1 hW1;have N1:Hid (aq W1 wo.heap.size (aj t.kind t.set t.mn t.mx (.slice p' t.subs.length c')) 40):=by rw[hW1];exact hid (aq.new _ _ _)
   have E1:Hid (Ext wo W1):=by rw[hW1];exact hid ((Ext.refl wo).alloc _)
   clear hW1 e0 e1 e2 e3 e4 e5 e6 e7;have e0:W1.cell? ⟨wo.heap.size,0,none⟩=some (.int .u8 t.kind):=N1.cell 0;have e1:W1.cell? ⟨wo.heap.size,1,none⟩=some (.int .u64 (wd t.set 0).toNat):=N1.cell 1;have e2:W1.cell? ⟨wo.heap.size,2,none⟩=some (.int .u64 (wd t.set 1).toNat):=N1.cell 2;have e3:W1.cell? ⟨wo.heap.size,3,none⟩=some (.int .u64 (wd t.set 2).toNat):=N1.cell 3;have e4:W1.cell? ⟨wo.heap.size,4,none⟩=some (.int .u64 (wd t.set 3).toNat):=N1.cell 4;have e5:W1.cell? ⟨wo.heap.size,5,none⟩=some (.int .i64 t.mn):=N1.cell 5;have e6:W1.cell? ⟨wo.heap.size,6,none⟩=some (.int .i64 t.mx):=N1.cell 6;have e7:W1.cell? ⟨wo.heap.size,7,none⟩=some (.slice p' t.subs.length c'):=N1.cell 7;have Rv:W1.cell? ⟨X,0,none⟩=some (.pointer (some ⟨M,0,none⟩)):=(E1.keeps.cell (p:=⟨X,0,none⟩) (World.block_lt_of_cell? _ _ Ln)).trans Ln;obtain⟨⟨F',vw,Ed,hF2⟩,hO,Ee⟩:=HI.out;have bF:=PM Ru mf false k;have hcs:=zm jg;have SG:=zl l (k+1);have mq:=Ll jg (m,(⟨0,0,false⟩:GP));have CM:Hid (ag 63 #[.pointer (some ⟨M,0,none⟩),.agg (aj t.kind t.set t.mn t.mx (.slice p' t.subs.length c'))] W1 (jI base M F' W1 (t.dB (RX.fU (l.take k) (m,⟨0,0,false⟩)).1).1 (t.dB (RX.fU (l.take k) (m,⟨0,0,false⟩)).1).2)):=hid (HT.out t (aA jg) base M F' _ W1 _ eZ (vw.keeps E1.keeps fun x hx=>(vw.lt x hx).2) (MK.keeps E1.keeps fun x hx=>by have:=KO.size;omega) bF.ok bF.ok.len (by rw[bF.len];omega));clear bF hcs SG;obtain⟨sk,hsk⟩:=ah (RX.fU (l.take k) (m,(⟨0,0,false⟩:GP)));rw[<-hsk]at CM hO vw mq;obtain⟨m2,p2,tV⟩:∃ m2 p2,t.dB sk.1=(m2,p2):=⟨_,_,rfl⟩;rw[tV]at CM mq;dsimp only at CM mq;have Tn:=hid mq;have PQ:¬F' (w.heap.size+1+1):=fun e=>by rcases hF2 _ e with h | h;exact absurd (HM.lt _ h).2 (by omega);omega
   have O1:=hid (hO.ext E1);have UU:=hid Ed;have Ae:=hid hF2;have Lp:=hid Ee;have tF:=hid PQ;clear mq tV hsk hO vw Ed hF2 Ee PQ HI;go_wp2_with fail
   refine CM.mono ?_;rintro e w2 ⟨rfl,hF'',hx,hsz⟩;have O2:=hid (O1.keeps hx ⟨O1.lt,tF⟩);have afS:=hid hF'';have Tp:=hid hx;clear hF'' hx CM e0 e1 e2 e3 e4 e5 e6 e7 Rv;unfold az;go_upto_region 6 with fail
   refine ax ?_;intro W3 hW3;have X3:Hid (aq W3 w2.heap.size (az p2) 142):=by rw[hW3];exact hid (aq.new _ _ _)
   have E3:Hid (Ext w2 W3):=by rw[hW3];exact hid ((Ext.refl w2).alloc _)
   have O3:=hid (O2.ext E3);have hO2:w.heap.size+1+1<w2.heap.size:=O2.lt;clear hW3 O1 O2;obtain⟨a0,a1,a2,a3,a4,a5,a6,a7,a8,a9,jQ,jR,a12,jS,jb⟩:=X3.part;obtain⟨o0,o1,o2,o3,o4,o5,o6,o7,o8,o9,pY,pZ,qf,qg,pN⟩:=O3.part;obtain⟨z0,z1,z2,z3,z4,z5,z6,z7,z8,z9,z10,z11,z12,z13,z14⟩:=O3.ny
   try dsimp only at o0 o1 o2 o3 o4 o5 o6 o7 o8 o9 pY pZ qf qg pN
   go_wp2_with fail
   clear a0 a1 a2 a3 a4 a5 a6 a7 a8 a9 jQ jR a12 jS jb o0 o1 o2 o3 o4 o5 o6 o7 o8 o9 pY pZ qf qg pN z0 z1 z2 z3 z4 z5 z6 z7 z8 z9 z10 z11 z12 z13 z14;refine(jH (bW sk.2.fst) (bW p2.fst) (w.heap.size+1+1) 0 W3 (fW.fst O3) (fun i _=>O3.frozen _)).mono ?_;rintro e w4 ⟨⟨u,rfl⟩,hx⟩;have O4:Hid (aq w4 (w.heap.size+1+1) (az ⟨sk.2.fst ||| p2.fst,sk.2.cS,sk.2.emp⟩) 142):=hid ((pH O3 (sk.2.fst ||| p2.fst) (fun i _=>(vU sk.2.fst p2.fst i).symm)).keeps hx O3.lt);have K4:Hid (ae (fun x=>x<W3.heap.size/\x≠w.heap.size+1+1) W3 w4):=hid (((cN _ _ _ _ _:ae (· ≠w.heap.size+1+1) W3 _).mono fun x hx=>hx.2).tr (hx.mono fun x hx=>hx.1));have X4:=hid (X3.keeps K4 ⟨X3.lt,by omega⟩);clear hx;obtain⟨a0,a1,a2,a3,a4,a5,a6,a7,a8,a9,jQ,jR,a12,jS,jb⟩:=X4.part;obtain⟨o0,o1,o2,o3,o4,o5,o6,o7,o8,o9,pY,pZ,qf,qg,pN⟩:=O4.part;obtain⟨z0,z1,z2,z3,z4,z5,z6,z7,z8,z9,z10,z11,z12,z13,z14⟩:=O4.ny
   try dsimp only at o0 o1 o2 o3 o4 o5 o6 o7 o8 o9 pY pZ qf qg pN
   go_wp2_with fail
   clear a0 a1 a2 a3 a4 a5 a6 a7 a8 a9 jQ jR a12 jS jb o0 o1 o2 o3 o4 o5 o6 o7 o8 o9 pY pZ qf qg pN z0 z1 z2 z3 z4 z5 z6 z7 z8 z9 z10 z11 z12 z13 z14;refine(jH (bW sk.2.cS) (bW p2.cS) (w.heap.size+1+1) 7 w4 (fW.cS (a:=⟨sk.2.fst ||| p2.fst,sk.2.cS,sk.2.emp⟩) O4) (fun i _=>O4.frozen _)).mono ?_;rintro e w5 ⟨⟨u,rfl⟩,hx⟩;have O5:Hid (aq w5 (w.heap.size+1+1) (az ⟨sk.2.fst ||| p2.fst,sk.2.cS ||| p2.cS,sk.2.emp⟩) 142):=hid ((pI O4 (sk.2.cS ||| p2.cS) (fun i _=>(vU sk.2.cS p2.cS i).symm)).keeps hx O4.lt);have K5:Hid (ae (fun x=>x<W3.heap.size/\x≠w.heap.size+1+1) W3 w5):=hid (K4.tr (((cN _ _ _ _ _:ae (· ≠w.heap.size+1+1) w4 _).mono fun x hx=>hx.2).tr (hx.mono fun x hx=>by have:=K4.size;exact aw hx.1 this)));have X5:=hid (X3.keeps K5 ⟨X3.lt,by omega⟩);clear hx;obtain⟨a0,a1,a2,a3,a4,a5,a6,a7,a8,a9,jQ,jR,a12,jS,jb⟩:=X5.part;obtain⟨o0,o1,o2,o3,o4,o5,o6,o7,o8,o9,pY,pZ,qf,qg,pN⟩:=O5.part;obtain⟨z0,z1,z2,z3,z4,z5,z6,z7,z8,z9,z10,z11,z12,z13,z14⟩:=O5.ny
   try dsimp only at o0 o1 o2 o3 o4 o5 o6 o7 o8 o9 pY pZ qf qg pN
   obtain⟨eb,G7⟩:=ah sk.2.emp;rw[<-G7]at pN;have WX:=hid G7;clear G7;cases eb;all_goals
    go_wp2;go_roundw;case rel=>
     refine⟨k+1,by omega,by go_num,?_⟩;rw[Tn.out];obtain⟨F'',g1,g2,g3⟩:=afS.out;have h1:=E1.keeps.size;have h2:=Lp.size;have h3:=E3.keeps.size;have K6:=K5.setCell (p:=⟨w.heap.size+1+1,14,none⟩) (fun h=>h.2 rfl) (.bool (sk.2.emp || p2.emp));have O6:=O5.set 14 (.bool (sk.2.emp || p2.emp));have afT:¬F'' (w.heap.size+1+1):=fun e=>by rcases g3 _ e with h | h;exact tF h;omega
     rw[<-WX.out]at K6 O6 ⊢;simp only[Bool.false_or,Bool.true_or]at K6 O6 ⊢;refine⟨⟨F'',(g1.keeps E3.keeps fun x hx=>(g1.lt x hx).2).keeps K6 fun x hx=>⟨by have:=(g1.lt x hx).2;omega,fun e=>afT (e▸hx)⟩,fun x h=>g2 x (UU x h),fun x h=>by rcases g3 x h with h | h;exact Ae x h;exact .inr (by omega)⟩,O6,?_⟩;exact Lp.tr ((E1.keeps.mono fun x hx=>by have:=hx.1;omega).tr ((Tp.mono fun x hx=>⟨by have:=hx.1;omega,fun e=>by rcases Ae.out x e with h | h;exact hx.2.1 h;have:=hx.1;omega⟩).tr ((E3.keeps.mono fun x hx=>by have:=hx.1;omega).tr (K6.mono fun x hx=>⟨by have:=hx.1;omega,hx.2.2⟩))))
    case measure=>simp[intOf];omega
  ·obtain rfl:k=n:=by omega
   have yQ:¬ ((k:Int)<k):=by omega
   obtain⟨hF',hO,hK⟩:=HI.out;rw[Zk.out,List.take_length, <-HST.out]at hF' hO;have PK:=hid hF';have O3:=hid hO;have HK:=hid hK;have R3:Hid (aq wo (w.heap.size+1) (zeroV false) 142):=hid (R0.keeps hK ⟨R0.lt,fun e=>by have:=(HM.lt _ e).2;omega,by omega⟩);clear hF' hO hK HI;go_wp2_with (first | (refine aJ rfl 142 (.tmp 4) rfl (w.heap.size+1+1) rfl (az st.2) _ O3.range Tryz.underlying142 rfl (bD _) ?_) | (refine wpList_store_row rfl 142 (.tmp 3) (.tmp 34) rfl (w.heap.size+1) (az st.2) rfl rfl 142 (zeroV false) R3 (bD _) rfl (eF _) ?_;refine Hid.out ?_));refine hid ?_;obtain⟨V3,cD⟩:=ah (wo.setRow (w.heap.size+1) (az st.2));rw[<-cD];have R9:Hid (aq V3 (w.heap.size+1) (az st.2) 142):=by rw[cD];exact hid R3.setRow
   have K9:ae (· ≠w.heap.size+1) wo V3:=by rw[cD];exact bn _ _ _
   clear cD;go_wp2;obtain⟨m0,m1,m2,m3,m4,m5,m6,m7,m8,m9,m10,m11,m12,m13,m14⟩:=R9.part;refine bodyPost_ret (v:=.agg (az st.2)) (by simp[results,Tryz.results126,az,go_sem,m0,m1,m2,m3,m4,m5,m6,m7,m8,m9,m10,m11,m12,m13,m14]) rfl ⟨rfl,?_,?_,?_⟩
   ·obtain⟨F',h1,h2,h3⟩:=PK.out
    exact⟨F',h1.keeps K9 fun x hx e=>by(rcases h3 x hx with h | h; · exact absurd (HM.lt x h).2 (by omega));omega,h2,fun x hx=>(h3 x hx).imp id fun h=>by omega⟩
   ·exact(E0.keeps.mono fun x hx=>hx.1).tr ((HK.mono fun x hx=>⟨by have:=hx.1;omega,hx.2,by have:=hx.1;omega⟩).tr (K9.mono fun x hx=>by have:=hx.1;omega))
   ·have:=K9.size;have:=HK.size;omega
structure Tq (base M n9:Nat) (F:Nat->Prop) (m2:GM) (A B:World):Prop where
 keep:ae (fun x=>x<n9/\¬F x) A B
 tE:n9<A.heap.size->∀ F2,fO base M F2 A m2->fO base M F2 B m2
theorem Tq.trans {base M n9:Nat} {F:Nat->Prop} {m2:GM} {A B C:World} (h:Tq base M n9 F m2 A B) (k:Tq base M n9 F m2 B C):Tq base M n9 F m2 A C:=
 ⟨h.keep.tr k.keep,fun hn F2 hF=>k.tE (aw hn h.keep.size) F2 (h.tE hn F2 hF)⟩
theorem Tq.ext {base M n9:Nat} {F:Nat->Prop} {m2:GM} {A B:World} (hn:n9<=A.heap.size) (h:Ext A B):Tq base M n9 F m2 A B:=
 ⟨h.mono fun _ hx=>aw hx.1 hn,fun _ _ hF=>hF.keeps h.keeps fun x hx=>(hF.lt x hx).2⟩
def wk.mk (base M n9:Nat) (F:Nat->Prop) (m2:GM) (p2:GP):aR (Tq base M n9 F m2) where
 P:=fun v=>v=.agg (az p2)
 H:=fun _ W=>n9<W.heap.size/\∃ F2,fO base M F2 W m2/\(∀ x,F x->F2 x)/\∀ x,F2 x->F x\/n9<=x
 mo:=.agg (az p2)
 pw:=rfl
 st:=fun _ _ _ hm _ ⟨hn,F2,h1,h2,h3⟩=>⟨aw hn hm.keep.size,F2,hm.tE hn F2 h1,h2,h3⟩
def afU (base M n9:Nat) (F:Nat->Prop) (m:GM) (j:Nat) (W:World):Prop:=j=4->W.heap.size=n9/\fO base M F W m
theorem PR (n0 base M:Nat) (F:Nat->Prop) (m:GM) (k:Nat) (s:BS) (mn mx:Int) (l:List RX) (p:Option Addr) (n c:Nat) (X:Nat) (w:World) (eZ:n0<=base) (h:fO base M F w m) (hr:aH (· <n0) w (.agg (aj k s mn mx (.slice p n c))) (.nd k s mn mx l)) (ht:∀ t∈l,G6 n0 t) (hf:∀ t∈l,t.full=true) (hX:w.cell? ⟨X,0,none⟩=some (.pointer (some ⟨M,0,none⟩))) (Ea:¬F X) (ok:m.ok) (hm:m.cG.length=m.aL.length) (hn:m.aL.length+RX.gF l<=448) (hL:l.length<=10000): ag 124 #[.agg (aj k s mn mx (.slice p n c)),.pointer (some ⟨X,0,none⟩)] w (jI base M F w (RX.iK l (m,⟨0,0,true⟩)).1 (RX.iK l (m,⟨0,0,true⟩)).2):=by
 have hlen:n=l.length:=by obtain⟨p2,c2,e⟩:=hr.form;simp[aj,RX.subs,RX.kind,RX.set,RX.mn,RX.mx]at e;exact e.2.1
 have hn9:n<=10000:=by omega
 have HM:=hid h;have HR:=hid hr;have HT:=hid ht;have Ru:=hid hf;have mf:=hid ok;have Jb:=hid hm;have HX:=hid hX;have WW:=hid Ea;have Zk:=hid hlen;have Lk:X<w.heap.size:=World.block_lt_of_cell? _ _ hX;have UN:M<w.heap.size:=(h.lt M h.fm).2;have rV:n0<=w.heap.size:=by have:=(h.lt M h.fm).1;omega
 obtain⟨st,hst⟩:=ah (RX.iK l (m,⟨0,0,true⟩));rw[<-hst];have HST:=hid hst;clear h hr ht hf ok hm hX Ea hlen hst;unfold aj;go_enter Tryz.func124,Tryz.ntmps124;go_upto_region 2 with fail
 refine ax ?_;intro V hV;have N0:Hid (aq V w.heap.size #[.int .u8 k,.int .u64 (wd s 0).toNat,.int .u64 (wd s 1).toNat,.int .u64 (wd s 2).toNat,.int .u64 (wd s 3).toNat,.int .i64 mn,.int .i64 mx,.slice p n c] 40):=by rw[hV];exact hid (((aq.new _ _ _).alloc _).alloc _)
 have R0:Hid (aq V (w.heap.size+1) (zeroV false) 142):=by rw[hV];exact hid ((aq.at (aq.new _ _ _) (by simp)).alloc _)
 have O0:Hid (aq V (w.heap.size+1+1) (zeroV true) 142):=by rw[hV];exact hid (aq.at (aq.new _ _ _) (by simp))
 have E0:Hid (Ext w V):=by rw[hV];exact hid ((((Ext.refl w).alloc _).alloc _).alloc _)
 have jV:Hid (V.heap.size=w.heap.size+1+1+1):=hid (by rw[hV];simp);clear hV;have n7:V.cell? ⟨w.heap.size,7,none⟩=some (.slice p n c):=N0.cell 7;have uH:w.heap.size+1+1<V.heap.size:=by rw[jV.out];omega
 have MV:Hid (fO base M F V m):=hid (HM.keeps E0.keeps fun x hx=>(HM.lt x hx).2);have Rs:V.cell? ⟨X,0,none⟩=some (.pointer (some ⟨M,0,none⟩)):=(E0.keeps.cell (p:=⟨X,0,none⟩) Lk).trans HX;have HXV:=hid Rs;clear Rs;go_wp2;clear n7;go_loopw [11] (fun iv W=>∃ k:Nat,k<=n/\iv=.int .i64 k/\Tm base M F (RX.iK (l.take k) (m,⟨0,0,true⟩)) (w.heap.size+1+1) V W) (fun iv _=>n-(intOf iv).toNat);case atStart=>
  refine⟨0,by omega,rfl,?_⟩;rw[List.take_zero,RX.iK];exact⟨⟨F,MV,fun _ h=>h,fun _ h=>.inl h⟩,by rw[ir];exact O0,ae.refl _ _⟩
 case round=>
  obtain⟨k,hk,rfl,hI⟩:=hrel;obtain⟨wo,rfl⟩:=ah (wr:World);have HI:=hid hI;clear hI;by_cases hlt:k<n
  ·have eT:(k:Int)<n:=by omega
   obtain⟨t,dT⟩:∃ t,l[k]? =some t:=⟨_,aC (by have:=Zk.out;omega)⟩;have wu:∀ x,x<n0->¬F x:=fun x hx e=>by have:=(HM.lt x e).1;omega
   obtain⟨b,off,p',c',rfl,hb,hbw2,jW,⟨e0,e1,e2,e3,e4,e5,e6,e7⟩,hrt⟩:=HR.elem dT;have jg:=hid dT;have KO:Hid (ae (fun x=>x<w.heap.size/\¬F x) w wo):=hid ((E0.keeps.mono fun x hx=>hx.1).tr (HI.2.2.mono fun x hx=>⟨by have:=hx.1;omega,hx.2,by have:=hx.1;omega⟩));have ec:∀ (o:Nat) (u:Value),w.cell? ⟨b,o,none⟩=some u->wo.cell? ⟨b,o,none⟩=some u:=fun o u h=>(KO.cell (p:=⟨b,o,none⟩) ⟨hbw2,wu b hb⟩).trans h
   replace e0:=ec _ _ e0;replace e1:=ec _ _ e1;replace e2:=ec _ _ e2;replace e3:=ec _ _ e3;replace e4:=ec _ _ e4;replace e5:=ec _ _ e5;replace e6:=ec _ _ e6;replace e7:=ec _ _ e7;have Rv:wo.cell? ⟨X,0,none⟩=some (.pointer (some ⟨M,0,none⟩)):=(KO.cell (p:=⟨X,0,none⟩) ⟨Lk,WW⟩).trans HX;have Ln:=hid Rv;have Ro:b<wo.heap.size:=World.block_lt_of_cell? _ _ e0;have MK:Hid (aH (· <n0) wo (.agg (aj t.kind t.set t.mn t.mx (.slice p' t.subs.length c'))) t):=hid (hrt.keeps KO fun x hx=>⟨by omega,wu x hx⟩);clear ec dT hrt wu Rv;go_upto_region 5 with fail
   refine ax ?_;intro W1 hW1;have N1:Hid (aq W1 wo.heap.size (aj t.kind t.set t.mn t.mx (.slice p' t.subs.length c')) 40):=by rw[hW1];exact hid (aq.new _ _ _)
   have E1:Hid (Ext wo W1):=by rw[hW1];exact hid ((Ext.refl wo).alloc _)
   clear hW1 e0 e1 e2 e3 e4 e5 e6 e7;have e0:W1.cell? ⟨wo.heap.size,0,none⟩=some (.int .u8 t.kind):=N1.cell 0;have e1:W1.cell? ⟨wo.heap.size,1,none⟩=some (.int .u64 (wd t.set 0).toNat):=N1.cell 1;have e2:W1.cell? ⟨wo.heap.size,2,none⟩=some (.int .u64 (wd t.set 1).toNat):=N1.cell 2;have e3:W1.cell? ⟨wo.heap.size,3,none⟩=some (.int .u64 (wd t.set 2).toNat):=N1.cell 3;have e4:W1.cell? ⟨wo.heap.size,4,none⟩=some (.int .u64 (wd t.set 3).toNat):=N1.cell 4;have e5:W1.cell? ⟨wo.heap.size,5,none⟩=some (.int .i64 t.mn):=N1.cell 5;have e6:W1.cell? ⟨wo.heap.size,6,none⟩=some (.int .i64 t.mx):=N1.cell 6;have e7:W1.cell? ⟨wo.heap.size,7,none⟩=some (.slice p' t.subs.length c'):=N1.cell 7;have Rv:W1.cell? ⟨X,0,none⟩=some (.pointer (some ⟨M,0,none⟩)):=(E1.keeps.cell (p:=⟨X,0,none⟩) (World.block_lt_of_cell? _ _ Ln)).trans Ln;obtain⟨⟨F',vw,Ed,hF2⟩,hO,Ee⟩:=HI.out;have bF:=PN Ru mf true k;have mW:=nt t (Ru t (aA jg)) _ bF.ok;have hcs:=zm jg;have SG:=zl l (k+1);have mq:=Lm jg (m,(⟨0,0,true⟩:GP));obtain⟨sk,hsk⟩:=ah (RX.iK (l.take k) (m,(⟨0,0,true⟩:GP)));rw[<-hsk]at hO vw mq bF mW;obtain⟨m2,p2,tV⟩:∃ m2 p2,t.dB sk.1=(m2,p2):=⟨_,_,rfl⟩;rw[tV]at mq mW;dsimp only at mq;have pU:=mW.len;have hl2:=bF.len;have Ef:=mW.ok.len;dsimp only at pU Ef;have BR:Hid (dC sk.2.cS m2.cG.length):=hid (bF.gp.cS.mono (by omega));have WY:Hid (m2.cG.length<=448):=hid (by omega);have CM:Hid (∀ W,fO base M F' W sk.1->aH (· <n0) W (.agg (aj t.kind t.set t.mn t.mx (.slice p' t.subs.length c'))) t->ag 63 #[.pointer (some ⟨M,0,none⟩),.agg (aj t.kind t.set t.mn t.mx (.slice p' t.subs.length c'))] W (jI base M F' W m2 p2)):=hid fun W h1 h2=>by
    have:=HT.out t (aA jg) base M F' sk.1 W _ eZ h1 h2 bF.ok bF.ok.len (by rw[bF.len];omega);rw[tV]at this;exact this
   have Tn:=hid mq;have PQ:¬F' (w.heap.size+1+1):=fun e=>by rcases hF2 _ e with h | h;exact absurd (HM.lt _ h).2 (by omega);omega
   have hnX:¬F' X:=fun e=>by rcases hF2 _ e with h | h;exact WW h;omega
   have O1:=hid (hO.ext E1);have M1:Hid (fO base M F' W1 sk.1):=hid (vw.keeps E1.keeps fun x hx=>(vw.lt x hx).2);have R1:Hid (aH (· <n0) W1 (.agg (aj t.kind t.set t.mn t.mx (.slice p' t.subs.length c'))) t):=hid (MK.keeps E1.keeps fun x hx=>by have:=KO.size;omega);have abg:∀ x,x<n0->¬F' x:=fun x hx e=>by have:=(vw.lt x e).1;omega
   have UW:¬F' wo.heap.size:=fun e=>by have:=(vw.lt _ e).2;omega
   have UU:=hid Ed;have Ae:=hid hF2;have Lp:=hid Ee;have tF:=hid PQ;have Je:=hid abg;have hX1:X<W1.heap.size:=by have:=KO.size;have:=E1.size;omega
   have al7:n0<=W1.heap.size:=by have:=KO.size;have:=E1.size;omega
   clear mq tV hsk hO vw Ed hF2 Ee PQ HI bF mW hcs SG pU hl2 Ef abg;refine RegQ.ck (Tq base M W1.heap.size F' m2) (Tq.ext (aD _) (Ext.refl _).drew) (fun _ _ _ h k=>h.trans k) (by kernel_rfl) 5 [0,0,0,0,12,31,63] (fun i=>i==4 || i==5 || i==6) (by kernel_rfl) (fun i=>if i=4 then wk.mk _ _ _ _ _ p2 else aR.any _) (afU base M W1.heap.size F' sk.1) (fun _ _ _=>⟨rfl,M1.keeps (Ext.refl _).drew.keeps fun x hx=>(M1.lt x hx).2⟩) ?_;intro C hC hne;have HC:=hid hC;have fc:∀ (b o:Nat) (u:Value),b<W1.heap.size->¬F' b->W1.cell? ⟨b,o,none⟩=some u->∀ W: {W//C W},W.1.cell? ⟨b,o,none⟩=some u:=fun b o u h1 h2 h3 W=>(((hC W.1).1 W.2).keep.cell (p:=⟨b,o,none⟩) ⟨h1,h2⟩).trans h3
   have fX:=fc _ _ _ hX1 hnX Rv;obtain⟨o0,o1,o2,o3,o4,o5,o6,o7,o8,o9,pY,pZ,qf,qg,pN⟩:=O1.part;have q0:=fc _ _ _ O1.lt tF o0;have q1:=fc _ _ _ O1.lt tF o1;have q2:=fc _ _ _ O1.lt tF o2;have q3:=fc _ _ _ O1.lt tF o3;have q4:=fc _ _ _ O1.lt tF o4;have q5:=fc _ _ _ O1.lt tF o5;have q6:=fc _ _ _ O1.lt tF o6;have q7:=fc _ _ _ O1.lt tF o7;have q8:=fc _ _ _ O1.lt tF o8;have q9:=fc _ _ _ O1.lt tF o9;have q10:=fc _ _ _ O1.lt tF pY;have q11:=fc _ _ _ O1.lt tF pZ;have q12:=fc _ _ _ O1.lt tF qf;have q13:=fc _ _ _ O1.lt tF qg;have q14:=fc _ _ _ O1.lt tF pN;have f0:=fc _ _ _ N1.lt UW e0;have f1:=fc _ _ _ N1.lt UW e1;have f2:=fc _ _ _ N1.lt UW e2;have f3:=fc _ _ _ N1.lt UW e3;have f4:=fc _ _ _ N1.lt UW e4;have f5:=fc _ _ _ N1.lt UW e5;have f6:=fc _ _ _ N1.lt UW e6;have f7:=fc _ _ _ N1.lt UW e7;clear hC fc e0 e1 e2 e3 e4 e5 e6 e7 Rv o0 o1 o2 o3 o4 o5 o6 o7 o8 o9 pY pZ qf qg pN
   repeat (refine RegQ.ak (fun K hK=>?_);first | (refine RegQ.cQ rfl ?_;try go_simp;refine hK _ _ ?_;clear hK K) | (refine RegQ.bV rfl rfl ?_;unfold aB;go_simp;refine hK _ _ ?_;clear hK K))
   refine RegQ.ak (fun K hK=>?_);refine RegQ.bS rfl rfl (wk.mk base M W1.heap.size F' m2 p2) rfl (fun W hW hD hN=>?_) (fun v hv=>?_)
   ·have hM:=(HC.out W).1 hW
    obtain⟨xo,hMW⟩:=hD rfl;clear hW hN hK K hD;go_simp;refine bu ((CM W hMW (R1.keeps hM.keep fun x hx=>⟨by omega,Je x hx⟩)).mono ?_);rintro e w2 ⟨rfl,hF'',hx,hsz⟩;rw[xo]at hF'' hx hsz;exact⟨_,rfl,⟨⟨hx,fun h=>by omega⟩,fun j hj _ _ e=>absurd e hj⟩,rfl,hsz,hF''⟩
   replace hv:v=_:=hv;subst hv;go_simp;refine hK _ _ ?_;clear hK K;refine RegQ.cg (fun W hW hH=>?_);have jT:=(HC.out W).1 hW;obtain⟨hsz,F2,g1,g2,g3⟩:W1.heap.size<W.heap.size/\∃ F2,fO base M F2 W m2/\(∀ x,F' x->F2 x)/\∀ x,F2 x->F' x\/W1.heap.size<=x:=hH _ (aA (show _=some _ from rfl:_[0]? =some _));have hO1:w.heap.size+1+1<W1.heap.size:=O1.lt;have sX:¬F2 (w.heap.size+1+1):=fun e=>by rcases g3 _ e with h | h;exact tF h;omega
   have O2:=hid (O1.keeps jT.keep ⟨O1.lt,tF⟩);have Tp:=hid jT.keep;have CT:Hid (ag 125 #[.pointer (some ⟨M,0,none⟩),.agg (az sk.2),.agg (az p2)] W fun e w'=>e=.returned (.agg (az (cK m2 sk.2 p2).2))/\fO base M F2 w' (cK m2 sk.2 p2).1/\ae (fun x=>x<W.heap.size/\¬F2 x) W w'):=hid (nX base M F2 m2 sk.2 p2 W g1 BR WY);obtain⟨m3,p3,WZ⟩:∃ m3 p3,cK m2 sk.2 p2=(m3,p3):=⟨_,_,rfl⟩;rw[WZ]at CT;dsimp only at CT;have mq:=Tn.out;rw[WZ]at mq;have afW:=hid mq;have G2:=hid g2;have G3:=hid g3;have tS:=hid sX;clear jT hW hH HC hne fX q0 q1 q2 q3 q4 q5 q6 q7 q8 q9 q10 q11 q12 q13 q14 f0 f1 f2 f3 f4 f5 f6 f7 g1 g2 g3 sX WZ mq Tn CM O1;go_wp2_with fail
   refine CT.mono ?_;rintro e w2 ⟨rfl,hF3,hx⟩;have O3:=hid (O2.keeps hx ⟨O2.lt,tS⟩);have M3:=hid hF3;have Xa:=hid hx;clear hx hF3 CT;go_wp2_with (first | (refine wpList_store_row rfl 142 (.tmp 4) (.tmp 20) rfl (w.heap.size+1+1) (az p3) rfl rfl 142 (_) O3 (bD _) rfl (eF _) ?_;refine Hid.out ?_));refine hid ?_;obtain⟨W4,ML⟩:=ah (w2.setRow (w.heap.size+1+1) (az p3));rw[<-ML];have O4:Hid (aq W4 (w.heap.size+1+1) (az p3) 142):=by rw[ML];exact hid O3.setRow
   have K4:Hid (ae (· ≠w.heap.size+1+1) w2 W4):=by rw[ML];exact hid (bn _ _ _)
   clear ML;go_wp2;go_roundw;case rel=>
    refine⟨k+1,by omega,by go_num,?_⟩;rw[afW.out];have h1:=E1.keeps.size;have h2:=Lp.size;have h3:=Tp.size;refine⟨⟨F2,M3.keeps K4 fun x hx e=>tS (e▸hx),fun x h=>G2 x (UU x h),fun x h=>by rcases G3.out x h with h | h;exact Ae x h;exact .inr (by omega)⟩,O4,?_⟩;exact Lp.tr ((E1.keeps.mono fun x hx=>by have:=hx.1;omega).tr ((Tp.mono fun x hx=>⟨by have:=hx.1;omega,fun e=>by rcases Ae.out x e with h | h;exact hx.2.1 h;have:=hx.1;omega⟩).tr ((Xa.mono fun x hx=>⟨by have:=hx.1;omega,fun e=>by rcases G3.out x e with h | h;rcases Ae.out x h with h | h;exact hx.2.1 h;have:=hx.1;omega;have:=hx.1;omega⟩).tr (K4.mono fun x hx=>hx.2.2))))
   case measure=>simp[intOf];omega
  ·obtain rfl:k=n:=by omega
   have yQ:¬ ((k:Int)<k):=by omega
   obtain⟨hF',hO,hK⟩:=HI.out;rw[Zk.out,List.take_length, <-HST.out]at hF' hO;have PK:=hid hF';have O3:=hid hO;have HK:=hid hK;have R3:Hid (aq wo (w.heap.size+1) (zeroV false) 142):=hid (R0.keeps hK ⟨R0.lt,fun e=>by have:=(HM.lt _ e).2;omega,by omega⟩);clear hF' hO hK HI;go_wp2_with (first | (refine aJ rfl 142 (.tmp 4) rfl (w.heap.size+1+1) rfl (az st.2) _ O3.range Tryz.underlying142 rfl (bD _) ?_) | (refine wpList_store_row rfl 142 (.tmp 3) (.tmp 22) rfl (w.heap.size+1) (az st.2) rfl rfl 142 (zeroV false) R3 (bD _) rfl (eF _) ?_;refine Hid.out ?_));refine hid ?_;obtain⟨V3,cD⟩:=ah (wo.setRow (w.heap.size+1) (az st.2));rw[<-cD];have R9:Hid (aq V3 (w.heap.size+1) (az st.2) 142):=by rw[cD];exact hid R3.setRow
   have K9:ae (· ≠w.heap.size+1) wo V3:=by rw[cD];exact bn _ _ _
   clear cD;go_wp2;obtain⟨m0,m1,m2,m3,m4,m5,m6,m7,m8,m9,m10,m11,m12,m13,m14⟩:=R9.part;refine bodyPost_ret (v:=.agg (az st.2)) (by simp[results,Tryz.results124,az,go_sem,m0,m1,m2,m3,m4,m5,m6,m7,m8,m9,m10,m11,m12,m13,m14]) rfl ⟨rfl,?_,?_,?_⟩
   ·obtain⟨F',h1,h2,h3⟩:=PK.out
    exact⟨F',h1.keeps K9 fun x hx e=>by(rcases h3 x hx with h | h; · exact absurd (HM.lt x h).2 (by omega));omega,h2,fun x hx=>(h3 x hx).imp id fun h=>by omega⟩
   ·exact(E0.keeps.mono fun x hx=>hx.1).tr ((HK.mono fun x hx=>⟨by have:=hx.1;omega,hx.2,by have:=hx.1;omega⟩).tr (K9.mono fun x hx=>by have:=hx.1;omega))
   ·have:=K9.size;have:=HK.size;omega
theorem Eg {t:RX} (ht:t.full=true) {m:GM} (hm:m.ok) (mn mx:Int) (k:Nat):iT m (ee mn mx (fun m=>t.dB m) m k) (k*t.cnt):=vN (fun m hm=>nt t ht m hm) hm k
theorem abh (n0 base M:Nat) (F:Nat->Prop) (m:GM) (k0:Nat) (s:BS) (mn:Int) (N:Nat) (t:RX) (l:List RX) (p:Option Addr) (n c:Nat) (w:World) (eZ:n0<=base) (h:fO base M F w m) (hr:aH (· <n0) w (.agg (aj k0 s mn (-1) (.slice p n c))) (.nd k0 s mn (-1) (t::l))) (ht:G6 n0 t) (hf:t.full=true) (ok:m.ok) (hm:m.cG.length=m.aL.length) (hN:max mn 1=(N:Int)) (afX:N<=16) (hG:fp mn (-1)=N) (hn:m.aL.length+N*t.cnt<=448): ag 128 #[.pointer (some ⟨M,0,none⟩),.agg (aj k0 s mn (-1) (.slice p n c))] w (jI base M F w (ee mn (-1) (fun m=>t.dB m) m N).1 (ee mn (-1) (fun m=>t.dB m) m N).2):=by
 have hlen:n=l.length+1:=by obtain⟨p2,c2,e⟩:=hr.form;simp[aj,RX.subs,RX.kind,RX.set,RX.mn,RX.mx]at e;exact e.2.1
 have pW:0<n:=by omega
 obtain⟨b,off,p',c',rfl,hb,rV,jW,⟨e0,e1,e2,e3,e4,e5,e6,e7⟩,hrt⟩:=hr.elem (i:=0) (t:=t) rfl;simp only[Nat.zero_mul,Nat.add_zero]at e0 e1 e2 e3 e4 e5 e6 e7;have HM:=hid h;have MK:=hid hrt;have HT:=hid ht;have Ru:=hid hf;have mf:=hid ok;have HGG:=hid hG;have Jb:=hid hm;have EE:=hid (And.intro e0 (And.intro e1 (And.intro e2 (And.intro e3 (And.intro e4 (And.intro e5 (And.intro e6 e7)))))));have UN:M<w.heap.size:=(h.lt M h.fm).2;have abi:n0<=w.heap.size:=by have:=(h.lt M h.fm).1;omega
 have wu:¬F b:=fun e=>by have:=(h.lt b e).1;omega
 obtain⟨st,hst⟩:=ah (ee mn (-1) (fun m=>t.dB m) m N);rw[<-hst];have HST:=hid hst;have HMU:=hid hn;clear h hr hrt ht hf ok hm hlen hst hG e0 e1 e2 e3 e4 e5 e6 e7 hn;unfold aj;go_enter Tryz.func128,Tryz.ntmps128;go_upto_region 5 with fail
 refine ax ?_;intro V hV;have N0:Hid (aq V w.heap.size #[.int .u8 k0,.int .u64 (wd s 0).toNat,.int .u64 (wd s 1).toNat,.int .u64 (wd s 2).toNat,.int .u64 (wd s 3).toNat,.int .i64 mn,.int .i64 (-1),.slice (some ⟨b,off,none⟩) n c] 40):=by rw[hV];exact hid (((aq.new _ _ _).alloc _).alloc _)
 have R0:Hid (aq V (w.heap.size+1) (zeroV false) 142):=by rw[hV];exact hid ((aq.at (aq.new _ _ _) (by simp)).alloc _)
 have O0:Hid (aq V (w.heap.size+1+1) (zeroV true) 142):=by rw[hV];exact hid (aq.at (aq.new _ _ _) (by simp))
 have E0:Hid (Ext w V):=by rw[hV];exact hid ((((Ext.refl w).alloc _).alloc _).alloc _)
 have jV:Hid (V.heap.size=w.heap.size+1+1+1):=hid (by rw[hV];simp);clear hV;have uH:w.heap.size+1+1<V.heap.size:=by rw[jV.out];omega
 have MV:Hid (fO base M F V m):=hid (HM.keeps E0.keeps fun x hx=>(HM.lt x hx).2);go_wp2;go_loopw [18] (fun iv W=>∃ k:Nat,k<=N/\iv=.int .i64 k/\Tm base M F (ee mn (-1) (fun m=>t.dB m) m k) (w.heap.size+1+1) V W) (fun iv _=>N-(intOf iv).toNat);case atStart=>
  refine⟨0,by omega,rfl,?_⟩;exact⟨⟨F,MV,fun _ h=>h,fun _ h=>.inl h⟩,by show aq _ _ (az ⟨0,0,true⟩) _;rw[ir];exact O0,ae.refl _ _⟩
 case round=>
  obtain⟨k,hk,rfl,hI⟩:=hrel;obtain⟨wo,rfl⟩:=ah (wr:World);have HI:=hid hI;clear hI;by_cases hlt:k<N
  ·have eT:(k:Int)<N:=by omega
   obtain⟨⟨F',vw,Ed,hF2⟩,hO,Ee⟩:=HI.out;have bF:=Eg Ru mf mn (-1) k;have mW:=nt t Ru _ bF.ok;have mq:ee mn (-1) (fun m=>t.dB m) m (k+1)=Ay mn (-1) k (ee mn (-1) (fun m=>t.dB m) m k).2 (t.dB (ee mn (-1) (fun m=>t.dB m) m k).1):=rfl;have hmul:(k+1)*t.cnt<=N*t.cnt:=Nat.mul_le_mul_right _ hlt;have PU:(k+1)*t.cnt=k*t.cnt+t.cnt:=Nat.succ_mul _ _;have hmu:=HMU.out;obtain⟨sk,hsk⟩:=ah (ee mn (-1) (fun m=>t.dB m) m k);rw[<-hsk]at hO vw mq bF mW;obtain⟨m2,p2,tV⟩:∃ m2 p2,t.dB sk.1=(m2,p2):=⟨_,_,rfl⟩;rw[tV]at mq mW;have pU:=mW.len;have hl2:=bF.len;have Ef:=mW.ok.len;have Xb:=mW.gp;dsimp only at pU Ef Xb;have BR:Hid (dC sk.2.cS m2.cG.length):=hid (bF.gp.cS.mono (by omega));have HP2:Hid (dC p2.cS m2.cG.length):=hid (Xb.cS.mono (by omega));have WY:Hid (m2.cG.length<=448):=hid (by omega);have CM:Hid (∀ W,fO base M F' W sk.1->aH (· <n0) W (.agg (aj t.kind t.set t.mn t.mx (.slice p' t.subs.length c'))) t->ag 63 #[.pointer (some ⟨M,0,none⟩),.agg (aj t.kind t.set t.mn t.mx (.slice p' t.subs.length c'))] W (jI base M F' W m2 p2)):=hid fun W h1 h2=>by
    have:=HT.out base M F' sk.1 W _ eZ h1 h2 bF.ok bF.ok.len (by omega);rw[tV]at this;exact this
   have Tn:=hid mq;have PQ:¬F' (w.heap.size+1+1):=fun e=>by rcases hF2 _ e with h | h;exact absurd (HM.lt _ h).2 (by omega);omega
   have hnN:¬F' w.heap.size:=fun e=>by rcases hF2 _ e with h | h;exact absurd (HM.lt _ h).2 (by omega);omega
   have KO:Hid (ae (fun x=>x<w.heap.size/\¬F x) w wo):=hid ((E0.keeps.mono fun x hx=>hx.1).tr (Ee.mono fun x hx=>⟨by have:=hx.1;omega,hx.2,by have:=hx.1;omega⟩));have YE:=Ee.size;have NO:Hid (aq wo w.heap.size #[.int .u8 k0,.int .u64 (wd s 0).toNat,.int .u64 (wd s 1).toNat,.int .u64 (wd s 2).toNat,.int .u64 (wd s 3).toNat,.int .i64 mn,.int .i64 (-1),.slice (some ⟨b,off,none⟩) n c] 40):=hid (N0.keeps Ee ⟨by omega,fun e=>by have:=(HM.lt _ e).2;omega,by omega⟩);have O1:=hid hO;have M1:=hid vw;have R1:Hid (aH (· <n0) wo (.agg (aj t.kind t.set t.mn t.mx (.slice p' t.subs.length c'))) t):=hid (MK.keeps KO fun x hx=>⟨by omega,fun e=>by have:=(HM.lt x e).1;omega⟩);have ec:∀ (o:Nat) (u:Value),w.cell? ⟨b,o,none⟩=some u->wo.cell? ⟨b,o,none⟩=some u:=fun o u h=>(KO.cell (p:=⟨b,o,none⟩) ⟨rV,wu⟩).trans h
   obtain⟨e0,e1,e2,e3,e4,e5,e6,e7⟩:=EE.out;replace e0:=ec _ _ e0;replace e1:=ec _ _ e1;replace e2:=ec _ _ e2;replace e3:=ec _ _ e3;replace e4:=ec _ _ e4;replace e5:=ec _ _ e5;replace e6:=ec _ _ e6;replace e7:=ec _ _ e7;have n5:wo.cell? ⟨w.heap.size,5,none⟩=some (.int .i64 mn):=NO.cell 5;have n6:wo.cell? ⟨w.heap.size,6,none⟩=some (.int .i64 (-1)):=NO.cell 6;have n7:wo.cell? ⟨w.heap.size,7,none⟩=some (.slice (some ⟨b,off,none⟩) n c):=NO.cell 7;have UU:=hid Ed;have Ae:=hid hF2;have Lp:=hid Ee;have tF:=hid PQ;have nY:=hid hnN;have IM:=hid (CM.out wo M1 R1);clear mq tV hsk hO vw Ed hF2 Ee PQ hnN HI bF mW pU hl2 Ef Xb hmul PU hmu ec CM M1 R1;go_wp2_with fail
   refine IM.mono ?_;rintro e w2 ⟨rfl,hF'',hx,hsz⟩;have hOl:w.heap.size+1+1<wo.heap.size:=O1.lt;have O2:=hid (O1.keeps hx ⟨O1.lt,tF⟩);have N2:=hid (NO.keeps hx ⟨NO.lt,nY⟩);obtain⟨F2,g1,g2,g3⟩:=hF'';have sX:¬F2 (w.heap.size+1+1):=fun e=>by rcases g3 _ e with h | h;exact tF h;omega
   have PW:¬F2 w.heap.size:=fun e=>by rcases g3 _ e with h | h;exact nY h;omega
   have M2:=hid g1;have G2:=hid g2;have G3:=hid g3;have tS:=hid sX;have abk:=hid PW;have Tp:=hid hx;have Xc:=hid hsz;clear hx g1 g2 g3 sX PW hsz IM O1 NO e0 e1 e2 e3 e4 e5 e6 e7 n5 n6 n7;unfold az;go_upto_region 9 with fail
   refine ax ?_;intro W3 hW3;have X3:Hid (aq W3 w2.heap.size (az p2) 142):=by rw[hW3];exact hid (aq.new _ _ _)
   have E3:Hid (Ext w2 W3):=by rw[hW3];exact hid ((Ext.refl w2).alloc _)
   have O3:=hid (O2.ext E3);have N3:=hid (N2.ext E3);have M3:Hid (fO base M F2 W3 m2):=hid (M2.keeps E3.keeps fun x hx=>(M2.lt x hx).2);have hx2:¬F2 w2.heap.size:=fun e=>by have:=(M2.lt _ e).2;omega
   have eW:=hid hx2;clear hW3 hx2 O2 N2;have n5:W3.cell? ⟨w.heap.size,5,none⟩=some (.int .i64 mn):=N3.cell 5;have n6:W3.cell? ⟨w.heap.size,6,none⟩=some (.int .i64 (-1)):=N3.cell 6;obtain⟨a0,a1,a2,a3,a4,a5,a6,a7,a8,a9,jQ,jR,a12,jS,jb⟩:=X3.part
   try dsimp only at a0 a1 a2 a3 a4 a5 a6 a7 a8 a9 jQ jR a12 jS jb
   by_cases abl:(k:Int)=N-1
   ·have hkN:k+1=fp mn (-1):=by rw[HGG.out];omega
    have HKN:=hid hkN;clear hkN;go_wp2_with fail
    refine(kU base M F2 m2 p2.cS p2.fst W3 M3 HP2 WY).mono ?_;rintro e w5 ⟨⟨u,rfl⟩,hF5,hx5⟩;obtain⟨m4,Cf⟩:=ah (iD m2 p2.cS p2.fst);rw[<-Cf]at hF5;have K5:=hid hx5;have M5:=hid hF5;have P5:Hid (dC sk.2.cS m4.cG.length/\m4.cG.length<=448):=hid (by rw[Cf];exact⟨by show dC _ (m2.cG.mapIdx _).length;rw[List.length_mapIdx];exact BR,by show(m2.cG.mapIdx _).length<=_;rw[List.length_mapIdx];exact WY⟩);have Xd:=hid Cf;have X5:=hid (X3.keeps hx5 ⟨X3.lt,eW⟩);have O5:=hid (O3.keeps hx5 ⟨O3.lt,tS⟩);have N5:=hid (N3.keeps hx5 ⟨N3.lt,abk⟩);clear hx5 hF5 Cf abl n5 n6 a0 a1 a2 a3 a4 a5 a6 a7 a8 a9 jQ jR a12 jS jb;have n5:w5.cell? ⟨w.heap.size,5,none⟩=some (.int .i64 mn):=N5.cell 5;obtain⟨a0,a1,a2,a3,a4,a5,a6,a7,a8,a9,jQ,jR,a12,jS,jb⟩:=X5.part
    try dsimp only at a0 a1 a2 a3 a4 a5 a6 a7 a8 a9 jQ jR a12 jS jb
    obtain⟨eb,G7⟩:=ah p2.emp;rw[<-G7]at jb;have WX:=hid G7;clear G7;have PX:w5.frozen? ⟨w2.heap.size,14,none⟩=false:=X5.frozen 14;cases eb;all_goals
     go_upto_region 12 with fail
     refine ax ?_;intro W6 uu;obtain⟨e6,PY⟩:=ah ((p2.emp || decide (mn<=(k:Int))));obtain⟨p6,PZ⟩:=ah (⟨p2.fst,p2.cS,e6⟩:GP);have X6:Hid (aq W6 w2.heap.size (az p6) 142):=by rw[PZ,uu,PY, <-WX.out];exact hid (X5.set 14 _)
     have K6:Hid (ae (· ≠w2.heap.size) w5 W6):=by rw[uu];exact hid ((ae.refl (· ≠w2.heap.size) _).setCell (p:=⟨w2.heap.size,14,none⟩) (fun h=>h rfl) _)
     have O6:=hid (O5.keeps K6 (by have:=O3.lt;have:=Xc.out;omega));have M6:Hid (fO base M F2 W6 m4):=hid (M5.keeps K6 fun x hx e=>eW (e▸hx))
     try clear n6
     clear uu n5 a0 a1 a2 a3 a4 a5 a6 a7 a8 a9 jQ jR a12 jS jb PX;have HE6:=hid PY;clear PY;have HP6:=hid PZ;clear PZ;have CT:Hid (ag 125 #[.pointer (some ⟨M,0,none⟩),.agg (az sk.2),.agg (az p6)] W6 fun e w'=>e=.returned (.agg (az (cK m4 sk.2 p6).2))/\fO base M F2 w' (cK m4 sk.2 p6).1/\ae (fun x=>x<W6.heap.size/\¬F2 x) W6 w'):=hid (nX base M F2 m4 sk.2 p6 W6 M6 P5.1 P5.2);have qo:ee mn (-1) (fun m=>t.dB m) m (k+1)=cK m4 sk.2 p6:=by
      rw[Tn.out,HP6.out,HE6.out];unfold Ay;rw[if_pos ⟨rfl,HKN.out⟩, <-Xd.out]
     have Eh:=hid qo;clear qo;obtain⟨m7,p7,Ei⟩:∃ m7 p7,cK m4 sk.2 p6=(m7,p7):=⟨_,_,rfl⟩;rw[Ei]at CT Eh;dsimp only at CT;clear Ei;go_wp2_with (first | (refine aJ rfl 142 (.tmp 6) rfl (w.heap.size+1+1) rfl (az sk.2) _ O6.range Tryz.underlying142 rfl (bD _) ?_) | (refine aJ rfl 142 (.tmp 8) rfl w2.heap.size rfl (az p6) _ X6.range Tryz.underlying142 rfl (bD _) ?_));refine CT.mono ?_;rintro e w8 ⟨rfl,hF3,hx⟩;have O8:=hid (O6.keeps hx ⟨O6.lt,tS⟩);have M8:=hid hF3;have Xa:=hid hx;clear hx hF3 CT;go_wp2_with (refine wpList_store_row rfl 142 (.tmp 6) (.tmp 54) rfl (w.heap.size+1+1) (az p7) rfl rfl 142 (az sk.2) O8 (bD _) rfl (eF _) ?_;refine Hid.out ?_);refine hid ?_;obtain⟨W9,eO⟩:=ah (w8.setRow (w.heap.size+1+1) (az p7));rw[<-eO];have O9:Hid (aq W9 (w.heap.size+1+1) (az p7) 142):=by rw[eO];exact hid O8.setRow
     have K9:Hid (ae (· ≠w.heap.size+1+1) w8 W9):=by rw[eO];exact hid (bn _ _ _)
     clear eO;go_wp2;go_roundw;case rel=>
      refine⟨k+1,by omega,by go_num,?_⟩;rw[Eh.out];have h1:=Lp.size;have h2:=Xc.out;have h3:=E3.size;have h4:=K6.size;have h5:=K5.size;refine⟨⟨F2,M8.keeps K9 fun x hx e=>tS (e▸hx),fun x h=>G2 x (UU x h),fun x h=>by rcases G3.out x h with h | h;exact Ae x h;exact .inr (by omega)⟩,O9,?_⟩;have hq:∀ x,x<V.heap.size->¬F x->¬F2 x:=fun x h h6 e=>by rcases G3.out x e with h7 | h7;(rcases Ae.out x h7 with h8 | h8;exact h6 h8;omega);omega
      have Mx:∀ x,x<V.heap.size->¬F x->¬F' x:=fun x h h6 e=>hq x h h6 (G2 x e)
      exact Lp.tr ((Tp.mono fun x hx=>⟨by have:=hx.1;omega,Mx x hx.1 hx.2.1⟩).tr ((E3.keeps.mono fun x hx=>by have:=hx.1;omega).tr ((K5.mono fun x hx=>⟨by have:=hx.1;omega,hq x hx.1 hx.2.1⟩).tr ((K6.mono fun x hx=>by have:=hx.1;omega).tr ((Xa.mono fun x hx=>⟨by have:=hx.1;omega,hq x hx.1 hx.2.1⟩).tr (K9.mono fun x hx=>hx.2.2))))))
     case measure=>simp[intOf];omega
   ·have hkN:¬ (k+1=fp mn (-1)):=by rw[HGG.out];omega
    have HKN:=hid hkN;clear hkN;obtain⟨m4,Cf⟩:=ah m2;obtain⟨W5,UX⟩:=ah W3;have K5:Hid (ae (fun x=>x<W3.heap.size/\¬F2 x) W3 W3):=hid (ae.refl _ _);have X5:=X3;have O5:=O3;have M5:Hid (fO base M F2 W3 m4):=hid (by rw[Cf];exact M3);have P5:Hid (dC sk.2.cS m4.cG.length/\m4.cG.length<=448):=hid (by rw[Cf];exact⟨BR,WY⟩);have Xd:=hid Cf;clear Cf W5 UX;obtain⟨eb,G7⟩:=ah p2.emp;rw[<-G7]at jb;have WX:=hid G7;clear G7;have PX:W3.frozen? ⟨w2.heap.size,14,none⟩=false:=X5.frozen 14;cases eb;all_goals
     go_upto_region 12 with fail
     refine ax ?_;intro W6 uu;obtain⟨e6,PY⟩:=ah ((p2.emp || decide (mn<=(k:Int))));obtain⟨p6,PZ⟩:=ah (⟨p2.fst,p2.cS,e6⟩:GP);have X6:Hid (aq W6 w2.heap.size (az p6) 142):=by rw[PZ,uu,PY, <-WX.out];exact hid (X5.set 14 _)
     have K6:Hid (ae (· ≠w2.heap.size) W3 W6):=by rw[uu];exact hid ((ae.refl (· ≠w2.heap.size) _).setCell (p:=⟨w2.heap.size,14,none⟩) (fun h=>h rfl) _)
     have O6:=hid (O5.keeps K6 (by have:=O3.lt;have:=Xc.out;omega));have M6:Hid (fO base M F2 W6 m4):=hid (M5.keeps K6 fun x hx e=>eW (e▸hx))
     try clear n6
     clear uu n5 a0 a1 a2 a3 a4 a5 a6 a7 a8 a9 jQ jR a12 jS jb PX;have HE6:=hid PY;clear PY;have HP6:=hid PZ;clear PZ;have CT:Hid (ag 125 #[.pointer (some ⟨M,0,none⟩),.agg (az sk.2),.agg (az p6)] W6 fun e w'=>e=.returned (.agg (az (cK m4 sk.2 p6).2))/\fO base M F2 w' (cK m4 sk.2 p6).1/\ae (fun x=>x<W6.heap.size/\¬F2 x) W6 w'):=hid (nX base M F2 m4 sk.2 p6 W6 M6 P5.1 P5.2);have qo:ee mn (-1) (fun m=>t.dB m) m (k+1)=cK m4 sk.2 p6:=by
      rw[Tn.out,HP6.out,HE6.out];unfold Ay;rw[if_neg (fun h=>HKN.out h.2), <-Xd.out]
     have Eh:=hid qo;clear qo;obtain⟨m7,p7,Ei⟩:∃ m7 p7,cK m4 sk.2 p6=(m7,p7):=⟨_,_,rfl⟩;rw[Ei]at CT Eh;dsimp only at CT;clear Ei;go_wp2_with (first | (refine aJ rfl 142 (.tmp 6) rfl (w.heap.size+1+1) rfl (az sk.2) _ O6.range Tryz.underlying142 rfl (bD _) ?_) | (refine aJ rfl 142 (.tmp 8) rfl w2.heap.size rfl (az p6) _ X6.range Tryz.underlying142 rfl (bD _) ?_));refine CT.mono ?_;rintro e w8 ⟨rfl,hF3,hx⟩;have O8:=hid (O6.keeps hx ⟨O6.lt,tS⟩);have M8:=hid hF3;have Xa:=hid hx;clear hx hF3 CT;go_wp2_with (refine wpList_store_row rfl 142 (.tmp 6) (.tmp 54) rfl (w.heap.size+1+1) (az p7) rfl rfl 142 (az sk.2) O8 (bD _) rfl (eF _) ?_;refine Hid.out ?_);refine hid ?_;obtain⟨W9,eO⟩:=ah (w8.setRow (w.heap.size+1+1) (az p7));rw[<-eO];have O9:Hid (aq W9 (w.heap.size+1+1) (az p7) 142):=by rw[eO];exact hid O8.setRow
     have K9:Hid (ae (· ≠w.heap.size+1+1) w8 W9):=by rw[eO];exact hid (bn _ _ _)
     clear eO;go_wp2;go_roundw;case rel=>
      refine⟨k+1,by omega,by go_num,?_⟩;rw[Eh.out];have h1:=Lp.size;have h2:=Xc.out;have h3:=E3.size;have h4:=K6.size;have h5:=K5.size;refine⟨⟨F2,M8.keeps K9 fun x hx e=>tS (e▸hx),fun x h=>G2 x (UU x h),fun x h=>by rcases G3.out x h with h | h;exact Ae x h;exact .inr (by omega)⟩,O9,?_⟩;have hq:∀ x,x<V.heap.size->¬F x->¬F2 x:=fun x h h6 e=>by rcases G3.out x e with h7 | h7;(rcases Ae.out x h7 with h8 | h8;exact h6 h8;omega);omega
      have Mx:∀ x,x<V.heap.size->¬F x->¬F' x:=fun x h h6 e=>hq x h h6 (G2 x e)
      exact Lp.tr ((Tp.mono fun x hx=>⟨by have:=hx.1;omega,Mx x hx.1 hx.2.1⟩).tr ((E3.keeps.mono fun x hx=>by have:=hx.1;omega).tr ((K5.mono fun x hx=>⟨by have:=hx.1;omega,hq x hx.1 hx.2.1⟩).tr ((K6.mono fun x hx=>by have:=hx.1;omega).tr ((Xa.mono fun x hx=>⟨by have:=hx.1;omega,hq x hx.1 hx.2.1⟩).tr (K9.mono fun x hx=>hx.2.2))))))
     case measure=>simp[intOf];omega
  ·obtain rfl:k=N:=by omega
   have yQ:¬ ((k:Int)<k):=by omega
   obtain⟨hF',hO,hK⟩:=HI.out;rw[<-HST.out]at hF' hO;have PK:=hid hF';have O3:=hid hO;have HK:=hid hK;have R3:Hid (aq wo (w.heap.size+1) (zeroV false) 142):=hid (R0.keeps hK ⟨R0.lt,fun e=>by have:=(HM.lt _ e).2;omega,by omega⟩);clear hF' hO hK HI;go_wp2_with (first | (refine aJ rfl 142 (.tmp 6) rfl (w.heap.size+1+1) rfl (az st.2) _ O3.range Tryz.underlying142 rfl (bD _) ?_) | (refine wpList_store_row rfl 142 (.tmp 4) (.tmp 56) rfl (w.heap.size+1) (az st.2) rfl rfl 142 (zeroV false) R3 (bD _) rfl (eF _) ?_;refine Hid.out ?_));refine hid ?_;obtain⟨V3,cD⟩:=ah (wo.setRow (w.heap.size+1) (az st.2));rw[<-cD];have R9:Hid (aq V3 (w.heap.size+1) (az st.2) 142):=by rw[cD];exact hid R3.setRow
   have K9:ae (· ≠w.heap.size+1) wo V3:=by rw[cD];exact bn _ _ _
   clear cD;go_wp2;obtain⟨m0,m1,m2,m3,m4,m5,m6,m7,m8,m9,m10,m11,m12,m13,m14⟩:=R9.part;refine bodyPost_ret (v:=.agg (az st.2)) (by simp[results,Tryz.results128,az,go_sem,m0,m1,m2,m3,m4,m5,m6,m7,m8,m9,m10,m11,m12,m13,m14]) rfl ⟨rfl,?_,?_,?_⟩
   ·obtain⟨F',h1,h2,h3⟩:=PK.out
    exact⟨F',h1.keeps K9 fun x hx e=>by(rcases h3 x hx with h | h; · exact absurd (HM.lt x h).2 (by omega));omega,h2,fun x hx=>(h3 x hx).imp id fun h=>by omega⟩
   ·exact(E0.keeps.mono fun x hx=>hx.1).tr ((HK.mono fun x hx=>⟨by have:=hx.1;omega,hx.2,by have:=hx.1;omega⟩).tr (K9.mono fun x hx=>by have:=hx.1;omega))
   ·have:=K9.size;have:=HK.size;omega
theorem abp (n0 base M:Nat) (F:Nat->Prop) (m:GM) (k0:Nat) (s:BS) (mn:Int) (N:Nat) (t:RX) (l:List RX) (p:Option Addr) (n c:Nat) (w:World) (eZ:n0<=base) (h:fO base M F w m) (hr:aH (· <n0) w (.agg (aj k0 s mn (N:Int) (.slice p n c))) (.nd k0 s mn (N:Int) (t::l))) (ht:G6 n0 t) (hf:t.full=true) (ok:m.ok) (hm:m.cG.length=m.aL.length) (hN:1<=N) (afX:N<=16) (hG:fp mn (N:Int)=N) (hn:m.aL.length+N*t.cnt<=448): ag 128 #[.pointer (some ⟨M,0,none⟩),.agg (aj k0 s mn (N:Int) (.slice p n c))] w (jI base M F w (ee mn (N:Int) (fun m=>t.dB m) m N).1 (ee mn (N:Int) (fun m=>t.dB m) m N).2):=by
 have hlen:n=l.length+1:=by obtain⟨p2,c2,e⟩:=hr.form;simp[aj,RX.subs,RX.kind,RX.set,RX.mn,RX.mx]at e;exact e.2.1
 have pW:0<n:=by omega
 obtain⟨b,off,p',c',rfl,hb,rV,jW,⟨e0,e1,e2,e3,e4,e5,e6,e7⟩,hrt⟩:=hr.elem (i:=0) (t:=t) rfl;simp only[Nat.zero_mul,Nat.add_zero]at e0 e1 e2 e3 e4 e5 e6 e7;have HM:=hid h;have MK:=hid hrt;have HT:=hid ht;have Ru:=hid hf;have mf:=hid ok;have HGG:=hid hG;have Jb:=hid hm;have EE:=hid (And.intro e0 (And.intro e1 (And.intro e2 (And.intro e3 (And.intro e4 (And.intro e5 (And.intro e6 e7)))))));have UN:M<w.heap.size:=(h.lt M h.fm).2;have abi:n0<=w.heap.size:=by have:=(h.lt M h.fm).1;omega
 have wu:¬F b:=fun e=>by have:=(h.lt b e).1;omega
 obtain⟨st,hst⟩:=ah (ee mn (N:Int) (fun m=>t.dB m) m N);rw[<-hst];have HST:=hid hst;have HMU:=hid hn;clear h hr hrt ht hf ok hm hlen hst hG e0 e1 e2 e3 e4 e5 e6 e7 hn;have hmx:¬ ((N:Int)= -1):=by omega
 have amf:((N:Int)== -1)=false:=by simp[hmx]
 unfold aj;go_enter Tryz.func128,Tryz.ntmps128;go_upto_region 5 with fail
 refine ax ?_;intro V hV;have N0:Hid (aq V w.heap.size #[.int .u8 k0,.int .u64 (wd s 0).toNat,.int .u64 (wd s 1).toNat,.int .u64 (wd s 2).toNat,.int .u64 (wd s 3).toNat,.int .i64 mn,.int .i64 (N:Int),.slice (some ⟨b,off,none⟩) n c] 40):=by rw[hV];exact hid (((aq.new _ _ _).alloc _).alloc _)
 have R0:Hid (aq V (w.heap.size+1) (zeroV false) 142):=by rw[hV];exact hid ((aq.at (aq.new _ _ _) (by simp)).alloc _)
 have O0:Hid (aq V (w.heap.size+1+1) (zeroV true) 142):=by rw[hV];exact hid (aq.at (aq.new _ _ _) (by simp))
 have E0:Hid (Ext w V):=by rw[hV];exact hid ((((Ext.refl w).alloc _).alloc _).alloc _)
 have jV:Hid (V.heap.size=w.heap.size+1+1+1):=hid (by rw[hV];simp);clear hV;have uH:w.heap.size+1+1<V.heap.size:=by rw[jV.out];omega
 have MV:Hid (fO base M F V m):=hid (HM.keeps E0.keeps fun x hx=>(HM.lt x hx).2);go_wp2;go_loopw [18] (fun iv W=>∃ k:Nat,k<=N/\iv=.int .i64 k/\Tm base M F (ee mn (N:Int) (fun m=>t.dB m) m k) (w.heap.size+1+1) V W) (fun iv _=>N-(intOf iv).toNat);case atStart=>
  refine⟨0,by omega,rfl,?_⟩;exact⟨⟨F,MV,fun _ h=>h,fun _ h=>.inl h⟩,by show aq _ _ (az ⟨0,0,true⟩) _;rw[ir];exact O0,ae.refl _ _⟩
 case round=>
  obtain⟨k,hk,rfl,hI⟩:=hrel;obtain⟨wo,rfl⟩:=ah (wr:World);have HI:=hid hI;clear hI;by_cases hlt:k<N
  ·have eT:(k:Int)<N:=by omega
   obtain⟨⟨F',vw,Ed,hF2⟩,hO,Ee⟩:=HI.out;have bF:=Eg Ru mf mn (N:Int) k;have mW:=nt t Ru _ bF.ok;have mq:ee mn (N:Int) (fun m=>t.dB m) m (k+1)=Ay mn (N:Int) k (ee mn (N:Int) (fun m=>t.dB m) m k).2 (t.dB (ee mn (N:Int) (fun m=>t.dB m) m k).1):=rfl;have hmul:(k+1)*t.cnt<=N*t.cnt:=Nat.mul_le_mul_right _ hlt;have PU:(k+1)*t.cnt=k*t.cnt+t.cnt:=Nat.succ_mul _ _;have hmu:=HMU.out;obtain⟨sk,hsk⟩:=ah (ee mn (N:Int) (fun m=>t.dB m) m k);rw[<-hsk]at hO vw mq bF mW;obtain⟨m2,p2,tV⟩:∃ m2 p2,t.dB sk.1=(m2,p2):=⟨_,_,rfl⟩;rw[tV]at mq mW;have pU:=mW.len;have hl2:=bF.len;have Ef:=mW.ok.len;have Xb:=mW.gp;dsimp only at pU Ef Xb;have BR:Hid (dC sk.2.cS m2.cG.length):=hid (bF.gp.cS.mono (by omega));have HP2:Hid (dC p2.cS m2.cG.length):=hid (Xb.cS.mono (by omega));have WY:Hid (m2.cG.length<=448):=hid (by omega);have CM:Hid (∀ W,fO base M F' W sk.1->aH (· <n0) W (.agg (aj t.kind t.set t.mn t.mx (.slice p' t.subs.length c'))) t->ag 63 #[.pointer (some ⟨M,0,none⟩),.agg (aj t.kind t.set t.mn t.mx (.slice p' t.subs.length c'))] W (jI base M F' W m2 p2)):=hid fun W h1 h2=>by
    have:=HT.out base M F' sk.1 W _ eZ h1 h2 bF.ok bF.ok.len (by omega);rw[tV]at this;exact this
   have Tn:=hid mq;have PQ:¬F' (w.heap.size+1+1):=fun e=>by rcases hF2 _ e with h | h;exact absurd (HM.lt _ h).2 (by omega);omega
   have hnN:¬F' w.heap.size:=fun e=>by rcases hF2 _ e with h | h;exact absurd (HM.lt _ h).2 (by omega);omega
   have KO:Hid (ae (fun x=>x<w.heap.size/\¬F x) w wo):=hid ((E0.keeps.mono fun x hx=>hx.1).tr (Ee.mono fun x hx=>⟨by have:=hx.1;omega,hx.2,by have:=hx.1;omega⟩));have YE:=Ee.size;have NO:Hid (aq wo w.heap.size #[.int .u8 k0,.int .u64 (wd s 0).toNat,.int .u64 (wd s 1).toNat,.int .u64 (wd s 2).toNat,.int .u64 (wd s 3).toNat,.int .i64 mn,.int .i64 (N:Int),.slice (some ⟨b,off,none⟩) n c] 40):=hid (N0.keeps Ee ⟨by omega,fun e=>by have:=(HM.lt _ e).2;omega,by omega⟩);have O1:=hid hO;have M1:=hid vw;have R1:Hid (aH (· <n0) wo (.agg (aj t.kind t.set t.mn t.mx (.slice p' t.subs.length c'))) t):=hid (MK.keeps KO fun x hx=>⟨by omega,fun e=>by have:=(HM.lt x e).1;omega⟩);have ec:∀ (o:Nat) (u:Value),w.cell? ⟨b,o,none⟩=some u->wo.cell? ⟨b,o,none⟩=some u:=fun o u h=>(KO.cell (p:=⟨b,o,none⟩) ⟨rV,wu⟩).trans h
   obtain⟨e0,e1,e2,e3,e4,e5,e6,e7⟩:=EE.out;replace e0:=ec _ _ e0;replace e1:=ec _ _ e1;replace e2:=ec _ _ e2;replace e3:=ec _ _ e3;replace e4:=ec _ _ e4;replace e5:=ec _ _ e5;replace e6:=ec _ _ e6;replace e7:=ec _ _ e7;have n5:wo.cell? ⟨w.heap.size,5,none⟩=some (.int .i64 mn):=NO.cell 5;have n6:wo.cell? ⟨w.heap.size,6,none⟩=some (.int .i64 (N:Int)):=NO.cell 6;have n7:wo.cell? ⟨w.heap.size,7,none⟩=some (.slice (some ⟨b,off,none⟩) n c):=NO.cell 7;have UU:=hid Ed;have Ae:=hid hF2;have Lp:=hid Ee;have tF:=hid PQ;have nY:=hid hnN;have IM:=hid (CM.out wo M1 R1);clear mq tV hsk hO vw Ed hF2 Ee PQ hnN HI bF mW pU hl2 Ef Xb hmul PU hmu ec CM M1 R1;go_wp2_with fail
   refine IM.mono ?_;rintro e w2 ⟨rfl,hF'',hx,hsz⟩;have hOl:w.heap.size+1+1<wo.heap.size:=O1.lt;have O2:=hid (O1.keeps hx ⟨O1.lt,tF⟩);have N2:=hid (NO.keeps hx ⟨NO.lt,nY⟩);obtain⟨F2,g1,g2,g3⟩:=hF'';have sX:¬F2 (w.heap.size+1+1):=fun e=>by rcases g3 _ e with h | h;exact tF h;omega
   have PW:¬F2 w.heap.size:=fun e=>by rcases g3 _ e with h | h;exact nY h;omega
   have M2:=hid g1;have G2:=hid g2;have G3:=hid g3;have tS:=hid sX;have abk:=hid PW;have Tp:=hid hx;have Xc:=hid hsz;clear hx g1 g2 g3 sX PW hsz IM O1 NO e0 e1 e2 e3 e4 e5 e6 e7 n5 n6 n7;unfold az;go_upto_region 9 with fail
   refine ax ?_;intro W3 hW3;have X3:Hid (aq W3 w2.heap.size (az p2) 142):=by rw[hW3];exact hid (aq.new _ _ _)
   have E3:Hid (Ext w2 W3):=by rw[hW3];exact hid ((Ext.refl w2).alloc _)
   have O3:=hid (O2.ext E3);have N3:=hid (N2.ext E3);have M3:Hid (fO base M F2 W3 m2):=hid (M2.keeps E3.keeps fun x hx=>(M2.lt x hx).2);have hx2:¬F2 w2.heap.size:=fun e=>by have:=(M2.lt _ e).2;omega
   have eW:=hid hx2;clear hW3 hx2 O2 N2;have n5:W3.cell? ⟨w.heap.size,5,none⟩=some (.int .i64 mn):=N3.cell 5;have n6:W3.cell? ⟨w.heap.size,6,none⟩=some (.int .i64 (N:Int)):=N3.cell 6;obtain⟨a0,a1,a2,a3,a4,a5,a6,a7,a8,a9,jQ,jR,a12,jS,jb⟩:=X3.part
   try dsimp only at a0 a1 a2 a3 a4 a5 a6 a7 a8 a9 jQ jR a12 jS jb
   obtain⟨m4,Cf⟩:=ah m2;obtain⟨W5,UX⟩:=ah W3;have K5:Hid (ae (fun x=>x<W3.heap.size/\¬F2 x) W3 W3):=hid (ae.refl _ _);have X5:=X3;have O5:=O3;have M5:Hid (fO base M F2 W3 m4):=hid (by rw[Cf];exact M3);have P5:Hid (dC sk.2.cS m4.cG.length/\m4.cG.length<=448):=hid (by rw[Cf];exact⟨BR,WY⟩);have Xd:=hid Cf;clear Cf W5 UX;obtain⟨eb,G7⟩:=ah p2.emp;rw[<-G7]at jb;have WX:=hid G7;clear G7;have PX:W3.frozen? ⟨w2.heap.size,14,none⟩=false:=X5.frozen 14;cases eb;all_goals
    go_upto_region 12 with fail
    refine ax ?_;intro W6 uu;obtain⟨e6,PY⟩:=ah ((p2.emp || decide (mn<=(k:Int))));obtain⟨p6,PZ⟩:=ah (⟨p2.fst,p2.cS,e6⟩:GP);have X6:Hid (aq W6 w2.heap.size (az p6) 142):=by rw[PZ,uu,PY, <-WX.out];exact hid (X5.set 14 _)
    have K6:Hid (ae (· ≠w2.heap.size) W3 W6):=by rw[uu];exact hid ((ae.refl (· ≠w2.heap.size) _).setCell (p:=⟨w2.heap.size,14,none⟩) (fun h=>h rfl) _)
    have O6:=hid (O5.keeps K6 (by have:=O3.lt;have:=Xc.out;omega));have M6:Hid (fO base M F2 W6 m4):=hid (M5.keeps K6 fun x hx e=>eW (e▸hx))
    try clear n6
    clear uu n5 a0 a1 a2 a3 a4 a5 a6 a7 a8 a9 jQ jR a12 jS jb PX;have HE6:=hid PY;clear PY;have HP6:=hid PZ;clear PZ;have CT:Hid (ag 125 #[.pointer (some ⟨M,0,none⟩),.agg (az sk.2),.agg (az p6)] W6 fun e w'=>e=.returned (.agg (az (cK m4 sk.2 p6).2))/\fO base M F2 w' (cK m4 sk.2 p6).1/\ae (fun x=>x<W6.heap.size/\¬F2 x) W6 w'):=hid (nX base M F2 m4 sk.2 p6 W6 M6 P5.1 P5.2);have qo:ee mn (N:Int) (fun m=>t.dB m) m (k+1)=cK m4 sk.2 p6:=by
     rw[Tn.out,HP6.out,HE6.out];unfold Ay;rw[if_neg (fun h=>hmx h.1), <-Xd.out]
    have Eh:=hid qo;clear qo;obtain⟨m7,p7,Ei⟩:∃ m7 p7,cK m4 sk.2 p6=(m7,p7):=⟨_,_,rfl⟩;rw[Ei]at CT Eh;dsimp only at CT;clear Ei;go_wp2_with (first | (refine aJ rfl 142 (.tmp 6) rfl (w.heap.size+1+1) rfl (az sk.2) _ O6.range Tryz.underlying142 rfl (bD _) ?_) | (refine aJ rfl 142 (.tmp 8) rfl w2.heap.size rfl (az p6) _ X6.range Tryz.underlying142 rfl (bD _) ?_));refine CT.mono ?_;rintro e w8 ⟨rfl,hF3,hx⟩;have O8:=hid (O6.keeps hx ⟨O6.lt,tS⟩);have M8:=hid hF3;have Xa:=hid hx;clear hx hF3 CT;go_wp2_with (refine wpList_store_row rfl 142 (.tmp 6) (.tmp 54) rfl (w.heap.size+1+1) (az p7) rfl rfl 142 (az sk.2) O8 (bD _) rfl (eF _) ?_;refine Hid.out ?_);refine hid ?_;obtain⟨W9,eO⟩:=ah (w8.setRow (w.heap.size+1+1) (az p7));rw[<-eO];have O9:Hid (aq W9 (w.heap.size+1+1) (az p7) 142):=by rw[eO];exact hid O8.setRow
    have K9:Hid (ae (· ≠w.heap.size+1+1) w8 W9):=by rw[eO];exact hid (bn _ _ _)
    clear eO;go_wp2;go_roundw;case rel=>
     refine⟨k+1,by omega,by go_num,?_⟩;rw[Eh.out];have h1:=Lp.size;have h2:=Xc.out;have h3:=E3.size;have h4:=K6.size;have h5:=K5.size;refine⟨⟨F2,M8.keeps K9 fun x hx e=>tS (e▸hx),fun x h=>G2 x (UU x h),fun x h=>by rcases G3.out x h with h | h;exact Ae x h;exact .inr (by omega)⟩,O9,?_⟩;have hq:∀ x,x<V.heap.size->¬F x->¬F2 x:=fun x h h6 e=>by rcases G3.out x e with h7 | h7;(rcases Ae.out x h7 with h8 | h8;exact h6 h8;omega);omega
     have Mx:∀ x,x<V.heap.size->¬F x->¬F' x:=fun x h h6 e=>hq x h h6 (G2 x e)
     exact Lp.tr ((Tp.mono fun x hx=>⟨by have:=hx.1;omega,Mx x hx.1 hx.2.1⟩).tr ((E3.keeps.mono fun x hx=>by have:=hx.1;omega).tr ((K5.mono fun x hx=>⟨by have:=hx.1;omega,hq x hx.1 hx.2.1⟩).tr ((K6.mono fun x hx=>by have:=hx.1;omega).tr ((Xa.mono fun x hx=>⟨by have:=hx.1;omega,hq x hx.1 hx.2.1⟩).tr (K9.mono fun x hx=>hx.2.2))))))
    case measure=>simp[intOf];omega
  ·obtain rfl:k=N:=by omega
   have yQ:¬ ((k:Int)<k):=by omega
   obtain⟨hF',hO,hK⟩:=HI.out;rw[<-HST.out]at hF' hO;have PK:=hid hF';have O3:=hid hO;have HK:=hid hK;have R3:Hid (aq wo (w.heap.size+1) (zeroV false) 142):=hid (R0.keeps hK ⟨R0.lt,fun e=>by have:=(HM.lt _ e).2;omega,by omega⟩);clear hF' hO hK HI;go_wp2_with (first | (refine aJ rfl 142 (.tmp 6) rfl (w.heap.size+1+1) rfl (az st.2) _ O3.range Tryz.underlying142 rfl (bD _) ?_) | (refine wpList_store_row rfl 142 (.tmp 4) (.tmp 56) rfl (w.heap.size+1) (az st.2) rfl rfl 142 (zeroV false) R3 (bD _) rfl (eF _) ?_;refine Hid.out ?_));refine hid ?_;obtain⟨V3,cD⟩:=ah (wo.setRow (w.heap.size+1) (az st.2));rw[<-cD];have R9:Hid (aq V3 (w.heap.size+1) (az st.2) 142):=by rw[cD];exact hid R3.setRow
   have K9:ae (· ≠w.heap.size+1) wo V3:=by rw[cD];exact bn _ _ _
   clear cD;go_wp2;obtain⟨m0,m1,m2,m3,m4,m5,m6,m7,m8,m9,m10,m11,m12,m13,m14⟩:=R9.part;refine bodyPost_ret (v:=.agg (az st.2)) (by simp[results,Tryz.results128,az,go_sem,m0,m1,m2,m3,m4,m5,m6,m7,m8,m9,m10,m11,m12,m13,m14]) rfl ⟨rfl,?_,?_,?_⟩
   ·obtain⟨F',h1,h2,h3⟩:=PK.out
    exact⟨F',h1.keeps K9 fun x hx e=>by(rcases h3 x hx with h | h; · exact absurd (HM.lt x h).2 (by omega));omega,h2,fun x hx=>(h3 x hx).imp id fun h=>by omega⟩
   ·exact(E0.keeps.mono fun x hx=>hx.1).tr ((HK.mono fun x hx=>⟨by have:=hx.1;omega,hx.2,by have:=hx.1;omega⟩).tr (K9.mono fun x hx=>by have:=hx.1;omega))
   ·have:=K9.size;have:=HK.size;omega
def eR (M X:Nat):Array Value:= #[.func (.func 120) #[] #[],.func (.func 121) #[] #[],.func (.func 122) #[] #[.pointer (some ⟨X,0,none⟩)],.func (.func 124) #[] #[.pointer (some ⟨X,0,none⟩)],
 .func (.func 126) #[] #[.pointer (some ⟨X,0,none⟩)],.func (.func 128) #[.pointer (some ⟨M,0,none⟩)] #[],.func (.func 129) #[] #[.pointer (some ⟨X,0,none⟩)]]
theorem Lq (M:Nat) (w:World):ag 93 #[.pointer (some ⟨M,0,none⟩)] w fun e w'=>e=.returned (.agg (eR M w.heap.size))/\Ext w w'/\w'.cell? ⟨w.heap.size,0,none⟩=some (.pointer (some ⟨M,0,none⟩)):=by
 go_enter Tryz.func93,Tryz.ntmps93
 go_wp2;refine aT ?_;intro V hV;have R1:Hid (aq V (w.heap.size+1) (eR M w.heap.size) 173):=by
  rw[hV];exact hid (aq.at (aq.new _ _ _) (by simp))
 have B0:Hid (aq V w.heap.size #[.pointer (some ⟨M,0,none⟩)] 135):=by rw[hV];exact hid ((aq.new _ _ _).alloc _)
 have X1:Ext w V:=by rw[hV];exact((Ext.refl w).alloc _).alloc _
 clear hV;have m0:=R1.cell 0;have m1:=R1.cell 1;have m2:=R1.cell 2;have m3:=R1.cell 3;have m4:=R1.cell 4;have m5:=R1.cell 5;have m6:=R1.cell 6;simp only[eR,List.getElem?_toArray,List.getElem?_cons_zero,List.getElem?_cons_succ]at m0 m1 m2 m3 m4 m5 m6;refine bodyPost_ret (v:=.agg (eR M w.heap.size)) (by simp[results,Tryz.results93,eR,go_sem,m0,m1,m2,m3,m4,m5,m6]) rfl ⟨rfl,X1,B0.cell 0⟩
def UY (base M:Nat) (F:Nat->Prop) (w:World) (m:GM) (p:GP) (e:Ending) (w':World):Prop:=
 e=.returned (.agg (az p))/\(∃ F',fO base M F' w' m/\(∀ x,F x->F' x)/\∀ x,F' x->F x\/w.heap.size<=x)/\ae (fun x=>x<w.heap.size/\¬F x) w w'
def kF (k:Nat):FuncId:=if k=1 then 121 else if k=2 then 122 else if k=3 then 124 else if k=4 then 126 else if k=5 then 128 else 129
def abq (k M X:Nat) (v:Value):Array Value:=if k=1 then #[v]else if k=5 then #[.pointer (some ⟨M,0,none⟩),v]else #[v,.pointer (some ⟨X,0,none⟩)]
def abr.tab (M n9:Nat):aR (Move false (fun _=>False)) where
 P:=fun v=>∃ X,v=.agg (eR M X)/\n9<=X
 H:=fun v W=>∀ X,v=.agg (eR M X)->X<W.heap.size/\W.cell? ⟨X,0,none⟩=some (.pointer (some ⟨M,0,none⟩))
 mo:=.agg (eR M n9)
 pw:=⟨n9,rfl,aD _⟩
 st:=fun _ _ _ hm _ h X e=>⟨aw (h X e).1 hm.size,((ae.ai hm.below fun _ h=>h:ae (· <_) _ _).cell (p:=⟨X,0,none⟩) (h X e).1).trans (h X e).2⟩
theorem G8 {M X Y:Nat} (h:Value.agg (eR M X)=.agg (eR M Y)):X=Y:=by
 injection h with h
 have:=congrArg (fun a:Array Value=>a[2]?) h;simp[eR]at this;exact this
theorem kV (M X:Nat) (W:World): (Instr.index 173 (.agg (eR M X)) (.int .u8 1)).run Tryz.prog W=.ok (.func (.func 121) #[] #[]) W/\ (Instr.index 173 (.agg (eR M X)) (.int .u8 2)).run Tryz.prog W=.ok (.func (.func 122) #[] #[.pointer (some ⟨X,0,none⟩)]) W/\ (Instr.index 173 (.agg (eR M X)) (.int .u8 3)).run Tryz.prog W=.ok (.func (.func 124) #[] #[.pointer (some ⟨X,0,none⟩)]) W/\ (Instr.index 173 (.agg (eR M X)) (.int .u8 4)).run Tryz.prog W=.ok (.func (.func 126) #[] #[.pointer (some ⟨X,0,none⟩)]) W/\ (Instr.index 173 (.agg (eR M X)) (.int .u8 5)).run Tryz.prog W=.ok (.func (.func 128) #[.pointer (some ⟨M,0,none⟩)] #[]) W/\ (Instr.index 173 (.agg (eR M X)) (.int .u8 6)).run Tryz.prog W=.ok (.func (.func 129) #[] #[.pointer (some ⟨X,0,none⟩)]) W:=by refine⟨?_,?_,?_,?_,?_,?_⟩<;>simp[Instr.index,asIntOf,run_underlying Tryz.underlying173,part,Tryz.isAgg143,Tryz.sizeOf143,eR,go_sem]
theorem G9 (n0 base M:Nat) (F:Nat->Prop) (m m2:GM) (p2:GP) (k:Nat) (s:BS) (mn mx:Int) (l:List RX) (p:Option Addr) (n c:Nat) (w:World) (eZ:n0<=base) (h:fO base M F w m) (hr:aH (· <n0) w (.agg (aj k s mn mx (.slice p n c))) (.nd k s mn mx l)) (h1:1<=k) (h6:k<=6) (HCl:∀ (W:World) (X:Nat),fO base M F W m->aH (· <n0) W (.agg (aj k s mn mx (.slice p n c))) (.nd k s mn mx l)->W.cell? ⟨X,0,none⟩=some (.pointer (some ⟨M,0,none⟩))->¬F X->ag (kF k) (abq k M X (.agg (aj k s mn mx (.slice p n c)))) W (UY base M F W m2 p2)): ag 63 #[.pointer (some ⟨M,0,none⟩),.agg (aj k s mn mx (.slice p n c))] w (jI base M F w m2 p2):=by
 have HM:=hid h;have HR:=hid hr;have HCL:=hid HCl;have UN:M<w.heap.size:=(h.lt M h.fm).2;have abi:n0<=w.heap.size:=by have:=(h.lt M h.fm).1;omega
 clear h hr HCl;unfold aj;go_enter Tryz.func63,Tryz.ntmps63;go_upto_region 1 with fail
 refine ax ?_;intro V hV;have N0:Hid (aq V w.heap.size (aj k s mn mx (.slice p n c)) 40):=by rw[hV];exact hid ((aq.new _ _ _).alloc _)
 have R0:Hid (aq V (w.heap.size+1) (zeroV false) 142):=by rw[hV];exact hid (aq.at (aq.new _ _ _) (by simp))
 have E0:Hid (Ext w V):=by rw[hV];exact hid (((Ext.refl w).alloc _).alloc _)
 have jV:Hid (V.heap.size=w.heap.size+1+1):=hid (by rw[hV];simp);clear hV;have uH:w.heap.size+1<V.heap.size:=by rw[jV.out];omega
 have e0:V.cell? ⟨w.heap.size,0,none⟩=some (.int .u8 k):=N0.cell 0;have e1:V.cell? ⟨w.heap.size,1,none⟩=some (.int .u64 (wd s 0).toNat):=N0.cell 1;have e2:V.cell? ⟨w.heap.size,2,none⟩=some (.int .u64 (wd s 1).toNat):=N0.cell 2;have e3:V.cell? ⟨w.heap.size,3,none⟩=some (.int .u64 (wd s 2).toNat):=N0.cell 3;have e4:V.cell? ⟨w.heap.size,4,none⟩=some (.int .u64 (wd s 3).toNat):=N0.cell 4;have e5:V.cell? ⟨w.heap.size,5,none⟩=some (.int .i64 mn):=N0.cell 5;have e6:V.cell? ⟨w.heap.size,6,none⟩=some (.int .i64 mx):=N0.cell 6;have e7:V.cell? ⟨w.heap.size,7,none⟩=some (.slice p n c):=N0.cell 7;have UZ:w.heap.size<V.heap.size:=N0.lt;have hk:k=1\/k=2\/k=3\/k=4\/k=5\/k=6:=by omega
 clear h1 h6;rcases hk with rfl | rfl | rfl | rfl | rfl | rfl
 all_goals
  refine aM false (fun _=>False) (by kernel_rfl) 6 [0,1,0,4,15,0,63,127] (fun i=>i==1 || i==6 || i==7) (by kernel_rfl) (fun i=>if i=1 then abr.tab M w.heap.size else aR.any _) ?_;intro C hC hne;have HC:=hid hC;have f0:=aF hC (p:=⟨w.heap.size,0,none⟩) UZ (fun h=>h) e0;have f1:=aF hC (p:=⟨w.heap.size,1,none⟩) UZ (fun h=>h) e1;have f2:=aF hC (p:=⟨w.heap.size,2,none⟩) UZ (fun h=>h) e2;have f3:=aF hC (p:=⟨w.heap.size,3,none⟩) UZ (fun h=>h) e3;have f4:=aF hC (p:=⟨w.heap.size,4,none⟩) UZ (fun h=>h) e4;have f5:=aF hC (p:=⟨w.heap.size,5,none⟩) UZ (fun h=>h) e5;have f6:=aF hC (p:=⟨w.heap.size,6,none⟩) UZ (fun h=>h) e6;have f7:=aF hC (p:=⟨w.heap.size,7,none⟩) UZ (fun h=>h) e7;clear hC e0 e1 e2 e3 e4 e5 e6 e7
  repeat (refine ak (fun K hK=>?_);first | (refine cQ rfl ?_;try go_simp;refine hK _ _ ?_;clear hK K) | (refine bV rfl rfl ?_;unfold aB;go_simp;refine hK _ _ ?_;clear hK K))
  refine ak (fun K hK=>?_);refine bS rfl rfl (abr.tab M w.heap.size) rfl (fun W hW hN=>?_) (fun v hv=>?_)
  ·have hM:=(HC.out W).1 hW
   clear hW hN hK K;go_simp;refine bu ((Lq M W).mono ?_);rintro e w' ⟨rfl,hx,hc⟩;have hz:=hM.size;exact⟨_,rfl,Move.ext hx,⟨_,rfl,by omega⟩,fun Y hY=>by have:=G8 hY;subst this;exact⟨World.block_lt_of_cell? _ _ hc,hc⟩⟩
  obtain⟨X,rfl,hXn⟩:=hv;have ix1:=fun W=>(kV M X W).1
  have ix2:=fun W=>(kV M X W).2.1
  have ix3:=fun W=>(kV M X W).2.2.1
  have ix4:=fun W=>(kV M X W).2.2.2.1
  have ix5:=fun W=>(kV M X W).2.2.2.2.1
  have ix6:=fun W=>(kV M X W).2.2.2.2.2
  go_simp;refine hK _ _ ?_;clear hK K
  repeat (refine ak (fun K hK=>?_);first | (refine cQ rfl ?_;try go_simp;refine hK _ _ ?_;clear hK K) | (refine bV rfl rfl ?_;unfold aB;go_simp;refine hK _ _ ?_;clear hK K))
  refine cg (fun W hW hH=>?_);have jT:=(HC.out W).1 hW;obtain⟨hXl,hXc⟩:X<W.heap.size/\W.cell? ⟨X,0,none⟩=some (.pointer (some ⟨M,0,none⟩)):=(hH _ (aA (show _=some _ from rfl:_[0]? =some _))) X rfl;have MW:Hid (fO base M F W m):=hid ((HM.keeps E0.keeps fun x hx=>(HM.lt x hx).2).keeps (ae.ai jT.below fun _ h=>h:ae (· <V.heap.size) V W) fun x hx=>by have:=(HM.lt x hx).2;omega);have IW:=hid ((HR.keeps E0.keeps fun x hx=>by omega).keeps (ae.ai jT.below fun _ h=>h:ae (· <V.heap.size) V W) fun x hx=>by omega);have RW:=hid (R0.below jT.below R0.lt);have KW:Hid (ae (· <w.heap.size) w W):=hid (E0.keeps.tr (ae.ai jT.below fun x hx=>by omega:ae (· <w.heap.size) V W));have xo:w.heap.size+1<W.heap.size:=by have:=jT.size;omega
  have hnX:¬F X:=fun e=>by have:=(HM.lt X e).2;omega
  have CC:=hid (HCL.out W X MW IW hXc hnX);clear jT hW hH HC hne f0 f1 f2 f3 f4 f5 f6 f7 MW IW HCL hXc ix1 ix2 ix3 ix4 ix5 ix6;go_wp2_with fail
  refine CC.mono ?_;rintro e w3 ⟨rfl,hF',hx⟩;have nV:∀ k,w.heap.size<=k->¬F k:=fun k hk e=>by have:=(HM.lt k e).2;omega
  have R3:Hid (aq w3 (w.heap.size+1) (zeroV false) 142):=hid (RW.keeps hx ⟨by omega,nV _ (by omega)⟩);have PK:=hid hF';have HK:=hid hx;have hs3:=hx.size;clear hx hF' CC;go_wp2_with (refine wpList_store_row rfl 142 (.tmp 4) (.tmp 11) rfl (w.heap.size+1) (az p2) rfl rfl 142 (zeroV false) R3 (bD _) rfl (eF _) ?_;refine Hid.out ?_);refine hid ?_;obtain⟨V3,cD⟩:=ah (w3.setRow (w.heap.size+1) (az p2));rw[<-cD];have R9:Hid (aq V3 (w.heap.size+1) (az p2) 142):=by rw[cD];exact hid R3.setRow
  have K9:ae (· ≠w.heap.size+1) w3 V3:=by rw[cD];exact bn _ _ _
  clear cD;go_wp2;obtain⟨m0,m1,m2,m3,m4,m5,m6,m7,m8,m9,m10,m11,m12,m13,m14⟩:=R9.part;refine bodyPost_ret (v:=.agg (az p2)) (by simp[results,Tryz.results63,az,go_sem,m0,m1,m2,m3,m4,m5,m6,m7,m8,m9,m10,m11,m12,m13,m14]) rfl ⟨rfl,?_,?_,?_⟩
  ·obtain⟨F',h1,h2,h3⟩:=PK.out
   refine⟨F',h1.keeps K9 fun x hx e=>by(rcases h3 x hx with h | h;exact nV _ (by omega) h;omega),h2,fun x hx=>(h3 x hx).imp id fun h=>by omega⟩
  ·exact(KW.mono fun x hx=>hx.1).tr ((HK.mono fun x hx=>⟨by have:=hx.1;omega,hx.2⟩).tr (K9.mono fun x hx=>by have:=hx.1;omega))
  ·have:=K9.size;omega
theorem jI.clo {base M:Nat} {F:Nat->Prop} {w:World} {m:GM} {p:GP} {e:Ending} {w':World} (h:jI base M F w m p e w'):UY base M F w m p e w':=⟨h.1,h.2.1,h.2.2.1⟩
theorem nZ {l:List RX} :∀ {t:RX},t∈l->t.size<=RX.sizes l:=by
 induction l with
 | nil=>intro t h;cases h
 | cons x l ih=>
  intro t h;rw[RX.sizes];rcases List.mem_cons.1 h with rfl | h
  ·omega
  ·have:=ih h;omega
theorem wy:∀ (l:List RX),l.length<=RX.sizes l
 | []=>Nat.zero_le _
 | t::l=>by rw[RX.sizes,List.length_cons];have:=size_pos t;have:=wy l;omega
theorem P0 (n0:Nat) (t:RX):t.fine->t.size<=10000->G6 n0 t:=by
 induction t using RX.ind with
 | h k s mn mx l ih=>
  intro hf hs;obtain⟨hr,hl⟩:=lL.1 hf;obtain⟨_,q2,q3,q4,q5,q6,_⟩:=sg hr;rw[RX.size]at hs;have hlen:=wy l;have ih:∀ t∈l,G6 n0 t:=fun t ht=>ih t ht (hl t ht) (by have:=nZ ht;omega)
  have wz:∀ t∈l,t.full=true:=fun t ht=>pE t (hl t ht)
  intro base M F m w v eZ hm hv ok BP abu;obtain⟨p,c,rfl⟩:=hv.form;simp only[RX.kind,RX.set,RX.mn,RX.mx,RX.subs]at hv ⊢;refine G9 n0 base M F m _ _ k s mn mx l p _ c w eZ hm hv (by omega) q4 fun W X hW hvW hX Ea=>?_
  have hk:k=1\/k=2\/k=3\/k=4\/k=5\/k=6:=by omega
  rcases hk with rfl | rfl | rfl | rfl | rfl | rfl
  ·have e:(RX.nd 1 s mn mx l).dB m=(m,⟨0,0,true⟩):=by rw[RX.dB];rfl
   rw[e];refine(GX 1 s mn mx _ W).mono ?_;rintro e w' ⟨rfl,hx⟩;exact⟨by show _=Ending.returned (.agg (az ⟨0,0,true⟩));rw[ir],⟨F,hW.keeps hx fun x h=>(hW.lt x h).2,fun _ h=>h,fun _ h=>.inl h⟩,hx.mono fun _ h=>h.1⟩
  ·have e:(RX.nd 2 s mn mx l).dB m=(⟨m.aL++ [s],m.cG++ [0]⟩,⟨eQ m.aL.length,eQ m.aL.length,false⟩):=by rw[RX.dB];rfl
   rw[e];have hc1:(RX.nd 2 s mn mx l).cnt=1:=by rw[RX.cnt];rfl
   exact(GZ base M F m s mn mx _ X W hW hX Ea BP (by omega)).mono fun e w' h=>h
  ·have e:(RX.nd 3 s mn mx l).dB m=RX.iK l (m,⟨0,0,true⟩):=by rw[RX.dB];rfl
   have hc1:(RX.nd 3 s mn mx l).cnt=RX.gF l:=by rw[RX.cnt];rfl
   rw[e];exact(PR n0 base M F m 3 s mn mx l p _ c X W eZ hW hvW ih wz hX Ea ok BP (by omega) (by omega)).mono fun e w' h=>h.clo
  ·have e:(RX.nd 4 s mn mx l).dB m=RX.fU l (m,⟨0,0,false⟩):=by rw[RX.dB];rfl
   have hc1:(RX.nd 4 s mn mx l).cnt=RX.gF l:=by rw[RX.cnt];rfl
   rw[e];exact(PO n0 base M F m 4 s mn mx l p _ c X W eZ hW hvW ih wz hX Ea ok BP (by omega) (by omega)).mono fun e w' h=>h.clo
  ·have hb:=q6 rfl
   obtain⟨g1,g2,g3⟩:=tA hb;obtain⟨t,l',rfl⟩:∃ t l',l=t::l':=by
    cases l with
    | nil=>have:=q5 (.inl rfl);simp at this
    | cons t l'=>exact⟨t,l',rfl⟩
   have e:(RX.nd 5 s mn mx (t::l')).dB m=ee mn mx (fun m=>t.dB m) m (fp mn mx):=by rw[RX.dB];show RX.rpG mn mx (t::l') m=_;rw[RX.rpG]
   have hc1:(RX.nd 5 s mn mx (t::l')).cnt=fp mn mx*t.cnt:=by rw[RX.cnt];show fp mn mx*RX.cnt1 (t::l')=_;rw[RX.cnt1]
   rw[e];have hmx:mx= -1\/(1<=mx/\mx≠ -1):=by
    unfold iA at hb;split at hb
    ·cases hb
    ·simp at hb
     omega
   rcases hmx with rfl | ⟨hmx,hne⟩
   ·refine(abh n0 base M F m 5 s mn (fp mn (-1)) t l' p _ c W eZ hW hvW (ih t (bL ..)) (wz t (bL ..)) ok BP ?_ g3 rfl (by omega)).mono fun e w' h=>h.clo
    unfold fp;rw[if_pos rfl];omega
   ·obtain⟨N,rfl⟩:∃ N:Nat,mx=N:=⟨mx.toNat,by omega⟩
    have hN:fp mn (N:Int)=N:=by unfold fp;rw[if_neg hne];simp
    rw[hN]at g3 hc1 ⊢;exact(abp n0 base M F m 5 s mn N t l' p _ c W eZ hW hvW (ih t (bL ..)) (wz t (bL ..)) ok BP (by omega) g3 hN (by omega)).mono fun e w' h=>h.clo
  ·obtain⟨t,l',rfl⟩:∃ t l',l=t::l':=by
    cases l with
    | nil=>have:=q5 (.inr rfl);simp at this
    | cons t l'=>exact⟨t,l',rfl⟩
   have e:(RX.nd 6 s mn mx (t::l')).dB m=t.dB m:=by rw[RX.dB];show RX.hdG (t::l') m=_;rw[RX.hdG]
   have hc1:(RX.nd 6 s mn mx (t::l')).cnt=t.cnt:=by rw[RX.cnt];show RX.cnt1 (t::l')=_;rw[RX.cnt1]
   rw[e];exact(Tl n0 base M F m 6 s mn mx t l' p _ c X W eZ hW hvW (ih t (bL ..)) hX Ea ok BP (by omega)).mono fun e w' h=>h.clo
attribute [local go_sem] Oper.semAt_some eU cJ
theorem pO {T:Nat->Prop} :∀ (Ds:List Nat) (W:World),(∀ D∈Ds,T D)->Move true T W (Ds.foldl (fun W D=>W.putObj D (.deferred none)) W)
 | [],_,_=>Move.refl _ _ _
 | D::Ds,_,h=>(Move.put (h D (bL ..)) _).trans (pO Ds _ fun E hE=>h E (cd _ hE))
theorem jJ:∀ (Ds:List Nat) (W:World),(Ds.foldl (fun W D=>W.putObj D (.deferred none)) W).heap.size=W.heap.size
 | [],_=>rfl
 | D::Ds,_=>by rw[List.foldl_cons,jJ Ds];simp
theorem iu (c:Array Value) (w:World):ag 87 #[.agg c] w fun e w'=>e=.returned (.func (.func 115) #[] #[.pointer (some ⟨w.heap.size,0,none⟩)])/\w'=w.alloc (.cells c 40 (0,0)):=by
 go_enter Tryz.func87,Tryz.ntmps87
 go_wp2;go_ret;exact⟨rfl,rfl⟩
theorem jn:∀ args w,(callFunc 115 args).run Tryz.prog w=.ok (.enter 115 args) w:=enters_of Tryz.func115 (by kernel_rfl) rfl
abbrev jX:=Value×RX
def xX (x:jX):Array Value:= #[x.1]
theorem zn {l:List RX} (f:Nat->List jX) (hf:∀ i t,l[i]? =some t->(f i).map (·.2)=t.pre):∀ j,j<=l.length->((List.range j).flatMap f).map (·.2)=RX.ja (l.take j)
 | 0,_=>by simp[RX.ja]
 | j+1,hj=>by
  have hl:l[j]? =some (l[j]'(by omega)):=aC (by omega);have pa:∀ a b:List RX,RX.ja (a++b)=RX.ja a++RX.ja b:=by
   intro a b;induction a with
   | nil=>rfl
   | cons x a ih=>rw[List.cons_append,RX.ja,RX.ja,ih,List.append_assoc]
  rw[List.range_succ,List.flatMap_append,List.map_append,zn f hf j (by omega),List.take_add_one,hl,pa];congr 1;simp[hf j _ hl,RX.ja]
theorem zo (f:Nat->List jX) (h:jX) {i n:Nat} (hi:i<=n):h::(List.range i).flatMap f<+:h::(List.range n).flatMap f:=by
 induction n with
 | zero=>rw[show i=0 by omega];exact List.prefix_rfl
 | succ n ih=>
  by_cases e:i=n+1
  ·subst e;exact List.prefix_rfl
  ·exact(ih (by omega)).trans (by rw[List.range_succ,List.flatMap_append];exact⟨_,by rw[List.cons_append]⟩)
theorem AO (f:Nat->List jX) (h:jX) (i:Nat):h::(List.range (i+1)).flatMap f=(h::(List.range i).flatMap f)++f i:=by rw[List.range_succ,List.flatMap_append,List.cons_append];simp
theorem wB:∀ {l:List RX} {t:RX},t∈l->t.size<=RX.sizes l
 | x::l,t,h=>by
  rw[RX.sizes];rcases List.mem_cons.1 h with rfl | h
  ·omega
  ·have:=wB h;omega
theorem od:∀ (l:List RX),l.length<=RX.sizes l
 | []=>by simp
 | x::l=>by
  rw[RX.sizes,List.length_cons];have:=od l;have h1:1<=x.size:=by cases x;rw[RX.size];omega
  omega
def U0 (D:Nat):Deferred:= {target:=.collected D,args:= #[]}
theorem mg {P:Program} {fn:Func} {R:Ending->World->Prop} {tmps:Array Value} {v:Value} {Ds:List Nat} {W:World} {x:Exit} (hx:x=.normal\/x=.ret) (hn:Ds.Nodup) (hD:∀ D∈Ds,W.heap[D]? =some (.deferred (some []))) (hr:∀ W,(results fn tmps).run P W=.ok v W) (hR:R (.returned v) (Ds.foldl (fun W D=>W.putObj D (.deferred none)) W)):bodyPostM Fence.wide 0 P fn R x {tmps:=tmps,defers:=Ds.map U0} W:=by
 have h:=oO (P:=P) (fn:=fn) (tmps:=tmps) (R:=R) Ds W hn hD (hr _) hR;rcases hx with rfl | rfl
 ·exact h
 ·exact h
structure fY (R:Nat->Prop) (J:List jX->(Nat->Prop)->World->Prop) (W1:World) (Y:Nat) (yv:Value) (pre:List jX) (Ds:List Nat) (T:Nat->Prop) (W:World):Prop where
 kJ:∀ k,T k->W1.heap.size<=k/\k<W.heap.size
 y:T Y
 yb:aq W Y #[yv] 130
 nodup:Ds.Nodup
 ds:∀ D∈Ds,T D/\W.heap[D]? =some (.deferred (some []))
 keep:ae R W1 W
 j:J pre T W
theorem fY.more {R:Nat->Prop} {J:List jX->(Nat->Prop)->World->Prop} {W1:World} {Y:Nat} {yv:Value} {pre:List jX} {Ds:List Nat} {T:Nat->Prop} {W W':World} (h:fY R J W1 Y yv pre Ds T W) (hJ:fg true W1.heap.size J) (hR:∀ k,R k->k<W1.heap.size) {T':Nat->Prop} (hx:Ext W W') (ht:∀ k,T k->T' k) (ht':∀ k,T' k->(T k\/W.heap.size<=k)/\k<W'.heap.size):fY R J W1 Y yv pre Ds T' W':=by
 have h1:W1.heap.size<=W.heap.size:=h.keep.size;have hr:∀ k,T' k->W1.heap.size<=k/\k<W'.heap.size:=fun k hk=>⟨by rcases(ht' k hk).1 with h2 | h2;exact(h.kJ k h2).1;omega,(ht' k hk).2⟩
 refine⟨hr,ht _ h.y,h.yb.ext hx,h.nodup,fun D hD=>⟨ht _ (h.ds D hD).1,?_⟩,h.keep.tr (hx.mono fun k hk=>by have:=hR k hk;omega),hJ _ _ _ _ _ h.j h.kJ hr ht (fun k hk=>(ht' k hk).1) (.ext hx)⟩;exact(hx.keep D (h.kJ D (h.ds D hD).1).2).trans (h.ds D hD).2
theorem fY.move {R:Nat->Prop} {J:List jX->(Nat->Prop)->World->Prop} {W1:World} {Y:Nat} {yv:Value} {pre:List jX} {Ds:List Nat} {T Ti MM:Nat->Prop} {W W':World} {B:Nat} (h:fY R J W1 Y yv pre Ds (fun k=>T k\/Ti k) W) (hJ:fg true W1.heap.size J) (hR:∀ k,R k->k<W1.heap.size) (hB:W1.heap.size<=B) (hYB:Y<B) (hDB:∀ D∈Ds,D<B) (h1:∀ k,Ti k->B<=k/\k<W.heap.size) (h2:∀ k,MM k->B<=k/\k<W'.heap.size) (h3:∀ k,Ti k->MM k) (h4:∀ k,MM k->Ti k\/W.heap.size<=k) (h5:Move true Ti W W'):fY R J W1 Y yv pre Ds (fun k=>T k\/MM k) W':=by
 have hs:=h5.size;have hr:∀ k,(T k\/MM k)->W1.heap.size<=k/\k<W'.heap.size:=fun k hk=>by
  rcases hk with hk | hk
  ·have:=h.kJ k (.inl hk);exact⟨this.1,by omega⟩
  ·have:=h2 k hk;exact⟨by omega,this.2⟩
 refine⟨hr,?_,h.yb.keeps h5.keeps ⟨h.yb.lt,fun e=>by have:=(h1 _ e).1;omega⟩,h.nodup,fun D hD=>⟨?_,?_⟩,h.keep.tr (h5.keeps.mono fun k hk=>⟨by have:=hR k hk;have:=h.keep.size;omega,fun e=>by have:=(h1 _ e).1;have:=hR k hk;omega⟩),hJ _ _ _ _ _ h.j h.kJ hr (fun k hk=>hk.imp id (h3 k)) (fun k hk=>hk.elim (fun h=>.inl (.inl h)) fun h=>(h4 k h).imp .inr id) (h5.mono fun k hk=>.inr hk)⟩
 ·exact h.y.imp id (h3 _)
 ·exact(h.ds D hD).1.imp id (h3 _)
 ·exact(h5.keeps.keep D ⟨(h.kJ D (h.ds D hD).1).2,fun e=>by have:=(h1 _ e).1;have:=hDB D hD;omega⟩).trans (h.ds D hD).2
theorem fY.round {R:Nat->Prop} {J:List jX->(Nat->Prop)->World->Prop} {W1:World} {Y:Nat} {yv:Value} {pre pre':List jX} {Ds:List Nat} {T:Nat->Prop} {W W':World} (h:fY R J W1 Y yv pre Ds T W) (hk:ae (fun k=>R k\/T k) W W') (hj:J pre' T W'):fY R J W1 Y yv pre' Ds T W':=
 ⟨fun k pT=>⟨(h.kJ k pT).1,aw (h.kJ k pT).2 hk.size⟩,h.y,h.yb.keeps hk (.inr h.y),h.nodup,fun D hD=>⟨(h.ds D hD).1,(hk.keep D (.inr (h.ds D hD).1)).trans (h.ds D hD).2⟩,h.keep.tr (hk.mono fun _ hk=>.inl hk),hj⟩
structure AP (Jx:List jX->(Nat->Prop)->World->Prop) (W1:World) (pre:List jX) (Ds:List Nat) (T:Nat->Prop) (W:World):Prop where
 kJ:∀ k,T k->W1.heap.size<=k/\k<W.heap.size
 ds:∀ D∈Ds,T D/\W.heap[D]? =some (.deferred (some []))
 j:Jx pre T W
theorem AP.move {Jx:List jX->(Nat->Prop)->World->Prop} {W1:World} {pre:List jX} {Ds:List Nat} {T Ti MM:Nat->Prop} {W W':World} {B:Nat} (h:AP Jx W1 pre Ds (fun k=>T k\/Ti k) W) (hJ:fg true W1.heap.size Jx) (hB:W1.heap.size<=B) (hDB:∀ D∈Ds,D<B) (h1:∀ k,Ti k->B<=k/\k<W.heap.size) (h2:∀ k,MM k->B<=k/\k<W'.heap.size) (h3:∀ k,Ti k->MM k) (h4:∀ k,MM k->Ti k\/W.heap.size<=k) (h5:Move true Ti W W'):AP Jx W1 pre Ds (fun k=>T k\/MM k) W':=by
 have hs:=h5.size;have hr:∀ k,(T k\/MM k)->W1.heap.size<=k/\k<W'.heap.size:=fun k hk=>by
  rcases hk with hk | hk
  ·have:=h.kJ k (.inl hk);exact⟨this.1,by omega⟩
  ·have:=h2 k hk;exact⟨by omega,this.2⟩
 refine⟨hr,fun D hD=>⟨(h.ds D hD).1.imp id (h3 _),?_⟩,hJ _ _ _ _ _ h.j h.kJ hr (fun k hk=>hk.imp id (h3 k)) (fun k hk=>hk.elim (fun h=>.inl (.inl h)) fun h=>(h4 k h).imp .inr id) (h5.mono fun k hk=>.inr hk)⟩;exact(h5.keeps.keep D ⟨(h.kJ D (h.ds D hD).1).2,fun e=>by have:=(h1 _ e).1;have:=hDB D hD;omega⟩).trans (h.ds D hD).2
theorem kW (n0:Nat) (t:RX):t.size<=10000000->∀ (v:Value) (w:World),aH (· <n0) w v t->n0<=w.heap.size->∃ xs:List jX,xs.map (·.2)=t.pre/\(∀ x∈xs,aH (· <n0) w x.1 x.2)/\ ∀ (W:World) (B:Nat) (c:Array Value),v=.agg c->ae (· <n0) w W->aq W B c 40->Seq true Tryz.prog 115 #[.pointer (some ⟨B,0,none⟩)] xX (fun k=>k<n0\/k=B) xs W:=by
 induction t using RX.ind with
 | h k s mn mx l ih=>
  intro hsz v w hv eZ;obtain⟨p,cp,rfl⟩:=hv.form;obtain⟨n,hn⟩:=ah l.length;have HV:=hid hv;simp only[RX.kind,RX.set,RX.mn,RX.mx,RX.subs]at HV ⊢;rw[<-hn]at HV ⊢
  have hch:∀ i,∃ xs:List jX,∀ t,l[i]? =some t->xs.map (·.2)=t.pre/\(∀ x∈xs,aH (· <n0) w x.1 x.2)/\∀ (p':Option Addr) (c':Nat),aH (· <n0) w (.agg (aj t.kind t.set t.mn t.mx (.slice p' t.subs.length c'))) t->∀ b off,p=some ⟨b,off,none⟩->w.cell? ⟨b,off+i*8+7,none⟩=some (.slice p' t.subs.length c')->
    ∀ (W:World) (B:Nat),ae (· <n0) w W->aq W B (aj t.kind t.set t.mn t.mx (.slice p' t.subs.length c')) 40->Seq true Tryz.prog 115 #[.pointer (some ⟨B,0,none⟩)] xX (fun k=>k<n0\/k=B) xs W:=fun i=>by
   cases hi:l[i]? with
   | none=>exact⟨[],fun t h=>by cases h⟩
   | some t=>
    obtain⟨b,off,p',c',ep,_,_,_,Xe,hr⟩:=HV.elem hi;obtain⟨xs,h1,h2,h3⟩:=ih t (aA hi) (Nat.le_trans (wB (aA hi)) (by rw[RX.size]at hsz;omega)) _ w hr eZ;refine⟨xs,fun t' e=>?_⟩;cases e;refine⟨h1,h2,fun p2 c2 _ b2 tW e2 hc2 W B hW hB=>?_⟩;rw[ep]at e2;cases e2;have e3:=Xe.2.2.2.2.2.2.2;rw[hc2]at e3;cases e3;exact h3 W B _ rfl hW hB
  obtain⟨f,hf⟩:=Classical.axiomOfChoice hch;clear hch ih;obtain⟨cv,hcv⟩:=ah (aj k s mn mx (.slice p n cp));obtain⟨x0,hx0⟩:=ah ((.agg cv,.nd k s mn mx l):jX);refine⟨x0::(List.range n).flatMap f,?_,fun x hx=>?_,?_⟩
  ·rw[List.map_cons,zn f (fun i t h=>(hf i t h).1) n (by omega),hn,List.take_length,RX.pre,hx0]
  ·rcases List.mem_cons.1 hx with rfl | hx
   ·rw[hx0,hcv];exact HV
   ·obtain⟨i,hi,Zh⟩:=List.mem_flatMap.1 hx
    have iR:i<l.length:=by have:=List.mem_range.1 hi;omega
    exact(hf i _ (aC iR)).2.1 x Zh
  intro WS B c ec hKS hB;cases ec;rw[<-hcv]at hB;have HF:=hid hf;have Mq:=hid hx0;clear hf hv hx0;intro ly J Jx W1 hK hJ NC hY h0;have HY:=hid hY;have HJ:=hid hJ;have HJX:=hid NC;clear hY hJ NC;have B1:=hB.keeps hK hB.lt;have KW:ae (· <n0) w W1:=hKS.tr (hK.mono fun k hk=>aw hk (by have:=hKS.size;omega));have Lr:n0<=W1.heap.size:=by have:=KW.size;omega
  have Xf:∀ k,(k<n0\/k=B)->k<W1.heap.size:=fun k hk=>by rcases hk with hk | rfl;omega;exact B1.lt
  have amm:n<=10000000:=by rw[hn];exact Nat.le_trans (od l) (by rw[RX.size]at hsz;omega)
  refine callsIn_wide (n:=0).1 ?_;refine callsIn_of_wp_marks Tryz.func115 rfl trivial ?_ rfl;simp only[Tryz.ntmps115,List.size_toArray,List.length_cons,List.length_nil,Nat.reduceAdd,Nat.reduceSub,Array.replicate_succ,Array.replicate_zero,List.push_toArray,List.append_toArray,List.nil_append,List.cons_append];have I2:fY (fun k=>k<n0\/k=B) J W1 W1.heap.size (.func (.yield ly) #[] #[]) [] [] (fun k=>k=W1.heap.size) (W1.alloc (.cells #[.func (.yield ly) #[] #[]] 130 (0,0))):=
   ⟨fun k hk=>by rw[hk];simp,rfl,aq.new _ _ _,List.nodup_nil,fun D h=>by(cases h),((Ext.refl _).alloc _).mono fun k hk=>Xf k hk,HJ _ _ _ _ _ h0 (fun k h=>h.elim) (fun k hk=>by rw[hk];simp) (fun k h=>h.elim) (fun k hk=>.inr (by rw[hk];exact aD _)) (.ext ((Ext.refl _).alloc _))⟩
  obtain⟨fn,tm,ym,bd,hy,sN⟩:=HY.out [] x0 _ _ ⟨_,rfl⟩ I2.kJ I2.keep I2.j;have BQ:=hid sN;have I2H:=hid I2;have B2:=hid (B1.alloc (.cells #[.func (.yield ly) #[] #[]] 130 (0,0)));clear sN I2 h0;rw[xX,Mq.out]at hy;obtain⟨Xg,Tr⟩:=ah ((⟨W1.heap.size,0,none⟩:Addr));have q0:(W1.alloc (.cells #[.func (.yield ly) #[] #[]] 130 (0,0))).cell? ⟨W1.heap.size,0,none⟩=some (.func (.yield ly) #[] #[]):=(aq.new _ _ _).cell 0;rw[hcv]at B2 hy;obtain⟨b0,b1,b2,b3,b4,b5,b6,b7⟩:=(show _/\_/\_/\_/\_/\_/\_/\_ from⟨B2.cell 0,B2.cell 1,B2.cell 2,B2.cell 3,B2.cell 4,B2.cell 5,B2.cell 6,B2.cell 7⟩);simp only[aj,List.getElem?_toArray,List.getElem?_cons_zero,List.getElem?_cons_succ]at b0 b1 b2 b3 b4 b5 b6 b7;dsimp only[aj]at hy;clear Tr Xg;have HN:=hid hn;clear hn
  gi_wp2
  refine BQ.mono ?_;rintro e W2 (⟨rfl,fC,hk2⟩ | ⟨rfl,Zl,hk2⟩)
  rotate_left
  ·have Ts:=I2H.kJ
   have h5:=hk2.size;clear hy
   gi_wp2
   exact xB rfl (results_none rfl _ _ _) ⟨⟨_,rfl⟩,_,fun k hk=>⟨(Ts k hk).1,aw (Ts k hk).2 h5⟩,.inr ⟨[x0],⟨_,rfl⟩,Zl⟩⟩
  have I3:=hid (I2H.round hk2 fC);have KB:Hid (aq W2 B (aj k s mn mx (.slice p n cp)) 40):=hid (B2.keeps hk2 (.inl (.inr rfl)));have g7:W2.cell? ⟨B,7,none⟩=some (.slice p n cp):=KB.cell 7;clear hy fC hk2 q0 b0 b1 b2 b3 b4 b5 b6 b7 B2 I2H BQ
  gi_wp2
  have HR:=hid Xf;have Ah:=hid KW;clear g7 KB Xf KW hB hKS hK;refine wpIn_loop (fun a W=>∃ (i:Nat) (Ds:List Nat) (T:Nat->Prop) (u4 u14 u15 u16 u17 u18 u24:Value),i<=n/\a= {tmps:= #[.func (.yield ly) #[] #[],.pointer (some ⟨B,0,none⟩),.pointer (some ⟨W1.heap.size,0,none⟩),undef,u4,undef,.func (.yield ly) #[] #[],.agg (aj k s mn mx (.slice p n cp)),.bool true,.bool false,.pointer (some ⟨B,7,none⟩),.slice p n cp,.int .i64 n,.int .i64 i,u14,u15,u16,u17,u18,undef,undef,undef,undef,undef,u24],defers:=Ds.map U0} /\fY (fun k=>k<n0\/k=B) J W1 W1.heap.size (.func (.yield ly) #[] #[]) (x0::(List.range i).flatMap f) Ds T W)
   (fun a _=>n-(intOf (a.tmps.getD 13 undef)).toNat) ⟨0,[],_,undef,undef,undef,undef,undef,undef,undef,by omega,rfl,I3⟩ ?_
  rintro a w4 ⟨i,Ds,T,u4,u14,u15,u16,u17,u18,u24,hi,rfl,hI⟩;have HI:=hid hI;clear I3;by_cases hlt:i<n
  rotate_left
  ·obtain rfl:i=n:=by omega
   have eT:¬ ((i:Int)<i):=by omega
   clear hI
   gi_wp2
   refine mg (.inl rfl) HI.nodup (fun D hD=>(HI.ds D hD).2) (fun W=>results_none rfl _ _ _) ⟨⟨_,rfl⟩,T,fun k hk=>by rw[jJ];exact HI.kJ k hk,.inl ?_⟩;exact HJ _ _ _ _ _ HI.j HI.kJ (fun k hk=>by rw[jJ];exact HI.kJ k hk) (fun _ h=>h) (fun _ h=>.inl h) (pO Ds w4 fun D hD=>(HI.ds D hD).1)
  have eT:(i:Int)<n:=by omega
  obtain⟨t,ht⟩:∃ t,l[i]? =some t:=⟨_,aC (by have:=HN.out;omega)⟩;have KW4:Hid (ae (· <n0) w w4):=hid (Ah.tr (hI.keep.mono fun k hk=>.inl hk));obtain⟨b,off,p',c',ep,Tt,hb,amn,⟨q0,q1,q2,q3,q4,q5,q6,q7⟩,hrt⟩:=HV.elem ht;have hf9:=(HF.out i t ht).2.2 p' c' hrt b off ep q7;have HFM:=hid ((HF i t ht).2.1);have hcell:∀ j,w4.cell? ⟨b,j,none⟩=w.cell? ⟨b,j,none⟩:=fun j=>KW4.cell (p:=⟨b,j,none⟩) Tt
  replace q0:=(hcell _).trans q0;replace q1:=(hcell _).trans q1;replace q2:=(hcell _).trans q2;replace q3:=(hcell _).trans q3;replace q4:=(hcell _).trans q4;replace q5:=(hcell _).trans q5;replace q6:=(hcell _).trans q6;replace q7:=(hcell _).trans q7;replace hb:b<w4.heap.size:=aw hb KW4.size;subst ep;have HF9:=hid hf9;have HT:=hid ht;clear hf9 hI ht hcell hrt
  gi_wp2_with (gi_at_call 87;refine(callsIn_wide.2 (iu _ _)).mono ?_;rintro e w5 ⟨rfl,rfl⟩)
  refine oW ?_;intro w5 YR;have amp:w5.heap.size=w4.heap.size+2:=by rw[YR];simp
  have x45:Ext w4 w5:=by rw[YR];exact((Ext.refl _).alloc _).alloc _
  have BN:aq w5 (w4.heap.size+1) (aj t.kind t.set t.mn t.mx (.slice p' t.subs.length c')) 40:=by rw[YR];exact(aq.new _ _ _).at (by simp)
  have amq:W1.heap.size<=w4.heap.size:=HI.keep.size;obtain⟨T2,Ts⟩:=ah (fun k=>T k\/k=w4.heap.size\/k=w4.heap.size+1:Nat->Prop)
  have i5:fY (fun k=>k<n0\/k=B) J W1 W1.heap.size (.func (.yield ly) #[] #[]) (x0::(List.range i).flatMap f) Ds T2 w5:=HI.more HJ HR x45 (fun k hk=>by rw[Ts];exact .inl hk) (fun k hk=>by
   rw[Ts]at hk;rcases hk with hk | hk | hk
   ·exact⟨.inl hk,by have:=(HI.kJ k hk).2;omega⟩
   ·exact⟨.inr (by omega),by omega⟩
   ·exact⟨.inr (by omega),by omega⟩)
  have hDs:∀ D∈Ds,D<w5.heap.size:=fun D hD=>(i5.kJ D (i5.ds D hD).1).2
  have af5:T2 (w4.heap.size+1):=by rw[Ts];exact .inr (.inr rfl)
  have hseq:=HF9.out w5 (w4.heap.size+1) (KW4.tr (x45.mono fun k hk=>by have:k<n0:=hk;omega)) BN;have hY5:W1.heap.size<w5.heap.size:=by omega
  have i5':fY (fun k=>k<n0\/k=B) J W1 W1.heap.size (.func (.yield ly) #[] #[]) ((x0::(List.range i).flatMap f)++ []) Ds (fun k=>T2 k\/False) w5:=by
   rw[List.append_nil];exact i5.more HJ HR (Ext.refl _) (fun k h=>.inl h) fun k h=>by
    rcases h with h | h
    ·exact⟨.inl h,(i5.kJ k h).2⟩
    ·exact h.elim
  have Zm:Hid (∀ pre (x:jX),pre++ [x]<+:f i->((x0::(List.range i).flatMap f)++pre)++ [x]<+:x0::(List.range n).flatMap f):=hid fun pre x h=>by
   refine List.IsPrefix.trans ?_ (zo f x0 (show i+1<=n by omega));rw[AO,List.append_assoc];exact List.prefix_append_right_inj _ |>.2 h
  have RA:∀ k,(k<n0\/k=w4.heap.size+1)->k<w5.heap.size:=fun k hk=>by
   rcases hk with hk | hk
   ·have:=HR.out k (.inl hk);omega
   ·omega
  have HI5:=hid i5';have I5K:=hid i5;have Rl:=hid Ts;have XW5:=hid x45;have HDS:=hid hDs;obtain⟨done,hdone⟩:=ah (x0::(List.range i).flatMap f);rw[<-hdone]at HI5 Zm I5K;have HDN:=hid hdone;clear i5 i5' Ts x45 BN YR hDs q0 q1 q2 q3 q4 q5 q6 q7 eT hdone
  refine wpIn_wide.2 (kB (d:=true) hseq (by rfl) jn (by intro _;rfl) RA
   (fun pre Ti W=>fY (fun k=>k<n0\/k=B) J W1 W1.heap.size (.func (.yield ly) #[] #[]) (done++pre) Ds (fun k=>T2 k\/Ti k) W)
   (fun c pre Ti W=>c=.ret/\AP Jx W1 (done++pre) Ds (fun k=>T2 k\/Ti k) W)
   (fun s T T' W W' h h1 h2 h3 h4 h5=>h.move HJ HR (by omega) hY5 HDS h1 h2 h3 h4 h5)
   (fun c s T T' W W' h h1 h2 h3 h4 h5=>⟨h.1,h.2.move HJX (by omega) HDS h1 h2 h3 h4 h5⟩)
   HI5
   (fun z Ti W=>∃ b9:Nat,z.2.2= {tmps:= #[.func (.yield ly) #[] #[],.pointer (some ⟨B,0,none⟩),.pointer (some ⟨W1.heap.size,0,none⟩),undef,.pointer (some ⟨w4.heap.size,0,none⟩),.pointer (some ⟨b9,0,none⟩),.func (.yield ly) #[] #[],.agg (aj k s mn mx (.slice (some ⟨b,off,none⟩) n cp)),.bool true,.bool false,.pointer (some ⟨B,7,none⟩),.slice (some ⟨b,off,none⟩) n cp,.int .i64 n,.int .i64 i,.bool true,.pointer (some ⟨b,off+i*8,none⟩),.agg (aj t.kind t.set t.mn t.mx (.slice p' t.subs.length c')),.agg (aj t.kind t.set t.mn t.mx (.slice p' t.subs.length c')),.func (.func 115) #[] #[.pointer (some ⟨w4.heap.size+1,0,none⟩)],z.2.1.1,undef,undef,undef,undef,u24],defers:=[]} /\w5.heap.size<=b9/\b9<W.heap.size/\¬Ti b9/\(∃ c,z.2.1.1=.agg c/\aq W b9 c 40)/\fY (fun k=>k<n0\/k=B) J W1 W1.heap.size (.func (.yield ly) #[] #[]) (done++z.1) Ds (fun k=>T2 k\/Ti k) W)
   ?hIa ?assign ?body ?done ?stop)
  case hIa=>
   rintro⟨pre,x,a1⟩ Ti MM W W' ⟨b9,e1,e2,e3,e4,⟨c,e5,e6⟩,e7⟩ h1 h2 h3 h4 h5;have hs:=h5.size;refine⟨b9,e1,e2,by omega,fun h=>?_,⟨c,e5,e6.keeps h5.keeps ⟨e3,e4⟩⟩,e7.move HJ HR (by omega) hY5 HDS h1 h2 h3 h4 h5⟩;rcases h4 b9 h with h | h
   ·exact e4 h
   ·omega
  case assign=>
   rintro lr pre ⟨xv,xt⟩ Ti W hp Xh hk hI;have hx:=HFM.out (xv,xt) (hp.subset (by simp));obtain⟨p9,c9,e9⟩:=hx.form;dsimp only at e9;subst e9;have HI9:=hid hI;have HTI:=hid Xh;clear hI Xh hx hp hseq;dsimp only[aj,xX]
   gi_wp2
   have xo:w5.heap.size<=W.heap.size:=hk.size;refine⟨((ae.refl _ _).alloc (fun j hj=>?_) _),W.heap.size,rfl,xo,by simp,fun h=>by have:=(HTI.out _ h).2;omega,⟨_,rfl,aq.new _ _ _⟩,HI9.more HJ HR ((Ext.refl _).alloc _) (fun _ h=>h) fun j hj=>⟨.inl hj,by have:=(HI9.kJ j hj).2;simp;omega⟩⟩;rcases hj with hj | hj
   ·have:=RA j hj;omega
   ·exact(HTI j hj).2
  case body=>
   rintro lr pre ⟨xv,xt⟩ Ti a1 W hp Xh hk rE lh ⟨b9,e1,e2,e3,e4,⟨c9,e5,e6⟩,e7⟩;have hx:=HFM.out (xv,xt) (hp.subset (by simp));obtain⟨p9,cp9,e9⟩:=hx.form;dsimp only at e1 e5 e7 e9;rw[e5]at e9;injection e9 with e9
   subst e1 e5 e9;obtain⟨fn,tm,ym,bd,hy,sN⟩:=HY.out _ _ _ _ (Zm pre _ hp) e7.kJ e7.keep e7.j;have BQ:Hid (RoundIn (Fence.wide.inRound lr) 0 Tryz.prog ly fn tm ym bd W _):=hid sN;have q0:W.cell? ⟨W1.heap.size,0,none⟩=some (.func (.yield ly) #[] #[]):=e7.yb.cell 0;have E7:=hid e7;obtain⟨b0,b1,b2,b3,b4,b5,b6,b7⟩:=(show _/\_/\_/\_/\_/\_/\_/\_ from⟨e6.cell 0,e6.cell 1,e6.cell 2,e6.cell 3,e6.cell 4,e6.cell 5,e6.cell 6,e6.cell 7⟩);simp only[aj,List.getElem?_toArray,List.getElem?_cons_zero,List.getElem?_cons_succ]at b0 b1 b2 b3 b4 b5 b6 b7;dsimp only[aj,xX]at hy;have HTI:=hid Xh;clear sN e7 e6 hx hp lh hseq rE Xh
   gi_wp2
   refine BQ.mono ?_;rintro e W2 (⟨rfl,fC,hk2⟩ | ⟨rfl,Zl,hk2⟩)
   ·clear hy q0 b0 b1 b2 b3 b4 b5 b6 b7
    gi_wp2
    refine⟨hk2.mono fun j hj=>?_,?_⟩
    ·rcases hj with(hj | hj) | hj
     ·exact .inl (.inl hj)
     ·exact .inr (.inl (by rw[hj];exact af5))
     ·exact .inr (.inr hj)
    ·dsimp only
     rw[<-List.append_assoc];exact E7.round hk2 fC
   ·clear hy q0 b0 b1 b2 b3 b4 b5 b6 b7
    gi_wp2
    refine⟨hk2.mono fun j hj=>.inr hj,rfl,?_⟩;rw[<-List.append_assoc];exact⟨fun j hj=>⟨(E7.kJ j hj).1,aw (E7.kJ j hj).2 hk2.size⟩,fun D hD=>⟨(E7.ds D hD).1,(hk2.keep D (E7.ds D hD).1).trans (E7.ds D hD).2⟩,Zl⟩
  case done=>
   rintro D Ti W hD rJ Xh hI jN;have HI9:=hid hI;have oD:=hid jN;clear hI jN hseq;dsimp only
   gi_wp2
   refine⟨⟨i+1,D::Ds,fun k=>T2 k\/Ti k,_,_,_,_,_,_,_,by omega,rfl,?_⟩,?_⟩
   ·have e5:=HI9.out
    rw[HDN.out, <-AO]at e5;refine⟨e5.kJ,e5.y,e5.yb,List.nodup_cons.2 ⟨fun h=>by have:=HDS.out D h;omega,e5.nodup⟩,fun E hE=>?_,e5.keep,e5.j⟩;rcases List.mem_cons.1 hE with rfl | hE
    ·exact⟨.inr rJ,oD⟩
    ·exact e5.ds E hE
   ·simp[intOf];omega
  case stop=>
   rintro D c pre Ti W hD rJ Xh hp ⟨rfl,ho⟩ jN;have HO:=hid ho;clear ho hseq;dsimp only;go_wp2;refine mg (Ds:=D::Ds) (.inr rfl) (List.nodup_cons.2 ⟨fun h=>by have:=HDS.out D h;omega,HI.nodup⟩) (fun E hE=>?_) (fun W=>results_none rfl _ _ _) ⟨⟨_,rfl⟩,fun k=>T2 k\/Ti k,fun k hk=>by rw[jJ];exact HO.kJ k hk,.inr ⟨done++pre,?_,?_⟩⟩
   ·rcases List.mem_cons.1 hE with rfl | hE
    ·exact jN
    ·exact(HO.ds E hE).2
   ·refine List.IsPrefix.trans ?_ (zo f x0 (show i+1<=n by omega))
    rw[AO, <-HDN.out];exact List.prefix_append_right_inj _ |>.2 hp
   ·exact HJX _ _ _ _ _ HO.j HO.kJ (fun k hk=>by rw[jJ];exact HO.kJ k hk) (fun _ h=>h) (fun _ h=>.inl h) (pO (D::Ds) W fun E hE=>by
     rcases List.mem_cons.1 hE with rfl | hE
     ·exact .inr rJ
     ·exact(HO.ds E hE).1)
end
end Go.Proofs.YtpcmhjbehdgdbaaGreatDoor
