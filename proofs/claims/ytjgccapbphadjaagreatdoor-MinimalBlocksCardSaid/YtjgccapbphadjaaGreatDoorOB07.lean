/- rx.nodes: the iterator over the nodes of a tree. -/
import Derived.Test.YtjgccapbphadjaaGreatDoorOB06
set_option maxRecDepth 100000
set_option maxHeartbeats 16000000
open Go.Lib (hid)
namespace Go.Proofs.YtjgccapbphadjaaGreatDoor
section
open Go Go.RowKit Go.Shelf Go.Maps
theorem Tryz.Rh:(Tryz.prog.info? 179).map (fun i=>(i.zero,i.size,i.bytes))=some (some (.agg #[.int .u64 0,.int .u64 0,.int .u64 0,.int .u64 0,.int .u64 0,.int .u64 0,.int .u64 0]),7,56):=by kernel_rfl
def gi:Array Value:= #[.int .u64 0,.int .u64 0,.int .u64 0,.int .u64 0,.int .u64 0,.int .u64 0,.int .u64 0]
theorem IK:ee [0]=gi.toList:=by
 have e:cJ (bW (0:PB))=gi:=by unfold cJ gi;simp only[KH];rfl
 unfold ee;rw[List.flatMap_cons,e];rfl
def McD (base n mb:Nat) (sv fv:Value) (S0 F0:List Value) (j:Nat) (W:World):Prop:=j∈ [5,9,13,16,19]->ar W mb #[sv,fv] 177/\(j=9->W.ownsRow base 56 4 sv n S0)/\(j=16->W.ownsRow base 179 7 fv n F0)
theorem McD.alloc {base n mb:Nat} {sv fv:Value} {S0 F0:List Value} {j:Nat} {W:World} (h:McD base n mb sv fv S0 F0 j W) (o:Obj):McD base n mb sv fv S0 F0 j (W.alloc o):=fun e=>⟨(h e).1.alloc _,fun e2=>((h e).2.1 e2).alloc _,fun e2=>((h e).2.2 e2).alloc _⟩
theorem IM (base M:Nat) (F:Nat->Prop) (m:GM) (s:BS) (mn mx:Int) (a:Value) (X:Nat) (w:World) (h:fL base M F w m) (hX:w.cell? ⟨X,0,none⟩=some (.pointer (some ⟨M,0,none⟩))) (EX:¬F X) (hm:m.cK.length=m.aN.length) (hn:m.aN.length<448): ah 200 #[.agg (aq 2 s mn mx a),.pointer (some ⟨X,0,none⟩)] w fun e w'=>e=.returned (.agg (aB ⟨eI m.aN.length,eI m.aN.length,false⟩))/\(∃ F',fL base M F' w' ⟨m.aN++ [s],m.cK++ [0]⟩/\(∀ x,F x->F' x)/\∀ x,F' x->F x\/w.heap.size<=x)/\ae (fun x=>x<w.heap.size/\¬F x) w w':=by
 obtain⟨iS,hiS,MZ,M7,Na⟩:=info_parts Tryz.zE;obtain⟨iB,YV,IP,IQ,IU⟩:=info_parts Tryz.Rh;obtain⟨sv,fv,h1,h2,h3,h4,h5⟩:=h.row;rw[hm]at h4;obtain⟨n,jB⟩:=ag m.aN.length;rw[<-jB]at h2 h4 hn ⊢;obtain⟨sa,sc,rfl⟩:=ownsRow_form h2;obtain⟨fa,fc,rfl⟩:=ownsRow_form h4;have HM:=hid h;have B1:=hid h1;have O1:=hid h2;have P1:=hid h4;have S3:=hid h3;have S5:=hid h5;have pA:=hid jB;have Kv:=hid hm;have WJ:M<w.heap.size:=h1.lt;have Nb:X<w.heap.size:=World.block_lt_of_cell? _ _ hX;have hXM:X≠M:=fun e=>EX (by rw[e];exact h.fm)
 have rV:base<=w.heap.size:=Nat.le_of_lt (Nat.lt_of_le_of_lt (h.lt M h.fm).1 WJ);have HX:=hid hX;have YX:=hid EX;have c0:w.cell? ⟨M,0,none⟩=some (.slice sa n sc):=h1.cell 0;have c1:w.cell? ⟨M,1,none⟩=some (.slice fa n fc):=h1.cell 1;clear h h1 h2 h3 h4 h5 hm jB hX EX;have hX:=HX.out;unfold aq;go_enter Tryz.func200,Tryz.ntmps200;go_upto_region 2 with fail
 refine aA ?_;intro V hV;have N0:Hid (ar V w.heap.size #[.int .u8 2,.int .u64 (wd s 0).toNat,.int .u64 (wd s 1).toNat,.int .u64 (wd s 2).toNat,.int .u64 (wd s 3).toNat,.int .i64 mn,.int .i64 mx,a] 97):=by rw[hV];exact hid (((ar.new _ _ _).alloc _).alloc _)
 have R0:Hid (ar V (w.heap.size+1) (zeroV false) 181):=by rw[hV];exact hid ((ar.at (ar.new _ _ _) (by simp)).alloc _)
 have Q0:Hid (ar V (w.heap.size+1+1) (zeroV false) 181):=by rw[hV];exact hid (ar.at (ar.new _ _ _) (by simp))
 have E0:Hid (Ext w V):=by rw[hV];exact hid ((((Ext.refl w).alloc _).alloc _).alloc _)
 have hsz:V.heap.size=w.heap.size+1+1+1:=by rw[hV];simp
 clear hV c0 c1 hX;have BV:=hid (B1.ext E0);have OV:=hid (ak O1 E0.below);have PV:=hid (ak P1 E0.below);have lN:=hid hsz;have TS:Hid (V.cell? ⟨X,0,none⟩=some (.pointer (some ⟨M,0,none⟩))):=hid ((E0.keeps.cell (p:=⟨X,0,none⟩) Nb).trans HX);have c0:V.cell? ⟨M,0,none⟩=some (.slice sa n sc):=BV.cell 0;have c1:V.cell? ⟨M,1,none⟩=some (.slice fa n fc):=BV.cell 1;have hX:=TS.out;clear hsz;go_upto_region 3 with fail
 refine RegQ.bL (qX (.slice fa n fc) V.heap.size base n M F (aP m.aN++(encS s).toList) (ee m.cK++gi.toList) (encS s) gi) qX.drew (fun _ _ _ h k=>h.trans k) (by kernel_rfl) 20 [0,0,0,4,12,28,0,64,192,508,0,1024,3072,7168,0,16384,65532,131069,262141,524285,1048575,2097151,4194303] (fun i=>i==5 || i==8 || i==9 || i==13 || i==15 || i==16 || i==19 || i==22) (by kernel_rfl) (fun i=>if i=5 then aX.yw _ (.slice sa n sc)else if i=8 then rU.box _ _ _ _ _ _ _ _ _ _ else if i=9 then rU.acx _ _ _ _ _ _ _ _ _ _ (.slice sa n sc)else if i=13 then aX.yw _ (.slice fa n fc)else if i=15 then rU.acw _ _ _ _ _ _ _ _ _ _ else if i=16 then rU.acy _ _ _ _ _ _ _ _ _ _ else if i=19 then rU.sto _ _ _ _ _ _ _ _ _ _ (.slice sa n sc)else aX.any _) (McD base n M (.slice sa n sc) (.slice fa n fc) (aP m.aN) (ee m.cK)) (fun _ _ _=>⟨BV,fun _=>OV,fun _=>PV⟩) ?_;intro C hC hne;have HC:=hid hC;have hVw:w.heap.size<=V.heap.size:=by rw[lN.out];omega
 have hXv:X<V.heap.size:=by rw[lN.out];omega
 have fX:∀ W: {W//C W},W.1.cell? ⟨X,0,none⟩=some (.pointer (some ⟨M,0,none⟩)):=fun W=>(((hC W.1).1 W.2).keep.cell (p:=⟨X,0,none⟩) ⟨hXv,hXv,YX⟩).trans hX
 have hnV:¬F w.heap.size:=fun e=>by have:=(HM.lt _ e).2;omega
 have g1:∀ W: {W//C W},W.1.cell? ⟨w.heap.size,1,none⟩=some (.int .u64 (wd s 0).toNat):=fun W=>(((hC W.1).1 W.2).keep.cell (p:=⟨w.heap.size,1,none⟩) ⟨N0.lt,N0.lt,hnV⟩).trans (N0.cell 1)
 have g2:∀ W: {W//C W},W.1.cell? ⟨w.heap.size,2,none⟩=some (.int .u64 (wd s 1).toNat):=fun W=>(((hC W.1).1 W.2).keep.cell (p:=⟨w.heap.size,2,none⟩) ⟨N0.lt,N0.lt,hnV⟩).trans (N0.cell 2)
 have g3:∀ W: {W//C W},W.1.cell? ⟨w.heap.size,3,none⟩=some (.int .u64 (wd s 2).toNat):=fun W=>(((hC W.1).1 W.2).keep.cell (p:=⟨w.heap.size,3,none⟩) ⟨N0.lt,N0.lt,hnV⟩).trans (N0.cell 3)
 have g4:∀ W: {W//C W},W.1.cell? ⟨w.heap.size,4,none⟩=some (.int .u64 (wd s 3).toNat):=fun W=>(((hC W.1).1 W.2).keep.cell (p:=⟨w.heap.size,4,none⟩) ⟨N0.lt,N0.lt,hnV⟩).trans (N0.cell 4)
 clear hC c0 c1 hX
 repeat (refine RegQ.au (fun K hK=>?_);first | (refine RegQ.cg rfl ?_;try go_simp;refine hK _ _ ?_;clear hK K) | (refine RegQ.bV rfl rfl ?_;unfold aF;go_simp;refine hK _ _ ?_;clear hK K))
 refine RegQ.au (fun K hK=>?_);refine RegQ.ct rfl rfl (aX.yw _ (.slice sa n sc)) rfl (fun W hW hD hN=>?_) (fun v hv=>?_)
 ·have hD:=(hD (by decide)).1.cell 0
  have hD:W.cell? ⟨M,0,none⟩=some (.slice sa n sc):=hD;clear hW hN hK K;go_simp;exact⟨⟨qX.below (Below.refl _ _),fun j=>by intros;assumption⟩,rfl,trivial⟩
 replace hv:v=_:=hv;subst hv;go_simp;refine hK _ _ ?_;clear hK K
 repeat (refine RegQ.au (fun K hK=>?_);first | (refine RegQ.cg rfl ?_;try go_simp;refine hK _ _ ?_;clear hK K) | (refine RegQ.bV rfl rfl ?_;unfold aF;go_simp;refine hK _ _ ?_;clear hK K))
 refine RegQ.au (fun K hK=>?_);refine RegQ.ct rfl rfl (rU.box (.slice fa n fc) V.heap.size base n M F (aP m.aN++(encS s).toList) (ee m.cK++gi.toList) (encS s) gi) rfl (fun W hW hD hN=>?_) (fun v hv=>?_)
 ·have hMz:=((HC W).1 hW).size
  clear hW hN hK K;go_simp;exact⟨⟨qX.below ((Ext.refl _).alloc _).below,fun j _ _ h=>h.alloc _⟩,⟨_,by omega,rfl⟩,fun b hb=>by cases hb;exact ar.new _ _ _⟩
 obtain⟨bx,zD,rfl⟩:=hv;go_simp;refine hK _ _ ?_;clear hK K;refine RegQ.au (fun K hK=>?_);refine RegQ.ct rfl rfl (rU.acx (.slice fa n fc) V.heap.size base n M F (aP m.aN++(encS s).toList) (ee m.cK++gi.toList) (encS s) gi (.slice sa n sc)) rfl (fun W hW hD hN=>?_) (fun v hv=>?_)
 ·have hMz:=((HC W).1 hW).size
  have rV:ar W bx (encS s) 56:=hN.at 0 rfl (by kernel_rfl) bx rfl;obtain⟨GN,hDo,_⟩:=hD (by decide);have HBW:=hid rV;have Ri:=hid GN;have zb:=hid (hDo rfl);clear hW hN hK K rV GN hDo hD;refine l4 (.tmp 16) (.tmp 19) 26 rfl base 56 iS _ 4 32 Tryz.underlying26 hiS MZ M7 Na rfl (by decide) (.slice sa n sc) n (aP m.aN) rfl zb ⟨bx,0,none⟩ 1 1 (encS s).toList rfl (cO HBW) rfl (by intro u hu;simp[encS]at hu;rcases hu with rfl | rfl | rfl | rfl<;>rfl) (by unfold maxLen;omega) (by omega) (by omega) (by decide) ?_;intro v' w2 ho hg kK;refine⟨⟨qX.apS zb (fun x e=>⟨by rw[lN.out];have:=(O1.lt x e).2;omega,S3 x e⟩) Ri ho hg (kK.imp (fun h=>h.1) id),fun j hj _ h e=>⟨(h e).1.grown hg (fun e2=>cy Ri zb (by decide) M e2.symm rfl),fun e2=>absurd e2 hj,fun e2=>((h e).2.2 e2).kept hg (ownBlock_ne (by decide) ((h e).2.2 e2) zb)⟩⟩,ownsRow_form ho,ho,?_⟩;rcases kK with⟨_,h⟩ | ⟨g,cap,h1,h2,_⟩
  ·exact .inr fun x hx=>by rw[h]at hx;cases hx;omega
  ·exact .inl (by rw[h2,h1];rfl)
 obtain⟨s1,s2,rfl⟩:=hv;go_simp;refine hK _ _ ?_;clear hK K
 repeat (refine RegQ.au (fun K hK=>?_);first | (refine RegQ.cg rfl ?_;try go_simp;refine hK _ _ ?_;clear hK K) | (refine RegQ.bV rfl rfl ?_;unfold aF;go_simp;refine hK _ _ ?_;clear hK K))
 refine RegQ.au (fun K hK=>?_);refine RegQ.ct rfl rfl (aX.yw _ (.slice fa n fc)) rfl (fun W hW hD hN=>?_) (fun v hv=>?_)
 ·have hD:=(hD (by decide)).1.cell 1
  have hD:W.cell? ⟨M,1,none⟩=some (.slice fa n fc):=hD;clear hW hN hK K;go_simp;exact⟨⟨qX.below (Below.refl _ _),fun j=>by intros;assumption⟩,rfl,trivial⟩
 replace hv:v=_:=hv;subst hv;go_simp;refine hK _ _ ?_;clear hK K
 repeat (refine RegQ.au (fun K hK=>?_);first | (refine RegQ.cg rfl ?_;try go_simp;refine hK _ _ ?_;clear hK K) | (refine RegQ.bV rfl rfl ?_;unfold aF;go_simp;refine hK _ _ ?_;clear hK K))
 refine RegQ.au (fun K hK=>?_);refine RegQ.ct rfl rfl (rU.acw (.slice fa n fc) V.heap.size base n M F (aP m.aN++(encS s).toList) (ee m.cK++gi.toList) (encS s) gi) rfl (fun W hW hD hN=>?_) (fun v hv=>?_)
 ·have hMz:=((HC W).1 hW).size
  clear hW hN hK K;go_simp;exact⟨⟨qX.below ((Ext.refl _).alloc _).below,fun j _ _ h=>h.alloc _⟩,⟨_,by omega,rfl⟩,fun b hb=>by cases hb;exact ar.new _ _ _⟩
 obtain⟨by_,ano,rfl⟩:=hv;go_simp;refine hK _ _ ?_;clear hK K;refine RegQ.au (fun K hK=>?_);refine RegQ.ct rfl rfl (rU.acy (.slice fa n fc) V.heap.size base n M F (aP m.aN++(encS s).toList) (ee m.cK++gi.toList) (encS s) gi) rfl (fun W hW hD hN=>?_) (fun v hv=>?_)
 ·have hMz:=((HC W).1 hW).size
  have rV:ar W by_ gi 179:=hN.at 0 rfl (by kernel_rfl) by_ rfl;obtain⟨GN,_,hDo⟩:=hD (by decide);have HBW:=hid rV;have Ri:=hid GN;have zb:=hid (hDo rfl);clear hW hN hK K rV GN hDo hD;refine l4 (.tmp 24) (.tmp 26) 175 rfl base 179 iB _ 7 56 Tryz.underlying175 YV IP IQ IU rfl (by decide) (.slice fa n fc) n (ee m.cK) rfl zb ⟨by_,0,none⟩ 1 1 gi.toList rfl (cO HBW) rfl (by intro u hu;simp[gi]at hu;subst hu;rfl) (by unfold maxLen;omega) (by omega) (by omega) (by decide) ?_;intro v' w2 ho hg kK;refine⟨⟨qX.apF zb (fun x e=>⟨by rw[lN.out];have:=(P1.lt x e).2;omega,S5 x e⟩) Ri ho hg (kK.imp (fun h=>h.1) id),fun j hj _ h e=>⟨(h e).1.grown hg (fun e2=>cy Ri zb (by decide) M e2.symm rfl),fun e2=>((h e).2.1 e2).kept hg (ownBlock_ne (by decide) ((h e).2.1 e2) zb),fun e2=>absurd e2 hj⟩⟩,ownsRow_form ho,ho,?_⟩;rcases kK with⟨_,h⟩ | ⟨g,cap,h1,h2,_⟩
  ·exact .inr fun x hx=>by rw[h]at hx;cases hx;omega
  ·exact .inl (by rw[h2,h1];rfl)
 obtain⟨f1,f2,rfl⟩:=hv;go_simp;refine hK _ _ ?_;clear hK K
 repeat (refine RegQ.au (fun K hK=>?_);first | (refine RegQ.cg rfl ?_;try go_simp;refine hK _ _ ?_;clear hK K) | (refine RegQ.bV rfl rfl ?_;unfold aF;go_simp;refine hK _ _ ?_;clear hK K))
 refine RegQ.au (fun K hK=>?_);refine RegQ.ct rfl rfl (rU.sto (.slice fa n fc) V.heap.size base n M F (aP m.aN++(encS s).toList) (ee m.cK++gi.toList) (encS s) gi (.slice sa n sc)) rfl (fun W hW hD hN=>?_) (fun v hv=>?_)
 ·have hrow:W.ownsRow base 56 4 (.slice s1 (n+1) s2) (n+1) (aP m.aN++(encS s).toList)/\((Value.slice s1 (n+1) s2).ownBlock=(Value.slice sa n sc).ownBlock\/∀ x,(Value.slice s1 (n+1) s2).ownBlock=some x->V.heap.size<=x):=hN.at 3 rfl (by kernel_rfl)
  obtain⟨GN,_⟩:=hD (by decide);have Ri:=hid GN;have hZ:=hid hrow;have hc0:W.cell? ⟨M,0,none⟩=some (.slice sa n sc):=Ri.cell 0;have hz0:=Ri.frozen 0;have hFM:=HM.fm;clear hW hN hK K hrow GN hD;go_simp;refine⟨⟨qX.store _ Ri ⟨_,_,rfl⟩ hFM (by omega),fun j hj hb h e=>?_⟩,trivial,_,_,Ri.set 0 _,?_,hZ.2⟩
  ·exfalso
   simp at e;rcases e with rfl | rfl | rfl | rfl | rfl
   ·revert hb;decide
   ·revert hb;decide
   ·revert hb;decide
   ·revert hb;decide
   ·exact hj rfl
  ·exact aj hZ.1 ((ae.refl (· ≠M) W).setCell (p:=⟨M,0,none⟩) (fun h=>h rfl) _) fun x hx=>cy Ri hZ.1 (by decide) x hx
 go_simp;refine hK _ _ ?_;clear hK K;refine RegQ.bM (fun W hW hH=>?_);have ki:=(HC.out W).1 hW;obtain⟨ta,tc,hb1,hrow,kK⟩:∃ a c,ar W M #[.slice a (n+1) c,.slice fa n fc] 177/\W.ownsRow base 56 4 (.slice a (n+1) c) (n+1) (aP m.aN++(encS s).toList)/\((Value.slice a (n+1) c).ownBlock=(Value.slice sa n sc).ownBlock\/∀ x,(Value.slice a (n+1) c).ownBlock=some x->V.heap.size<=x):=hH _ (aw (show _=some _ from rfl:_[0]? =some _));have FW:Hid (W.ownsRow base 179 7 (.slice f1 (n+1) f2) (n+1) (ee m.cK++gi.toList)/\((Value.slice f1 (n+1) f2).ownBlock=(Value.slice fa n fc).ownBlock\/∀ x,(Value.slice f1 (n+1) f2).ownBlock=some x->V.heap.size<=x)):=hid (hH _ (aw (show _=some _ from rfl:_[1]? =some _)));have BW:=hid hb1;have SW:=hid hrow;have SWo:=hid kK;have KV:=hid ki.keep;have hWs:V.heap.size<=W.heap.size:=ki.size;clear ki hW hH HC hne fX g1 g2 g3 g4 hb1 hrow kK;have k0:W.cell? ⟨M,0,none⟩=some (.slice ta (n+1) tc):=BW.cell 0;have k1:W.cell? ⟨M,1,none⟩=some (.slice fa n fc):=BW.cell 1;have z1:=BW.frozen 1;go_upto_region 4 with fail
 refine aA ?_;intro W2 hW2;have hk2:ae (· ≠M) W W2:=by rw[hW2];exact(ae.refl (· ≠M) W).setCell (p:=⟨M,1,none⟩) (fun h=>h rfl) _
 have BM:Hid (ar W2 M #[.slice ta (n+1) tc,.slice f1 (n+1) f2] 177):=hid (by rw[hW2];exact BW.set 1 _);have S2:=hid (aj SW hk2 fun x hx=>cy BW SW (by decide) x hx);have F2:=hid (aj FW.1 hk2 fun x hx=>cy BW FW.1 (by decide) x hx);have KA:Hid (ae (fun x=>x<V.heap.size/\¬F x) V W2):=hid ((KV.mono fun x hx=>⟨hx.1,hx.1,hx.2⟩).tr (hk2.mono fun x hx e=>hx.2 (by rw[e];exact HM.fm)));clear hW2 hk2 k0 k1 z1 BW SW KV;have oK:∀ k,w.heap.size<=k->¬F k:=fun k hk e=>by have:=(HM.lt k e).2;omega
 have hV2:w.heap.size+1+1<V.heap.size:=by rw[lN.out];omega
 have hV1:w.heap.size+1<V.heap.size:=by rw[lN.out];omega
 have R2:Hid (ar W2 (w.heap.size+1) (zeroV false) 181):=hid (R0.keeps KA ⟨hV1,oK _ (by omega)⟩);obtain⟨z,hz⟩:=ag (0:PB);have pB:=iE false;rw[<-hz]at pB;have Q2:Hid (ar W2 (w.heap.size+1+1) (aB ⟨z,z,false⟩) 181):=hid (by rw[pB];exact Q0.keeps KA ⟨hV2,oK _ (by omega)⟩);have hzb:z ||| eI n=eI n:=by rw[hz];exact BitVec.zero_or
 have HZB:=hid hzb;have KC:=hid oK;clear hz pB hzb oK R0 Q0;go_wp2_with fail
 refine(Ad (bW z) (w.heap.size+1+1) 0 n hn W2 (fZ.fst Q2) (Q2.frozen _)).mono ?_;rintro e w3 ⟨⟨u,rfl⟩,hx⟩;have kk:ae (fun x=>x<W2.heap.size/\x≠w.heap.size+1+1) W2 w3:=(((ae.refl (· ≠w.heap.size+1+1) W2).setCell (p:=⟨w.heap.size+1+1,_,none⟩) (fun h=>h rfl) _).mono fun x hx=>hx.2).tr (hx.mono fun x hx=>hx.1);have hq:ar w3 (w.heap.size+1+1) (aB ⟨z ||| eI n,z,false⟩) 181:=by rw[<-Rf z z false hn];exact(Q2.set _ _).keeps hx Q2.lt
 have KA2:Hid (ae (fun x=>x<w.heap.size/\¬F x) V W2):=hid (KA.mono fun x hx=>⟨by have:=hx.1;omega,hx.2⟩);have BM2:=BM;have hW2:V.heap.size<=W2.heap.size:=KA.size;have Q3:Hid (ar w3 (w.heap.size+1+1) (aB ⟨z ||| eI n,z,false⟩) 181):=hid hq;have R3:=hid (R2.keeps kk ⟨R2.lt,by omega⟩);have BM3:=hid (BM2.keeps kk ⟨BM2.lt,by omega⟩);have TU:∀ x,x=w.heap.size+1+1->∀ (v:Value),(v.ownBlock=(Value.slice sa n sc).ownBlock\/v.ownBlock=(Value.slice fa n fc).ownBlock\/∀ x,v.ownBlock=some x->V.heap.size<=x)->v.ownBlock≠some x:=fun x hx v hv e=>by
  rcases hv with h | h | h
  ·have:=(O1.lt x (by rw[<-h,e])).2;omega
  ·have:=(P1.lt x (by rw[<-h,e])).2;omega
  ·have:=h x e;omega
 have S3:=hid (aj S2 kk fun x hx=>⟨(S2.lt x hx).2,fun e=>TU x e _ (SWo.elim .inl fun h=>.inr (.inr h)) hx⟩);have F3:=hid (aj F2 kk fun x hx=>⟨(F2.lt x hx).2,fun e=>TU x e _ (FW.2.elim (fun h=>.inr (.inl h)) fun h=>.inr (.inr h)) hx⟩);have WM:Hid (ae (fun x=>x<w.heap.size/\¬F x) V w3):=hid ((KA2).tr (kk.mono fun x hx=>⟨by have:=hx.1;omega,by have:=hx.1;omega⟩));clear hx kk TU hq;clear Q2 R2 BM2 BM S2 F2 KA2 KA;have hw3:V.heap.size<=w3.heap.size:=WM.size;go_wp2_with fail
 refine(Ad (bW z) (w.heap.size+1+1) 7 n hn w3 (fZ.cW Q3) (Q3.frozen _)).mono ?_;rintro e w4 ⟨⟨u,rfl⟩,hx⟩;have kk:ae (fun x=>x<w3.heap.size/\x≠w.heap.size+1+1) w3 w4:=(((ae.refl (· ≠w.heap.size+1+1) w3).setCell (p:=⟨w.heap.size+1+1,_,none⟩) (fun h=>h rfl) _).mono fun x hx=>hx.2).tr (hx.mono fun x hx=>hx.1);have hq:ar w4 (w.heap.size+1+1) (aB ⟨z ||| eI n,z ||| eI n,false⟩) 181:=by rw[<-Rg (z ||| eI n) z false hn];exact(Q3.set _ _).keeps hx Q3.lt
 have Q4:Hid (ar w4 (w.heap.size+1+1) (aB ⟨z ||| eI n,z ||| eI n,false⟩) 181):=hid hq;have R4:=hid (R3.keeps kk ⟨R3.lt,by omega⟩);have BM4:=hid (BM3.keeps kk ⟨BM3.lt,by omega⟩);have TU:∀ x,x=w.heap.size+1+1->∀ (v:Value),(v.ownBlock=(Value.slice sa n sc).ownBlock\/v.ownBlock=(Value.slice fa n fc).ownBlock\/∀ x,v.ownBlock=some x->V.heap.size<=x)->v.ownBlock≠some x:=fun x hx v hv e=>by
  rcases hv with h | h | h
  ·have:=(O1.lt x (by rw[<-h,e])).2;omega
  ·have:=(P1.lt x (by rw[<-h,e])).2;omega
  ·have:=h x e;omega
 have S4:=hid (aj S3 kk fun x hx=>⟨(S3.lt x hx).2,fun e=>TU x e _ (SWo.elim .inl fun h=>.inr (.inr h)) hx⟩);have F4:=hid (aj F3 kk fun x hx=>⟨(F3.lt x hx).2,fun e=>TU x e _ (FW.2.elim (fun h=>.inr (.inl h)) fun h=>.inr (.inr h)) hx⟩);have KA4:Hid (ae (fun x=>x<w.heap.size/\¬F x) V w4):=hid ((WM).tr (kk.mono fun x hx=>⟨by have:=hx.1;omega,by have:=hx.1;omega⟩));clear hx kk TU hq;clear Q3 R3 BM3 S3 F3 WM;rw[HZB.out]at Q4;go_wp2_with (first | (refine aZ rfl 181 (.tmp 4) rfl (w.heap.size+1+1) rfl (aB ⟨eI n,eI n,false⟩) _ Q4.range Tryz.underlying181 rfl (bF _) ?_) | (refine wpList_store_row rfl 181 (.tmp 3) (.tmp 38) rfl (w.heap.size+1) (aB ⟨eI n,eI n,false⟩) rfl rfl 181 (zeroV false) R4 (bF _) rfl (eB _) ?_;refine Hid.out ?_));refine hid ?_;obtain⟨V3,cX⟩:=ag (w4.setRow (w.heap.size+1) (aB ⟨eI n,eI n,false⟩));rw[<-cX];have R9:Hid (ar V3 (w.heap.size+1) (aB ⟨eI n,eI n,false⟩) 181):=by rw[cX];exact hid R4.setRow
 have K9:ae (· ≠w.heap.size+1) w4 V3:=by rw[cX];exact bJ _ _ _
 clear cX;go_wp2;obtain⟨m0,m1,m2,m3,m4,m5,m6,m7,m8,m9,m10,m11,m12,m13,m14⟩:=R9.part;dsimp only at m0 m1 m2 m3 m4 m5 m6 m7 m8 m9 m10 m11 m12 m13 m14;refine bodyPost_ret (v:=.agg (aB ⟨eI n,eI n,false⟩)) (by simp[results,Tryz.results200,aB,go_sem,m0,m1,m2,m3,m4,m5,m6,m7,m8,m9,m10,m11,m12,m13,m14]) rfl ⟨rfl,?_,?_⟩
 ·have TU:∀ x,x=w.heap.size+1->∀ (v:Value),(v.ownBlock=(Value.slice sa n sc).ownBlock\/v.ownBlock=(Value.slice fa n fc).ownBlock\/∀ x,v.ownBlock=some x->V.heap.size<=x)->v.ownBlock≠some x:=fun x hx v hv e=>by
   rcases hv with h | h | h
   ·have:=(O1.lt x (by rw[<-h,e])).2;omega
   ·have:=(P1.lt x (by rw[<-h,e])).2;omega
   ·have:=h x e;omega
  have S9:=aj S4 K9 fun x hx e=>TU x e _ (SWo.elim .inl fun h=>.inr (.inr h)) hx
  have F9:=aj F4 K9 fun x hx e=>TU x e _ (FW.2.elim (fun h=>.inr (.inl h)) fun h=>.inr (.inr h)) hx
  have B9:=BM4.keeps K9 (by omega);have hs:=K9.size;have II:=KA4.size;have es:aP (m.aN++ [s])=aP m.aN++(encS s).toList:=by rw[gO];simp[aP]
  have ef:ee (m.cK++ [0])=ee m.cK++gi.toList:=by rw[Ci,IK]
  have ls:(m.aN++ [s]).length=n+1:=by rw[aJ, <-pA.out];rfl
  have lf:(m.cK++ [(0:PB)]).length=n+1:=by rw[aJ,Kv.out, <-pA.out];rfl
  refine⟨fun x=>F x\/(Value.slice ta (n+1) tc).ownBlock=some x\/(Value.slice f1 (n+1) f2).ownBlock=some x,⟨.inl HM.fm,fun x hx=>?_,_,_,B9,?_,fun x hx=>.inr (.inl hx),?_,fun x hx=>.inr (.inr hx)⟩,fun x hx=>.inl hx,fun x hx=>?_⟩
  ·rcases hx with h | h | h
   ·have:=HM.lt x h;exact⟨this.1,by omega⟩
   ·exact S9.lt x h
   ·exact F9.lt x h
  ·rw[ls,es];exact S9
  ·rw[lf,ef];exact F9
  ·rcases hx with h | h | h
   ·exact .inl h
   ·rcases SWo.out with h2 | h2
    ·exact .inl (S3 x (by rw[<-h2];exact h))
    ·exact .inr (by have:=h2 x h;omega)
   ·rcases FW.2 with h2 | h2
    ·exact .inl (S5 x (by rw[<-h2];exact h))
    ·exact .inr (by have:=h2 x h;omega)
 ·exact((E0.keeps.mono fun x hx=>hx.1).tr KA4).tr (K9.mono fun x hx=>by have:=hx.1;omega)
def jV (base M:Nat) (F:Nat->Prop) (w:World) (m:GM) (p:GP) (e:Ending) (w':World):Prop:=
 e=.returned (.agg (aB p))/\(∃ F',fL base M F' w' m/\(∀ x,F x->F' x)/\∀ x,F' x->F x\/w.heap.size<=x)/\ae (fun x=>x<w.heap.size/\¬F x) w w'/\w.heap.size<w'.heap.size
def IV (n0:Nat) (t:RX):Prop:=∀ (base M:Nat) (F:Nat->Prop) (m:GM) (w:World) (v:Value),n0<=base->fL base M F w m->aK (· <n0) w v t->m.ok->m.cK.length=m.aN.length->m.aN.length+t.cnt<=448->
 ah 102 #[.pointer (some ⟨M,0,none⟩),v] w (jV base M F w (t.dG m).1 (t.dG m).2)
theorem Vb (n0 base M:Nat) (F:Nat->Prop) (m:GM) (k:Nat) (s:BS) (mn mx:Int) (t:RX) (l:List RX) (p:Option Addr) (n c:Nat) (X:Nat) (w:World) (dw:n0<=base) (h:fL base M F w m) (hr:aK (· <n0) w (.agg (aq k s mn mx (.slice p n c))) (.nd k s mn mx (t::l))) (ht:IV n0 t) (hX:w.cell? ⟨X,0,none⟩=some (.pointer (some ⟨M,0,none⟩))) (EX:¬F X) (ok:m.ok) (hm:m.cK.length=m.aN.length) (hn:m.aN.length+t.cnt<=448): ah 207 #[.agg (aq k s mn mx (.slice p n c)),.pointer (some ⟨X,0,none⟩)] w (jV base M F w (t.dG m).1 (t.dG m).2):=by
 obtain⟨b,off,p',c',rfl,hb,rV,mQ,⟨e0,e1,e2,e3,e4,e5,e6,e7⟩,hrt⟩:=hr.elem (i:=0) (t:=t) rfl;have hlen:n=l.length+1:=by obtain⟨p2,c2,e⟩:=hr.form;simp[aq,RX.subs,RX.kind,RX.set,RX.mn,RX.mx]at e;exact e.2.1
 have fH:0<n:=by omega
 have HM:=hid h;have Vc:=hid hrt;have HT:=hid ht;have km:=hid ok;have Kv:=hid hm;have HX:=hid hX;have YX:=hid EX;have Nb:X<w.heap.size:=World.block_lt_of_cell? _ _ hX;have WJ:M<w.heap.size:=(h.lt M h.fm).2;simp only[Nat.zero_mul,Nat.add_zero]at e0 e1 e2 e3 e4 e5 e6 e7;have E:=hid (And.intro e0 (And.intro e1 (And.intro e2 (And.intro e3 (And.intro e4 (And.intro e5 (And.intro e6 e7)))))));clear h hr hrt ht ok hm hX EX hlen e0 e1 e2 e3 e4 e5 e6 e7;obtain⟨m2,p2,wX⟩:∃ m2 p2,t.dG m=(m2,p2):=⟨_,_,rfl⟩;rw[wX];dsimp only;have HMP:=hid wX;clear wX;unfold aq;go_enter Tryz.func207,Tryz.ntmps207;go_upto_region 1 with fail
 refine aA ?_;intro V hV;have N0:Hid (ar V w.heap.size #[.int .u8 k,.int .u64 (wd s 0).toNat,.int .u64 (wd s 1).toNat,.int .u64 (wd s 2).toNat,.int .u64 (wd s 3).toNat,.int .i64 mn,.int .i64 mx,.slice (some ⟨b,off,none⟩) n c] 97):=by rw[hV];exact hid ((ar.new _ _ _).alloc _)
 have R0:Hid (ar V (w.heap.size+1) (zeroV false) 181):=by rw[hV];exact hid (ar.at (ar.new _ _ _) (by simp))
 have E0:Hid (Ext w V):=by rw[hV];exact hid (((Ext.refl w).alloc _).alloc _)
 have lN:Hid (V.heap.size=w.heap.size+1+1):=hid (by rw[hV];simp);clear hV;have TS:V.cell? ⟨X,0,none⟩=some (.pointer (some ⟨M,0,none⟩)):=(E0.keeps.cell (p:=⟨X,0,none⟩) Nb).trans HX;have ec:∀ (o:Nat) (u:Value),w.cell? ⟨b,o,none⟩=some u->V.cell? ⟨b,o,none⟩=some u:=fun o u h=>(E0.keeps.cell (p:=⟨b,o,none⟩) rV).trans h
 obtain⟨e0,e1,e2,e3,e4,e5,e6,e7⟩:=E.out;replace e0:=ec _ _ e0;replace e1:=ec _ _ e1;replace e2:=ec _ _ e2;replace e3:=ec _ _ e3;replace e4:=ec _ _ e4;replace e5:=ec _ _ e5;replace e6:=ec _ _ e6;replace e7:=ec _ _ e7;have n7:V.cell? ⟨w.heap.size,7,none⟩=some (.slice (some ⟨b,off,none⟩) n c):=N0.cell 7;have WN:b<V.heap.size:=by rw[lN.out];omega
 have hXv:X<V.heap.size:=by rw[lN.out];omega
 clear ec E;refine aL false (fun _=>False) (by kernel_rfl) 5 [0,0,2,6,14,31,63] (fun i=>i==5 || i==6) (by kernel_rfl) (fun _=>aX.any _) ?_;intro C hC hne;have HC:=hid hC;have f0:=aC hC (p:=⟨b,off,none⟩) WN (fun h=>h) e0;have f1:=aC hC (p:=⟨b,off+1,none⟩) WN (fun h=>h) e1;have f2:=aC hC (p:=⟨b,off+2,none⟩) WN (fun h=>h) e2;have f3:=aC hC (p:=⟨b,off+3,none⟩) WN (fun h=>h) e3;have f4:=aC hC (p:=⟨b,off+4,none⟩) WN (fun h=>h) e4;have f5:=aC hC (p:=⟨b,off+5,none⟩) WN (fun h=>h) e5;have f6:=aC hC (p:=⟨b,off+6,none⟩) WN (fun h=>h) e6;have f7:=aC hC (p:=⟨b,off+7,none⟩) WN (fun h=>h) e7;have fX:=aC hC (p:=⟨X,0,none⟩) hXv (fun h=>h) TS;have fN:=aC hC (p:=⟨w.heap.size,7,none⟩) N0.lt (fun h=>h) n7;clear hC e0 e1 e2 e3 e4 e5 e6 e7 TS n7
 repeat (refine au (fun K hK=>?_);first | (refine cg rfl ?_;try go_simp;refine hK _ _ ?_;clear hK K) | (refine bV rfl rfl ?_;unfold aF;go_simp;refine hK _ _ ?_;clear hK K))
 refine bM (fun W hW hH=>?_);have ki:=(HC.out W).1 hW;have MW:Hid (fL base M F W m):=hid ((HM.keeps E0.keeps fun x hx=>(HM.lt x hx).2).keeps (ae.ai ki.below fun _ h=>h:ae (· <V.heap.size) V W) fun x hx=>by have:=(HM.lt x hx).2;rw[lN.out];omega);have IW:Hid (aK (· <n0) W (.agg (aq t.kind t.set t.mn t.mx (.slice p' t.subs.length c'))) t):=hid ((Vc.keeps E0.keeps fun x hx=>by have:=(HM.lt _ HM.fm).1;omega).keeps (ae.ai ki.below fun _ h=>h:ae (· <V.heap.size) V W) fun x hx=>by have:=(HM.lt _ HM.fm).1;rw[lN.out];omega);have RW:=hid (R0.below ki.below R0.lt);have KW:Hid (ae (· <w.heap.size) w W):=hid (E0.keeps.tr (ae.ai ki.below fun x hx=>by rw[lN.out];omega:ae (· <w.heap.size) V W));have s7:w.heap.size+1+1<=W.heap.size:=by rw[<-lN.out];exact ki.below.size
 clear ki hW hH HC hne f0 f1 f2 f3 f4 f5 f6 f7 fX fN;have CM:Hid (ah 102 #[.pointer (some ⟨M,0,none⟩),.agg (aq t.kind t.set t.mn t.mx (.slice p' t.subs.length c'))] W (jV base M F W (t.dG m).1 (t.dG m).2)):=hid (HT.out base M F m W _ dw MW IW km Kv hn);rw[HMP.out]at CM;dsimp only at CM;clear MW IW R0;go_wp2_with fail
 refine CM.mono ?_;rintro e w3 ⟨rfl,hF',hx,hsz⟩;have oK:∀ k,w.heap.size<=k->¬F k:=fun k hk e=>by have:=(HM.lt k e).2;omega
 have R3:Hid (ar w3 (w.heap.size+1) (zeroV false) 181):=hid (RW.keeps hx ⟨by omega,oK _ (by omega)⟩);have Rj:=hid hF';have HK:=hid hx;clear hx hF' CM;go_wp2_with (first | (refine wpList_store_row rfl 181 (.tmp 3) (.tmp 9) rfl (w.heap.size+1) (aB p2) rfl rfl 181 (zeroV false) R3 (bF _) rfl (eB _) ?_;refine Hid.out ?_));refine hid ?_;obtain⟨V3,cX⟩:=ag (w3.setRow (w.heap.size+1) (aB p2));rw[<-cX];have R9:Hid (ar V3 (w.heap.size+1) (aB p2) 181):=by rw[cX];exact hid R3.setRow
 have K9:ae (· ≠w.heap.size+1) w3 V3:=by rw[cX];exact bJ _ _ _
 clear cX;go_wp2;obtain⟨m0,m1,m2,m3,m4,m5,m6,m7,m8,m9,m10,m11,m12,m13,m14⟩:=R9.part;refine bodyPost_ret (v:=.agg (aB p2)) (by simp[results,Tryz.results207,aB,go_sem,m0,m1,m2,m3,m4,m5,m6,m7,m8,m9,m10,m11,m12,m13,m14]) rfl ⟨rfl,?_,?_,?_⟩
 ·obtain⟨F',h1,h2,h3⟩:=Rj.out
  refine⟨F',⟨h1.fm,fun x hx=>⟨(h1.lt x hx).1,aD (h1.lt x hx).2 K9.size⟩,?_⟩,h2,fun x hx=>(h3 x hx).imp id fun h=>by omega⟩;exact(h1.keeps K9 fun x hx e=>by rcases h3 x hx with h | h;exact oK _ (by omega) h;omega).row
 ·exact(KW.mono fun x hx=>hx.1).tr ((HK.mono fun x hx=>⟨by have:=hx.1;omega,hx.2⟩).tr (K9.mono fun x hx=>by have:=hx.1;omega))
 ·have:=K9.size;omega
end
section
open Go Go.RowKit
theorem EY:∀ (a b:List RX) (st:GM×GP),RX.fW (a++b) st=RX.fW b (RX.fW a st)
 | [],_,_=>by rw[List.nil_append,RX.fW]
 | t::a,b,st=>by rw[List.cons_append,RX.fW,RX.fW];exact EY a b _
theorem EZ:∀ (a b:List RX) (st:GM×GP),RX.jd (a++b) st=RX.jd b (RX.jd a st)
 | [],_,_=>by rw[List.nil_append,RX.jd]
 | t::a,b,st=>by rw[List.cons_append,RX.jd,RX.jd];exact EZ a b _
theorem wY:∀ (a b:List RX),RX.gI (a++b)=RX.gI a+RX.gI b
 | [],_=>by rw[List.nil_append,RX.gI,Nat.zero_add]
 | t::a,b=>by rw[List.cons_append,RX.gI,RX.gI,wY a b,Nat.add_assoc]
theorem Ah (l:List RX) (k:Nat):RX.gI (l.take k)<=RX.gI l:=by have h:=wY (l.take k) (l.drop k);rw[List.take_append_drop]at h;omega
theorem Ck {α:Type} {l:List α} {k:Nat} {t:α} (h:l[k]? =some t):l.take (k+1)=l.take k++ [t]:=by rw[List.take_add_one,h];rfl
theorem Ai {l:List RX} {k:Nat} {t:RX} (h:l[k]? =some t):RX.gI (l.take (k+1))=RX.gI (l.take k)+t.cnt:=by rw[Ck h,wY,RX.gI,RX.gI,Nat.add_zero]
theorem Nc {l:List RX} {k:Nat} {t:RX} (h:l[k]? =some t) (st:GM×GP):RX.fW (l.take (k+1)) st=((t.dG (RX.fW (l.take k) st).1).1,⟨(RX.fW (l.take k) st).2.fst ||| (t.dG (RX.fW (l.take k) st).1).2.fst,(RX.fW (l.take k) st).2.cW ||| (t.dG (RX.fW (l.take k) st).1).2.cW,(RX.fW (l.take k) st).2.emp || (t.dG (RX.fW (l.take k) st).1).2.emp⟩):=by rw[Ck h,EY,RX.fW,RX.fW]
theorem Nd {l:List RX} {k:Nat} {t:RX} (h:l[k]? =some t) (st:GM×GP):RX.jd (l.take (k+1)) st=cR (t.dG (RX.jd (l.take k) st).1).1 (RX.jd (l.take k) st).2 (t.dG (RX.jd (l.take k) st).1).2:=by rw[Ck h,EZ,RX.jd,RX.jd]
theorem Rk {l:List RX} (hl:∀ t∈l,t.full=true) {m:GM} (hm:m.ok) (e:Bool) (k:Nat):jk m (RX.fW (l.take k) (m,⟨0,0,e⟩)) (RX.gI (l.take k)):=by have h:=Ce (l.take k) (fun t ht m hm=>nO t (hl t (List.mem_of_mem_take ht)) m hm) m (m,⟨0,0,e⟩) 0 ⟨hm,rfl,⟨fun p hp=>by simp at hp,fun p hp=>by simp at hp⟩⟩;rw[Nat.zero_add]at h;exact h
theorem Rl {l:List RX} (hl:∀ t∈l,t.full=true) {m:GM} (hm:m.ok) (e:Bool) (k:Nat):jk m (RX.jd (l.take k) (m,⟨0,0,e⟩)) (RX.gI (l.take k)):=by have h:=Cc (l.take k) (fun t ht m hm=>nO t (hl t (List.mem_of_mem_take ht)) m hm) m (m,⟨0,0,e⟩) 0 ⟨hm,rfl,⟨fun p hp=>by simp at hp,fun p hp=>by simp at hp⟩⟩;rw[Nat.zero_add]at h;exact h
end
section
open Go Go.RowKit Go.Shelf Go.Maps
def Vd (base M:Nat) (F:Nat->Prop) (st:GM×GP) (O:Nat) (V W:World):Prop:=
 (∃ F',fL base M F' W st.1/\(∀ x,F x->F' x)/\∀ x,F' x->F x\/V.heap.size<=x)/\ar W O (aB st.2) 181/\ae (fun x=>x<V.heap.size/\¬F x/\x≠O) V W
theorem Rm (n0 base M:Nat) (F:Nat->Prop) (m:GM) (k:Nat) (s:BS) (mn mx:Int) (l:List RX) (p:Option Addr) (n c:Nat) (X:Nat) (w:World) (dw:n0<=base) (h:fL base M F w m) (hr:aK (· <n0) w (.agg (aq k s mn mx (.slice p n c))) (.nd k s mn mx l)) (ht:∀ t∈l,IV n0 t) (hf:∀ t∈l,t.full=true) (hX:w.cell? ⟨X,0,none⟩=some (.pointer (some ⟨M,0,none⟩))) (EX:¬F X) (ok:m.ok) (hm:m.cK.length=m.aN.length) (hn:m.aN.length+RX.gI l<=448) (hL:l.length<=10000): ah 204 #[.agg (aq k s mn mx (.slice p n c)),.pointer (some ⟨X,0,none⟩)] w (jV base M F w (RX.fW l (m,⟨0,0,false⟩)).1 (RX.fW l (m,⟨0,0,false⟩)).2):=by
 have hlen:n=l.length:=by obtain⟨p2,c2,e⟩:=hr.form;simp[aq,RX.subs,RX.kind,RX.set,RX.mn,RX.mx]at e;exact e.2.1
 have hn9:n<=10000:=by omega
 have HM:=hid h;have HR:=hid hr;have HT:=hid ht;have TW:=hid hf;have km:=hid ok;have Kv:=hid hm;have HX:=hid hX;have YX:=hid EX;have WQ:=hid hlen;have Nb:X<w.heap.size:=World.block_lt_of_cell? _ _ hX;have WJ:M<w.heap.size:=(h.lt M h.fm).2;have rV:n0<=w.heap.size:=by have:=(h.lt M h.fm).1;omega
 obtain⟨st,hst⟩:=ag (RX.fW l (m,⟨0,0,false⟩));rw[<-hst];have HST:=hid hst;clear h hr ht hf ok hm hX EX hlen hst;unfold aq;go_enter Tryz.func204,Tryz.ntmps204;go_upto_region 2 with fail
 refine aA ?_;intro V hV;have N0:Hid (ar V w.heap.size #[.int .u8 k,.int .u64 (wd s 0).toNat,.int .u64 (wd s 1).toNat,.int .u64 (wd s 2).toNat,.int .u64 (wd s 3).toNat,.int .i64 mn,.int .i64 mx,.slice p n c] 97):=by rw[hV];exact hid (((ar.new _ _ _).alloc _).alloc _)
 have R0:Hid (ar V (w.heap.size+1) (zeroV false) 181):=by rw[hV];exact hid ((ar.at (ar.new _ _ _) (by simp)).alloc _)
 have O0:Hid (ar V (w.heap.size+1+1) (zeroV false) 181):=by rw[hV];exact hid (ar.at (ar.new _ _ _) (by simp))
 have E0:Hid (Ext w V):=by rw[hV];exact hid ((((Ext.refl w).alloc _).alloc _).alloc _)
 have lN:Hid (V.heap.size=w.heap.size+1+1+1):=hid (by rw[hV];simp);clear hV;have n7:V.cell? ⟨w.heap.size,7,none⟩=some (.slice p n c):=N0.cell 7;have yY:w.heap.size+1+1<V.heap.size:=by rw[lN.out];omega
 have MV:Hid (fL base M F V m):=hid (HM.keeps E0.keeps fun x hx=>(HM.lt x hx).2);have TS:V.cell? ⟨X,0,none⟩=some (.pointer (some ⟨M,0,none⟩)):=(E0.keeps.cell (p:=⟨X,0,none⟩) Nb).trans HX;have HXV:=hid TS;clear TS;go_wp2;clear n7;go_loopw [11] (fun iv W=>∃ k:Nat,k<=n/\iv=.int .i64 k/\Vd base M F (RX.fW (l.take k) (m,⟨0,0,false⟩)) (w.heap.size+1+1) V W) (fun iv _=>n-(intOf iv).toNat);case atStart=>
  refine⟨0,by omega,rfl,?_⟩;rw[List.take_zero,RX.fW];exact⟨⟨F,MV,fun _ h=>h,fun _ h=>.inl h⟩,by rw[iE];exact O0,ae.refl _ _⟩
 case round=>
  obtain⟨k,hk,rfl,hI⟩:=hrel;obtain⟨wo,rfl⟩:=ag (wr:World);have HI:=hid hI;clear hI;by_cases hlt:k<n
  ·have eE:(k:Int)<n:=by omega
   obtain⟨t,eT⟩:∃ t,l[k]? =some t:=⟨_,az (by have:=WQ.out;omega)⟩;have wZ:∀ x,x<n0->¬F x:=fun x hx e=>by have:=(HM.lt x e).1;omega
   obtain⟨b,off,p',c',rfl,hb,hbw2,mQ,⟨e0,e1,e2,e3,e4,e5,e6,e7⟩,hrt⟩:=HR.elem eT;have p8:=hid eT;have KO:Hid (ae (fun x=>x<w.heap.size/\¬F x) w wo):=hid ((E0.keeps.mono fun x hx=>hx.1).tr (HI.2.2.mono fun x hx=>⟨by have:=hx.1;omega,hx.2,by have:=hx.1;omega⟩));have ec:∀ (o:Nat) (u:Value),w.cell? ⟨b,o,none⟩=some u->wo.cell? ⟨b,o,none⟩=some u:=fun o u h=>(KO.cell (p:=⟨b,o,none⟩) ⟨hbw2,wZ b hb⟩).trans h
   replace e0:=ec _ _ e0;replace e1:=ec _ _ e1;replace e2:=ec _ _ e2;replace e3:=ec _ _ e3;replace e4:=ec _ _ e4;replace e5:=ec _ _ e5;replace e6:=ec _ _ e6;replace e7:=ec _ _ e7;have TX:wo.cell? ⟨X,0,none⟩=some (.pointer (some ⟨M,0,none⟩)):=(KO.cell (p:=⟨X,0,none⟩) ⟨Nb,YX⟩).trans HX;have HXo:=hid TX;have hbo:b<wo.heap.size:=World.block_lt_of_cell? _ _ e0;have Vc:Hid (aK (· <n0) wo (.agg (aq t.kind t.set t.mn t.mx (.slice p' t.subs.length c'))) t):=hid (hrt.keeps KO fun x hx=>⟨by omega,wZ x hx⟩);clear ec eT hrt wZ TX;go_upto_region 5 with fail
   refine aA ?_;intro W1 hW1;have N1:Hid (ar W1 wo.heap.size (aq t.kind t.set t.mn t.mx (.slice p' t.subs.length c')) 97):=by rw[hW1];exact hid (ar.new _ _ _)
   have E1:Hid (Ext wo W1):=by rw[hW1];exact hid ((Ext.refl wo).alloc _)
   clear hW1 e0 e1 e2 e3 e4 e5 e6 e7;have e0:W1.cell? ⟨wo.heap.size,0,none⟩=some (.int .u8 t.kind):=N1.cell 0;have e1:W1.cell? ⟨wo.heap.size,1,none⟩=some (.int .u64 (wd t.set 0).toNat):=N1.cell 1;have e2:W1.cell? ⟨wo.heap.size,2,none⟩=some (.int .u64 (wd t.set 1).toNat):=N1.cell 2;have e3:W1.cell? ⟨wo.heap.size,3,none⟩=some (.int .u64 (wd t.set 2).toNat):=N1.cell 3;have e4:W1.cell? ⟨wo.heap.size,4,none⟩=some (.int .u64 (wd t.set 3).toNat):=N1.cell 4;have e5:W1.cell? ⟨wo.heap.size,5,none⟩=some (.int .i64 t.mn):=N1.cell 5;have e6:W1.cell? ⟨wo.heap.size,6,none⟩=some (.int .i64 t.mx):=N1.cell 6;have e7:W1.cell? ⟨wo.heap.size,7,none⟩=some (.slice p' t.subs.length c'):=N1.cell 7;have TX:W1.cell? ⟨X,0,none⟩=some (.pointer (some ⟨M,0,none⟩)):=(E1.keeps.cell (p:=⟨X,0,none⟩) (World.block_lt_of_cell? _ _ HXo)).trans HXo;obtain⟨⟨F',yA,Nf,hF2⟩,hO,Fa⟩:=HI.out;have bS:=Rk TW km false k;have hcs:=Ai p8;have hct:=Ah l (k+1);have ow:=Nc p8 (m,(⟨0,0,false⟩:GP));have CM:Hid (ah 102 #[.pointer (some ⟨M,0,none⟩),.agg (aq t.kind t.set t.mn t.mx (.slice p' t.subs.length c'))] W1 (jV base M F' W1 (t.dG (RX.fW (l.take k) (m,⟨0,0,false⟩)).1).1 (t.dG (RX.fW (l.take k) (m,⟨0,0,false⟩)).1).2)):=hid (HT.out t (aw p8) base M F' _ W1 _ dw (yA.keeps E1.keeps fun x hx=>(yA.lt x hx).2) (Vc.keeps E1.keeps fun x hx=>by have:=KO.size;omega) bS.ok bS.ok.len (by rw[bS.len];omega));clear bS hcs hct;obtain⟨sk,hsk⟩:=ag (RX.fW (l.take k) (m,(⟨0,0,false⟩:GP)));rw[<-hsk]at CM hO yA ow;obtain⟨m2,p2,wX⟩:∃ m2 p2,t.dG sk.1=(m2,p2):=⟨_,_,rfl⟩;rw[wX]at CM ow;dsimp only at CM ow;have Ve:=hid ow;have Rn:¬F' (w.heap.size+1+1):=fun e=>by rcases hF2 _ e with h | h;exact absurd (HM.lt _ h).2 (by omega);omega
   have O1:=hid (hO.ext E1);have WR:=hid Nf;have KJ:=hid hF2;have Ng:=hid Fa;have rW:=hid Rn;clear ow wX hsk hO yA Nf hF2 Fa Rn HI;go_wp2_with fail
   refine CM.mono ?_;rintro e w2 ⟨rfl,hF'',hx,hsz⟩;have O2:=hid (O1.keeps hx ⟨O1.lt,rW⟩);have ag1:=hid hF'';have Vf:=hid hx;clear hF'' hx CM e0 e1 e2 e3 e4 e5 e6 e7 TX;unfold aB;go_upto_region 6 with fail
   refine aA ?_;intro W3 hW3;have X3:Hid (ar W3 w2.heap.size (aB p2) 181):=by rw[hW3];exact hid (ar.new _ _ _)
   have E3:Hid (Ext w2 W3):=by rw[hW3];exact hid ((Ext.refl w2).alloc _)
   have O3:=hid (O2.ext E3);have hO2:w.heap.size+1+1<w2.heap.size:=O2.lt;clear hW3 O1 O2;obtain⟨a0,a1,a2,a3,a4,a5,a6,a7,a8,a9,j9,kf,a12,kh,jt⟩:=X3.part;obtain⟨o0,o1,o2,o3,o4,o5,o6,o7,o8,o9,qT,qU,qV,qW,qz⟩:=O3.part;obtain⟨z0,z1,z2,z3,z4,z5,z6,z7,z8,z9,z10,z11,z12,z13,z14⟩:=O3.nT
   try dsimp only at o0 o1 o2 o3 o4 o5 o6 o7 o8 o9 qT qU qV qW qz
   go_wp2_with fail
   clear a0 a1 a2 a3 a4 a5 a6 a7 a8 a9 j9 kf a12 kh jt o0 o1 o2 o3 o4 o5 o6 o7 o8 o9 qT qU qV qW qz z0 z1 z2 z3 z4 z5 z6 z7 z8 z9 z10 z11 z12 z13 z14;refine(jU (bW sk.2.fst) (bW p2.fst) (w.heap.size+1+1) 0 W3 (fZ.fst O3) (fun i _=>O3.frozen _)).mono ?_;rintro e w4 ⟨⟨u,rfl⟩,hx⟩;have O4:Hid (ar w4 (w.heap.size+1+1) (aB ⟨sk.2.fst ||| p2.fst,sk.2.cW,sk.2.emp⟩) 181):=hid ((qq O3 (sk.2.fst ||| p2.fst) (fun i _=>(wP sk.2.fst p2.fst i).symm)).keeps hx O3.lt);have K4:Hid (ae (fun x=>x<W3.heap.size/\x≠w.heap.size+1+1) W3 w4):=hid (((cT _ _ _ _ _:ae (· ≠w.heap.size+1+1) W3 _).mono fun x hx=>hx.2).tr (hx.mono fun x hx=>hx.1));have X4:=hid (X3.keeps K4 ⟨X3.lt,by omega⟩);clear hx;obtain⟨a0,a1,a2,a3,a4,a5,a6,a7,a8,a9,j9,kf,a12,kh,jt⟩:=X4.part;obtain⟨o0,o1,o2,o3,o4,o5,o6,o7,o8,o9,qT,qU,qV,qW,qz⟩:=O4.part;obtain⟨z0,z1,z2,z3,z4,z5,z6,z7,z8,z9,z10,z11,z12,z13,z14⟩:=O4.nT
   try dsimp only at o0 o1 o2 o3 o4 o5 o6 o7 o8 o9 qT qU qV qW qz
   go_wp2_with fail
   clear a0 a1 a2 a3 a4 a5 a6 a7 a8 a9 j9 kf a12 kh jt o0 o1 o2 o3 o4 o5 o6 o7 o8 o9 qT qU qV qW qz z0 z1 z2 z3 z4 z5 z6 z7 z8 z9 z10 z11 z12 z13 z14;refine(jU (bW sk.2.cW) (bW p2.cW) (w.heap.size+1+1) 7 w4 (fZ.cW (a:=⟨sk.2.fst ||| p2.fst,sk.2.cW,sk.2.emp⟩) O4) (fun i _=>O4.frozen _)).mono ?_;rintro e w5 ⟨⟨u,rfl⟩,hx⟩;have O5:Hid (ar w5 (w.heap.size+1+1) (aB ⟨sk.2.fst ||| p2.fst,sk.2.cW ||| p2.cW,sk.2.emp⟩) 181):=hid ((qs O4 (sk.2.cW ||| p2.cW) (fun i _=>(wP sk.2.cW p2.cW i).symm)).keeps hx O4.lt);have K5:Hid (ae (fun x=>x<W3.heap.size/\x≠w.heap.size+1+1) W3 w5):=hid (K4.tr (((cT _ _ _ _ _:ae (· ≠w.heap.size+1+1) w4 _).mono fun x hx=>hx.2).tr (hx.mono fun x hx=>by have:=K4.size;exact aD hx.1 this)));have X5:=hid (X3.keeps K5 ⟨X3.lt,by omega⟩);clear hx;obtain⟨a0,a1,a2,a3,a4,a5,a6,a7,a8,a9,j9,kf,a12,kh,jt⟩:=X5.part;obtain⟨o0,o1,o2,o3,o4,o5,o6,o7,o8,o9,qT,qU,qV,qW,qz⟩:=O5.part;obtain⟨z0,z1,z2,z3,z4,z5,z6,z7,z8,z9,z10,z11,z12,z13,z14⟩:=O5.nT
   try dsimp only at o0 o1 o2 o3 o4 o5 o6 o7 o8 o9 qT qU qV qW qz
   obtain⟨eb,IY⟩:=ag sk.2.emp;rw[<-IY]at qz;have YY:=hid IY;clear IY;cases eb;all_goals
    go_wp2;go_roundw;case rel=>
     refine⟨k+1,by omega,by go_num,?_⟩;rw[Ve.out];obtain⟨F'',g1,g2,g3⟩:=ag1.out;have h1:=E1.keeps.size;have h2:=Ng.size;have h3:=E3.keeps.size;have K6:=K5.setCell (p:=⟨w.heap.size+1+1,14,none⟩) (fun h=>h.2 rfl) (.bool (sk.2.emp || p2.emp));have O6:=O5.set 14 (.bool (sk.2.emp || p2.emp));have ag2:¬F'' (w.heap.size+1+1):=fun e=>by rcases g3 _ e with h | h;exact rW h;omega
     rw[<-YY.out]at K6 O6 ⊢;simp only[Bool.false_or,Bool.true_or]at K6 O6 ⊢;refine⟨⟨F'',(g1.keeps E3.keeps fun x hx=>(g1.lt x hx).2).keeps K6 fun x hx=>⟨by have:=(g1.lt x hx).2;omega,fun e=>ag2 (e▸hx)⟩,fun x h=>g2 x (WR x h),fun x h=>by rcases g3 x h with h | h;exact KJ x h;exact .inr (by omega)⟩,O6,?_⟩;exact Ng.tr ((E1.keeps.mono fun x hx=>by have:=hx.1;omega).tr ((Vf.mono fun x hx=>⟨by have:=hx.1;omega,fun e=>by rcases KJ.out x e with h | h;exact hx.2.1 h;have:=hx.1;omega⟩).tr ((E3.keeps.mono fun x hx=>by have:=hx.1;omega).tr (K6.mono fun x hx=>⟨by have:=hx.1;omega,hx.2.2⟩))))
    case measure=>simp[intOf];omega
  ·obtain rfl:k=n:=by omega
   have Il:¬ ((k:Int)<k):=by omega
   obtain⟨hF',hO,hK⟩:=HI.out;rw[WQ.out,List.take_length, <-HST.out]at hF' hO;have Rj:=hid hF';have O3:=hid hO;have HK:=hid hK;have R3:Hid (ar wo (w.heap.size+1) (zeroV false) 181):=hid (R0.keeps hK ⟨R0.lt,fun e=>by have:=(HM.lt _ e).2;omega,by omega⟩);clear hF' hO hK HI;go_wp2_with (first | (refine aZ rfl 181 (.tmp 4) rfl (w.heap.size+1+1) rfl (aB st.2) _ O3.range Tryz.underlying181 rfl (bF _) ?_) | (refine wpList_store_row rfl 181 (.tmp 3) (.tmp 34) rfl (w.heap.size+1) (aB st.2) rfl rfl 181 (zeroV false) R3 (bF _) rfl (eB _) ?_;refine Hid.out ?_));refine hid ?_;obtain⟨V3,cX⟩:=ag (wo.setRow (w.heap.size+1) (aB st.2));rw[<-cX];have R9:Hid (ar V3 (w.heap.size+1) (aB st.2) 181):=by rw[cX];exact hid R3.setRow
   have K9:ae (· ≠w.heap.size+1) wo V3:=by rw[cX];exact bJ _ _ _
   clear cX;go_wp2;obtain⟨m0,m1,m2,m3,m4,m5,m6,m7,m8,m9,m10,m11,m12,m13,m14⟩:=R9.part;refine bodyPost_ret (v:=.agg (aB st.2)) (by simp[results,Tryz.results204,aB,go_sem,m0,m1,m2,m3,m4,m5,m6,m7,m8,m9,m10,m11,m12,m13,m14]) rfl ⟨rfl,?_,?_,?_⟩
   ·obtain⟨F',h1,h2,h3⟩:=Rj.out
    exact⟨F',h1.keeps K9 fun x hx e=>by(rcases h3 x hx with h | h; · exact absurd (HM.lt x h).2 (by omega));omega,h2,fun x hx=>(h3 x hx).imp id fun h=>by omega⟩
   ·exact(E0.keeps.mono fun x hx=>hx.1).tr ((HK.mono fun x hx=>⟨by have:=hx.1;omega,hx.2,by have:=hx.1;omega⟩).tr (K9.mono fun x hx=>by have:=hx.1;omega))
   ·have:=K9.size;have:=HK.size;omega
structure Vg (base M n9:Nat) (F:Nat->Prop) (m2:GM) (A B:World):Prop where
 keep:ae (fun x=>x<n9/\¬F x) A B
 uu:n9<A.heap.size->∀ F2,fL base M F2 A m2->fL base M F2 B m2
theorem Vg.trans {base M n9:Nat} {F:Nat->Prop} {m2:GM} {A B C:World} (h:Vg base M n9 F m2 A B) (k:Vg base M n9 F m2 B C):Vg base M n9 F m2 A C:=
 ⟨h.keep.tr k.keep,fun hn F2 hF=>k.uu (aD hn h.keep.size) F2 (h.uu hn F2 hF)⟩
theorem Vg.ext {base M n9:Nat} {F:Nat->Prop} {m2:GM} {A B:World} (hn:n9<=A.heap.size) (h:Ext A B):Vg base M n9 F m2 A B:=
 ⟨h.mono fun _ hx=>aD hx.1 hn,fun _ _ hF=>hF.keeps h.keeps fun x hx=>(hF.lt x hx).2⟩
def wW.mk (base M n9:Nat) (F:Nat->Prop) (m2:GM) (p2:GP):aX (Vg base M n9 F m2) where
 P:=fun v=>v=.agg (aB p2)
 H:=fun _ W=>n9<W.heap.size/\∃ F2,fL base M F2 W m2/\(∀ x,F x->F2 x)/\∀ x,F2 x->F x\/n9<=x
 ot:=.agg (aB p2)
 pw:=rfl
 st:=fun _ _ _ hm _ ⟨hn,F2,h1,h2,h3⟩=>⟨aD hn hm.keep.size,F2,hm.uu hn F2 h1,h2,h3⟩
def ag3 (base M n9:Nat) (F:Nat->Prop) (m:GM) (j:Nat) (W:World):Prop:=j=4->W.heap.size=n9/\fL base M F W m
theorem Ro (n0 base M:Nat) (F:Nat->Prop) (m:GM) (k:Nat) (s:BS) (mn mx:Int) (l:List RX) (p:Option Addr) (n c:Nat) (X:Nat) (w:World) (dw:n0<=base) (h:fL base M F w m) (hr:aK (· <n0) w (.agg (aq k s mn mx (.slice p n c))) (.nd k s mn mx l)) (ht:∀ t∈l,IV n0 t) (hf:∀ t∈l,t.full=true) (hX:w.cell? ⟨X,0,none⟩=some (.pointer (some ⟨M,0,none⟩))) (EX:¬F X) (ok:m.ok) (hm:m.cK.length=m.aN.length) (hn:m.aN.length+RX.gI l<=448) (hL:l.length<=10000): ah 202 #[.agg (aq k s mn mx (.slice p n c)),.pointer (some ⟨X,0,none⟩)] w (jV base M F w (RX.jd l (m,⟨0,0,true⟩)).1 (RX.jd l (m,⟨0,0,true⟩)).2):=by
 have hlen:n=l.length:=by obtain⟨p2,c2,e⟩:=hr.form;simp[aq,RX.subs,RX.kind,RX.set,RX.mn,RX.mx]at e;exact e.2.1
 have hn9:n<=10000:=by omega
 have HM:=hid h;have HR:=hid hr;have HT:=hid ht;have TW:=hid hf;have km:=hid ok;have Kv:=hid hm;have HX:=hid hX;have YX:=hid EX;have WQ:=hid hlen;have Nb:X<w.heap.size:=World.block_lt_of_cell? _ _ hX;have WJ:M<w.heap.size:=(h.lt M h.fm).2;have rV:n0<=w.heap.size:=by have:=(h.lt M h.fm).1;omega
 obtain⟨st,hst⟩:=ag (RX.jd l (m,⟨0,0,true⟩));rw[<-hst];have HST:=hid hst;clear h hr ht hf ok hm hX EX hlen hst;unfold aq;go_enter Tryz.func202,Tryz.ntmps202;go_upto_region 2 with fail
 refine aA ?_;intro V hV;have N0:Hid (ar V w.heap.size #[.int .u8 k,.int .u64 (wd s 0).toNat,.int .u64 (wd s 1).toNat,.int .u64 (wd s 2).toNat,.int .u64 (wd s 3).toNat,.int .i64 mn,.int .i64 mx,.slice p n c] 97):=by rw[hV];exact hid (((ar.new _ _ _).alloc _).alloc _)
 have R0:Hid (ar V (w.heap.size+1) (zeroV false) 181):=by rw[hV];exact hid ((ar.at (ar.new _ _ _) (by simp)).alloc _)
 have O0:Hid (ar V (w.heap.size+1+1) (zeroV true) 181):=by rw[hV];exact hid (ar.at (ar.new _ _ _) (by simp))
 have E0:Hid (Ext w V):=by rw[hV];exact hid ((((Ext.refl w).alloc _).alloc _).alloc _)
 have lN:Hid (V.heap.size=w.heap.size+1+1+1):=hid (by rw[hV];simp);clear hV;have n7:V.cell? ⟨w.heap.size,7,none⟩=some (.slice p n c):=N0.cell 7;have yY:w.heap.size+1+1<V.heap.size:=by rw[lN.out];omega
 have MV:Hid (fL base M F V m):=hid (HM.keeps E0.keeps fun x hx=>(HM.lt x hx).2);have TS:V.cell? ⟨X,0,none⟩=some (.pointer (some ⟨M,0,none⟩)):=(E0.keeps.cell (p:=⟨X,0,none⟩) Nb).trans HX;have HXV:=hid TS;clear TS;go_wp2;clear n7;go_loopw [11] (fun iv W=>∃ k:Nat,k<=n/\iv=.int .i64 k/\Vd base M F (RX.jd (l.take k) (m,⟨0,0,true⟩)) (w.heap.size+1+1) V W) (fun iv _=>n-(intOf iv).toNat);case atStart=>
  refine⟨0,by omega,rfl,?_⟩;rw[List.take_zero,RX.jd];exact⟨⟨F,MV,fun _ h=>h,fun _ h=>.inl h⟩,by rw[iE];exact O0,ae.refl _ _⟩
 case round=>
  obtain⟨k,hk,rfl,hI⟩:=hrel;obtain⟨wo,rfl⟩:=ag (wr:World);have HI:=hid hI;clear hI;by_cases hlt:k<n
  ·have eE:(k:Int)<n:=by omega
   obtain⟨t,eT⟩:∃ t,l[k]? =some t:=⟨_,az (by have:=WQ.out;omega)⟩;have wZ:∀ x,x<n0->¬F x:=fun x hx e=>by have:=(HM.lt x e).1;omega
   obtain⟨b,off,p',c',rfl,hb,hbw2,mQ,⟨e0,e1,e2,e3,e4,e5,e6,e7⟩,hrt⟩:=HR.elem eT;have p8:=hid eT;have KO:Hid (ae (fun x=>x<w.heap.size/\¬F x) w wo):=hid ((E0.keeps.mono fun x hx=>hx.1).tr (HI.2.2.mono fun x hx=>⟨by have:=hx.1;omega,hx.2,by have:=hx.1;omega⟩));have ec:∀ (o:Nat) (u:Value),w.cell? ⟨b,o,none⟩=some u->wo.cell? ⟨b,o,none⟩=some u:=fun o u h=>(KO.cell (p:=⟨b,o,none⟩) ⟨hbw2,wZ b hb⟩).trans h
   replace e0:=ec _ _ e0;replace e1:=ec _ _ e1;replace e2:=ec _ _ e2;replace e3:=ec _ _ e3;replace e4:=ec _ _ e4;replace e5:=ec _ _ e5;replace e6:=ec _ _ e6;replace e7:=ec _ _ e7;have TX:wo.cell? ⟨X,0,none⟩=some (.pointer (some ⟨M,0,none⟩)):=(KO.cell (p:=⟨X,0,none⟩) ⟨Nb,YX⟩).trans HX;have HXo:=hid TX;have hbo:b<wo.heap.size:=World.block_lt_of_cell? _ _ e0;have Vc:Hid (aK (· <n0) wo (.agg (aq t.kind t.set t.mn t.mx (.slice p' t.subs.length c'))) t):=hid (hrt.keeps KO fun x hx=>⟨by omega,wZ x hx⟩);clear ec eT hrt wZ TX;go_upto_region 5 with fail
   refine aA ?_;intro W1 hW1;have N1:Hid (ar W1 wo.heap.size (aq t.kind t.set t.mn t.mx (.slice p' t.subs.length c')) 97):=by rw[hW1];exact hid (ar.new _ _ _)
   have E1:Hid (Ext wo W1):=by rw[hW1];exact hid ((Ext.refl wo).alloc _)
   clear hW1 e0 e1 e2 e3 e4 e5 e6 e7;have e0:W1.cell? ⟨wo.heap.size,0,none⟩=some (.int .u8 t.kind):=N1.cell 0;have e1:W1.cell? ⟨wo.heap.size,1,none⟩=some (.int .u64 (wd t.set 0).toNat):=N1.cell 1;have e2:W1.cell? ⟨wo.heap.size,2,none⟩=some (.int .u64 (wd t.set 1).toNat):=N1.cell 2;have e3:W1.cell? ⟨wo.heap.size,3,none⟩=some (.int .u64 (wd t.set 2).toNat):=N1.cell 3;have e4:W1.cell? ⟨wo.heap.size,4,none⟩=some (.int .u64 (wd t.set 3).toNat):=N1.cell 4;have e5:W1.cell? ⟨wo.heap.size,5,none⟩=some (.int .i64 t.mn):=N1.cell 5;have e6:W1.cell? ⟨wo.heap.size,6,none⟩=some (.int .i64 t.mx):=N1.cell 6;have e7:W1.cell? ⟨wo.heap.size,7,none⟩=some (.slice p' t.subs.length c'):=N1.cell 7;have TX:W1.cell? ⟨X,0,none⟩=some (.pointer (some ⟨M,0,none⟩)):=(E1.keeps.cell (p:=⟨X,0,none⟩) (World.block_lt_of_cell? _ _ HXo)).trans HXo;obtain⟨⟨F',yA,Nf,hF2⟩,hO,Fa⟩:=HI.out;have bS:=Rl TW km true k;have lH:=nO t (TW t (aw p8)) _ bS.ok;have hcs:=Ai p8;have hct:=Ah l (k+1);have ow:=Nd p8 (m,(⟨0,0,true⟩:GP));obtain⟨sk,hsk⟩:=ag (RX.jd (l.take k) (m,(⟨0,0,true⟩:GP)));rw[<-hsk]at hO yA ow bS lH;obtain⟨m2,p2,wX⟩:∃ m2 p2,t.dG sk.1=(m2,p2):=⟨_,_,rfl⟩;rw[wX]at ow lH;dsimp only at ow;have vG:=lH.len;have hl2:=bS.len;have Cm:=lH.ok.len;dsimp only at vG Cm;have Dp:Hid (dH sk.2.cW m2.cK.length):=hid (bS.gp.cW.mono (by omega));have YZ:Hid (m2.cK.length<=448):=hid (by omega);have CM:Hid (∀ W,fL base M F' W sk.1->aK (· <n0) W (.agg (aq t.kind t.set t.mn t.mx (.slice p' t.subs.length c'))) t->ah 102 #[.pointer (some ⟨M,0,none⟩),.agg (aq t.kind t.set t.mn t.mx (.slice p' t.subs.length c'))] W (jV base M F' W m2 p2)):=hid fun W h1 h2=>by
    have:=HT.out t (aw p8) base M F' sk.1 W _ dw h1 h2 bS.ok bS.ok.len (by rw[bS.len];omega);rw[wX]at this;exact this
   have Ve:=hid ow;have Rn:¬F' (w.heap.size+1+1):=fun e=>by rcases hF2 _ e with h | h;exact absurd (HM.lt _ h).2 (by omega);omega
   have hnX:¬F' X:=fun e=>by rcases hF2 _ e with h | h;exact YX h;omega
   have O1:=hid (hO.ext E1);have M1:Hid (fL base M F' W1 sk.1):=hid (yA.keeps E1.keeps fun x hx=>(yA.lt x hx).2);have R1:Hid (aK (· <n0) W1 (.agg (aq t.kind t.set t.mn t.mx (.slice p' t.subs.length c'))) t):=hid (Vc.keeps E1.keeps fun x hx=>by have:=KO.size;omega);have acD:∀ x,x<n0->¬F' x:=fun x hx e=>by have:=(yA.lt x e).1;omega
   have WT:¬F' wo.heap.size:=fun e=>by have:=(yA.lt _ e).2;omega
   have WR:=hid Nf;have KJ:=hid hF2;have Ng:=hid Fa;have rW:=hid Rn;have KC:=hid acD;have hX1:X<W1.heap.size:=by have:=KO.size;have:=E1.size;omega
   have anu:n0<=W1.heap.size:=by have:=KO.size;have:=E1.size;omega
   clear ow wX hsk hO yA Nf hF2 Fa Rn HI bS lH hcs hct vG hl2 Cm acD;refine RegQ.bL (Vg base M W1.heap.size F' m2) (Vg.ext (aG _) (Ext.refl _).drew) (fun _ _ _ h k=>h.trans k) (by kernel_rfl) 5 [0,0,0,0,12,31,63] (fun i=>i==4 || i==5 || i==6) (by kernel_rfl) (fun i=>if i=4 then wW.mk _ _ _ _ _ p2 else aX.any _) (ag3 base M W1.heap.size F' sk.1) (fun _ _ _=>⟨rfl,M1.keeps (Ext.refl _).drew.keeps fun x hx=>(M1.lt x hx).2⟩) ?_;intro C hC hne;have HC:=hid hC;have fc:∀ (b o:Nat) (u:Value),b<W1.heap.size->¬F' b->W1.cell? ⟨b,o,none⟩=some u->∀ W: {W//C W},W.1.cell? ⟨b,o,none⟩=some u:=fun b o u h1 h2 h3 W=>(((hC W.1).1 W.2).keep.cell (p:=⟨b,o,none⟩) ⟨h1,h2⟩).trans h3
   have fX:=fc _ _ _ hX1 hnX TX;obtain⟨o0,o1,o2,o3,o4,o5,o6,o7,o8,o9,qT,qU,qV,qW,qz⟩:=O1.part;have q0:=fc _ _ _ O1.lt rW o0;have q1:=fc _ _ _ O1.lt rW o1;have q2:=fc _ _ _ O1.lt rW o2;have q3:=fc _ _ _ O1.lt rW o3;have q4:=fc _ _ _ O1.lt rW o4;have q5:=fc _ _ _ O1.lt rW o5;have q6:=fc _ _ _ O1.lt rW o6;have q7:=fc _ _ _ O1.lt rW o7;have q8:=fc _ _ _ O1.lt rW o8;have q9:=fc _ _ _ O1.lt rW o9;have q10:=fc _ _ _ O1.lt rW qT;have q11:=fc _ _ _ O1.lt rW qU;have q12:=fc _ _ _ O1.lt rW qV;have q13:=fc _ _ _ O1.lt rW qW;have q14:=fc _ _ _ O1.lt rW qz;have f0:=fc _ _ _ N1.lt WT e0;have f1:=fc _ _ _ N1.lt WT e1;have f2:=fc _ _ _ N1.lt WT e2;have f3:=fc _ _ _ N1.lt WT e3;have f4:=fc _ _ _ N1.lt WT e4;have f5:=fc _ _ _ N1.lt WT e5;have f6:=fc _ _ _ N1.lt WT e6;have f7:=fc _ _ _ N1.lt WT e7;clear hC fc e0 e1 e2 e3 e4 e5 e6 e7 TX o0 o1 o2 o3 o4 o5 o6 o7 o8 o9 qT qU qV qW qz
   repeat (refine RegQ.au (fun K hK=>?_);first | (refine RegQ.cg rfl ?_;try go_simp;refine hK _ _ ?_;clear hK K) | (refine RegQ.bV rfl rfl ?_;unfold aF;go_simp;refine hK _ _ ?_;clear hK K))
   refine RegQ.au (fun K hK=>?_);refine RegQ.ct rfl rfl (wW.mk base M W1.heap.size F' m2 p2) rfl (fun W hW hD hN=>?_) (fun v hv=>?_)
   ·have hM:=(HC.out W).1 hW
    obtain⟨s7,hMW⟩:=hD rfl;clear hW hN hK K hD;go_simp;refine bI ((CM W hMW (R1.keeps hM.keep fun x hx=>⟨by omega,KC x hx⟩)).mono ?_);rintro e w2 ⟨rfl,hF'',hx,hsz⟩;rw[s7]at hF'' hx hsz;exact⟨_,rfl,⟨⟨hx,fun h=>by omega⟩,fun j hj _ _ e=>absurd e hj⟩,rfl,hsz,hF''⟩
   replace hv:v=_:=hv;subst hv;go_simp;refine hK _ _ ?_;clear hK K;refine RegQ.bM (fun W hW hH=>?_);have ki:=(HC.out W).1 hW;obtain⟨hsz,F2,g1,g2,g3⟩:W1.heap.size<W.heap.size/\∃ F2,fL base M F2 W m2/\(∀ x,F' x->F2 x)/\∀ x,F2 x->F' x\/W1.heap.size<=x:=hH _ (aw (show _=some _ from rfl:_[0]? =some _));have hO1:w.heap.size+1+1<W1.heap.size:=O1.lt;have jg:¬F2 (w.heap.size+1+1):=fun e=>by rcases g3 _ e with h | h;exact rW h;omega
   have O2:=hid (O1.keeps ki.keep ⟨O1.lt,rW⟩);have Vf:=hid ki.keep;have CT:Hid (ah 203 #[.pointer (some ⟨M,0,none⟩),.agg (aB sk.2),.agg (aB p2)] W fun e w'=>e=.returned (.agg (aB (cR m2 sk.2 p2).2))/\fL base M F2 w' (cR m2 sk.2 p2).1/\ae (fun x=>x<W.heap.size/\¬F2 x) W w'):=hid (oM base M F2 m2 sk.2 p2 W g1 Dp YZ);obtain⟨m3,p3,Y0⟩:∃ m3 p3,cR m2 sk.2 p2=(m3,p3):=⟨_,_,rfl⟩;rw[Y0]at CT;dsimp only at CT;have ow:=Ve.out;rw[Y0]at ow;have ag5:=hid ow;have G2:=hid g2;have G3:=hid g3;have uN:=hid jg;clear ki hW hH HC hne fX q0 q1 q2 q3 q4 q5 q6 q7 q8 q9 q10 q11 q12 q13 q14 f0 f1 f2 f3 f4 f5 f6 f7 g1 g2 g3 jg Y0 ow Ve CM O1;go_wp2_with fail
   refine CT.mono ?_;rintro e w2 ⟨rfl,hF3,hx⟩;have O3:=hid (O2.keeps hx ⟨O2.lt,uN⟩);have M3:=hid hF3;have Y4:=hid hx;clear hx hF3 CT;go_wp2_with (first | (refine wpList_store_row rfl 181 (.tmp 4) (.tmp 20) rfl (w.heap.size+1+1) (aB p3) rfl rfl 181 (_) O3 (bF _) rfl (eB _) ?_;refine Hid.out ?_));refine hid ?_;obtain⟨W4,KM⟩:=ag (w2.setRow (w.heap.size+1+1) (aB p3));rw[<-KM];have O4:Hid (ar W4 (w.heap.size+1+1) (aB p3) 181):=by rw[KM];exact hid O3.setRow
   have K4:Hid (ae (· ≠w.heap.size+1+1) w2 W4):=by rw[KM];exact hid (bJ _ _ _)
   clear KM;go_wp2;go_roundw;case rel=>
    refine⟨k+1,by omega,by go_num,?_⟩;rw[ag5.out];have h1:=E1.keeps.size;have h2:=Ng.size;have h3:=Vf.size;refine⟨⟨F2,M3.keeps K4 fun x hx e=>uN (e▸hx),fun x h=>G2 x (WR x h),fun x h=>by rcases G3.out x h with h | h;exact KJ x h;exact .inr (by omega)⟩,O4,?_⟩;exact Ng.tr ((E1.keeps.mono fun x hx=>by have:=hx.1;omega).tr ((Vf.mono fun x hx=>⟨by have:=hx.1;omega,fun e=>by rcases KJ.out x e with h | h;exact hx.2.1 h;have:=hx.1;omega⟩).tr ((Y4.mono fun x hx=>⟨by have:=hx.1;omega,fun e=>by rcases G3.out x e with h | h;rcases KJ.out x h with h | h;exact hx.2.1 h;have:=hx.1;omega;have:=hx.1;omega⟩).tr (K4.mono fun x hx=>hx.2.2))))
   case measure=>simp[intOf];omega
  ·obtain rfl:k=n:=by omega
   have Il:¬ ((k:Int)<k):=by omega
   obtain⟨hF',hO,hK⟩:=HI.out;rw[WQ.out,List.take_length, <-HST.out]at hF' hO;have Rj:=hid hF';have O3:=hid hO;have HK:=hid hK;have R3:Hid (ar wo (w.heap.size+1) (zeroV false) 181):=hid (R0.keeps hK ⟨R0.lt,fun e=>by have:=(HM.lt _ e).2;omega,by omega⟩);clear hF' hO hK HI;go_wp2_with (first | (refine aZ rfl 181 (.tmp 4) rfl (w.heap.size+1+1) rfl (aB st.2) _ O3.range Tryz.underlying181 rfl (bF _) ?_) | (refine wpList_store_row rfl 181 (.tmp 3) (.tmp 22) rfl (w.heap.size+1) (aB st.2) rfl rfl 181 (zeroV false) R3 (bF _) rfl (eB _) ?_;refine Hid.out ?_));refine hid ?_;obtain⟨V3,cX⟩:=ag (wo.setRow (w.heap.size+1) (aB st.2));rw[<-cX];have R9:Hid (ar V3 (w.heap.size+1) (aB st.2) 181):=by rw[cX];exact hid R3.setRow
   have K9:ae (· ≠w.heap.size+1) wo V3:=by rw[cX];exact bJ _ _ _
   clear cX;go_wp2;obtain⟨m0,m1,m2,m3,m4,m5,m6,m7,m8,m9,m10,m11,m12,m13,m14⟩:=R9.part;refine bodyPost_ret (v:=.agg (aB st.2)) (by simp[results,Tryz.results202,aB,go_sem,m0,m1,m2,m3,m4,m5,m6,m7,m8,m9,m10,m11,m12,m13,m14]) rfl ⟨rfl,?_,?_,?_⟩
   ·obtain⟨F',h1,h2,h3⟩:=Rj.out
    exact⟨F',h1.keeps K9 fun x hx e=>by(rcases h3 x hx with h | h; · exact absurd (HM.lt x h).2 (by omega));omega,h2,fun x hx=>(h3 x hx).imp id fun h=>by omega⟩
   ·exact(E0.keeps.mono fun x hx=>hx.1).tr ((HK.mono fun x hx=>⟨by have:=hx.1;omega,hx.2,by have:=hx.1;omega⟩).tr (K9.mono fun x hx=>by have:=hx.1;omega))
   ·have:=K9.size;have:=HK.size;omega
theorem Fb {t:RX} (ht:t.full=true) {m:GM} (hm:m.ok) (mn mx:Int) (k:Nat):jk m (dX mn mx (fun m=>t.dG m) m k) (k*t.cnt):=wJ (fun m hm=>nO t ht m hm) hm k
theorem acE (n0 base M:Nat) (F:Nat->Prop) (m:GM) (k0:Nat) (s:BS) (mn:Int) (N:Nat) (t:RX) (l:List RX) (p:Option Addr) (n c:Nat) (w:World) (dw:n0<=base) (h:fL base M F w m) (hr:aK (· <n0) w (.agg (aq k0 s mn (-1) (.slice p n c))) (.nd k0 s mn (-1) (t::l))) (ht:IV n0 t) (hf:t.full=true) (ok:m.ok) (hm:m.cK.length=m.aN.length) (hN:max mn 1=(N:Int)) (ag6:N<=16) (hG:eY mn (-1)=N) (hn:m.aN.length+N*t.cnt<=448): ah 206 #[.pointer (some ⟨M,0,none⟩),.agg (aq k0 s mn (-1) (.slice p n c))] w (jV base M F w (dX mn (-1) (fun m=>t.dG m) m N).1 (dX mn (-1) (fun m=>t.dG m) m N).2):=by
 have hlen:n=l.length+1:=by obtain⟨p2,c2,e⟩:=hr.form;simp[aq,RX.subs,RX.kind,RX.set,RX.mn,RX.mx]at e;exact e.2.1
 have fH:0<n:=by omega
 obtain⟨b,off,p',c',rfl,hb,rV,mQ,⟨e0,e1,e2,e3,e4,e5,e6,e7⟩,hrt⟩:=hr.elem (i:=0) (t:=t) rfl;simp only[Nat.zero_mul,Nat.add_zero]at e0 e1 e2 e3 e4 e5 e6 e7;have HM:=hid h;have Vc:=hid hrt;have HT:=hid ht;have TW:=hid hf;have km:=hid ok;have HGG:=hid hG;have Kv:=hid hm;have EE:=hid (And.intro e0 (And.intro e1 (And.intro e2 (And.intro e3 (And.intro e4 (And.intro e5 (And.intro e6 e7)))))));have WJ:M<w.heap.size:=(h.lt M h.fm).2;have acF:n0<=w.heap.size:=by have:=(h.lt M h.fm).1;omega
 have wZ:¬F b:=fun e=>by have:=(h.lt b e).1;omega
 obtain⟨st,hst⟩:=ag (dX mn (-1) (fun m=>t.dG m) m N);rw[<-hst];have HST:=hid hst;have HMU:=hid hn;clear h hr hrt ht hf ok hm hlen hst hG e0 e1 e2 e3 e4 e5 e6 e7 hn;unfold aq;go_enter Tryz.func206,Tryz.ntmps206;go_upto_region 5 with fail
 refine aA ?_;intro V hV;have N0:Hid (ar V w.heap.size #[.int .u8 k0,.int .u64 (wd s 0).toNat,.int .u64 (wd s 1).toNat,.int .u64 (wd s 2).toNat,.int .u64 (wd s 3).toNat,.int .i64 mn,.int .i64 (-1),.slice (some ⟨b,off,none⟩) n c] 97):=by rw[hV];exact hid (((ar.new _ _ _).alloc _).alloc _)
 have R0:Hid (ar V (w.heap.size+1) (zeroV false) 181):=by rw[hV];exact hid ((ar.at (ar.new _ _ _) (by simp)).alloc _)
 have O0:Hid (ar V (w.heap.size+1+1) (zeroV true) 181):=by rw[hV];exact hid (ar.at (ar.new _ _ _) (by simp))
 have E0:Hid (Ext w V):=by rw[hV];exact hid ((((Ext.refl w).alloc _).alloc _).alloc _)
 have lN:Hid (V.heap.size=w.heap.size+1+1+1):=hid (by rw[hV];simp);clear hV;have yY:w.heap.size+1+1<V.heap.size:=by rw[lN.out];omega
 have MV:Hid (fL base M F V m):=hid (HM.keeps E0.keeps fun x hx=>(HM.lt x hx).2);go_wp2;go_loopw [18] (fun iv W=>∃ k:Nat,k<=N/\iv=.int .i64 k/\Vd base M F (dX mn (-1) (fun m=>t.dG m) m k) (w.heap.size+1+1) V W) (fun iv _=>N-(intOf iv).toNat);case atStart=>
  refine⟨0,by omega,rfl,?_⟩;exact⟨⟨F,MV,fun _ h=>h,fun _ h=>.inl h⟩,by show ar _ _ (aB ⟨0,0,true⟩) _;rw[iE];exact O0,ae.refl _ _⟩
 case round=>
  obtain⟨k,hk,rfl,hI⟩:=hrel;obtain⟨wo,rfl⟩:=ag (wr:World);have HI:=hid hI;clear hI;by_cases hlt:k<N
  ·have eE:(k:Int)<N:=by omega
   obtain⟨⟨F',yA,Nf,hF2⟩,hO,Fa⟩:=HI.out;have bS:=Fb TW km mn (-1) k;have lH:=nO t TW _ bS.ok;have ow:dX mn (-1) (fun m=>t.dG m) m (k+1)=Cb mn (-1) k (dX mn (-1) (fun m=>t.dG m) m k).2 (t.dG (dX mn (-1) (fun m=>t.dG m) m k).1):=rfl;have hmul:(k+1)*t.cnt<=N*t.cnt:=Nat.mul_le_mul_right _ hlt;have Rp:(k+1)*t.cnt=k*t.cnt+t.cnt:=Nat.succ_mul _ _;have hmu:=HMU.out;obtain⟨sk,hsk⟩:=ag (dX mn (-1) (fun m=>t.dG m) m k);rw[<-hsk]at hO yA ow bS lH;obtain⟨m2,p2,wX⟩:∃ m2 p2,t.dG sk.1=(m2,p2):=⟨_,_,rfl⟩;rw[wX]at ow lH;have vG:=lH.len;have hl2:=bS.len;have Cm:=lH.ok.len;have Y8:=lH.gp;dsimp only at vG Cm Y8;have Dp:Hid (dH sk.2.cW m2.cK.length):=hid (bS.gp.cW.mono (by omega));have HP2:Hid (dH p2.cW m2.cK.length):=hid (Y8.cW.mono (by omega));have YZ:Hid (m2.cK.length<=448):=hid (by omega);have CM:Hid (∀ W,fL base M F' W sk.1->aK (· <n0) W (.agg (aq t.kind t.set t.mn t.mx (.slice p' t.subs.length c'))) t->ah 102 #[.pointer (some ⟨M,0,none⟩),.agg (aq t.kind t.set t.mn t.mx (.slice p' t.subs.length c'))] W (jV base M F' W m2 p2)):=hid fun W h1 h2=>by
    have:=HT.out base M F' sk.1 W _ dw h1 h2 bS.ok bS.ok.len (by omega);rw[wX]at this;exact this
   have Ve:=hid ow;have Rn:¬F' (w.heap.size+1+1):=fun e=>by rcases hF2 _ e with h | h;exact absurd (HM.lt _ h).2 (by omega);omega
   have hnN:¬F' w.heap.size:=fun e=>by rcases hF2 _ e with h | h;exact absurd (HM.lt _ h).2 (by omega);omega
   have KO:Hid (ae (fun x=>x<w.heap.size/\¬F x) w wo):=hid ((E0.keeps.mono fun x hx=>hx.1).tr (Fa.mono fun x hx=>⟨by have:=hx.1;omega,hx.2,by have:=hx.1;omega⟩));have Bd:=Fa.size;have NO:Hid (ar wo w.heap.size #[.int .u8 k0,.int .u64 (wd s 0).toNat,.int .u64 (wd s 1).toNat,.int .u64 (wd s 2).toNat,.int .u64 (wd s 3).toNat,.int .i64 mn,.int .i64 (-1),.slice (some ⟨b,off,none⟩) n c] 97):=hid (N0.keeps Fa ⟨by omega,fun e=>by have:=(HM.lt _ e).2;omega,by omega⟩);have O1:=hid hO;have M1:=hid yA;have R1:Hid (aK (· <n0) wo (.agg (aq t.kind t.set t.mn t.mx (.slice p' t.subs.length c'))) t):=hid (Vc.keeps KO fun x hx=>⟨by omega,fun e=>by have:=(HM.lt x e).1;omega⟩);have ec:∀ (o:Nat) (u:Value),w.cell? ⟨b,o,none⟩=some u->wo.cell? ⟨b,o,none⟩=some u:=fun o u h=>(KO.cell (p:=⟨b,o,none⟩) ⟨rV,wZ⟩).trans h
   obtain⟨e0,e1,e2,e3,e4,e5,e6,e7⟩:=EE.out;replace e0:=ec _ _ e0;replace e1:=ec _ _ e1;replace e2:=ec _ _ e2;replace e3:=ec _ _ e3;replace e4:=ec _ _ e4;replace e5:=ec _ _ e5;replace e6:=ec _ _ e6;replace e7:=ec _ _ e7;have n5:wo.cell? ⟨w.heap.size,5,none⟩=some (.int .i64 mn):=NO.cell 5;have n6:wo.cell? ⟨w.heap.size,6,none⟩=some (.int .i64 (-1)):=NO.cell 6;have n7:wo.cell? ⟨w.heap.size,7,none⟩=some (.slice (some ⟨b,off,none⟩) n c):=NO.cell 7;have WR:=hid Nf;have KJ:=hid hF2;have Ng:=hid Fa;have rW:=hid Rn;have pA:=hid hnN;have KN:=hid (CM.out wo M1 R1);clear ow wX hsk hO yA Nf hF2 Fa Rn hnN HI bS lH vG hl2 Cm Y8 hmul Rp hmu ec CM M1 R1;go_wp2_with fail
   refine KN.mono ?_;rintro e w2 ⟨rfl,hF'',hx,hsz⟩;have hOl:w.heap.size+1+1<wo.heap.size:=O1.lt;have O2:=hid (O1.keeps hx ⟨O1.lt,rW⟩);have N2:=hid (NO.keeps hx ⟨NO.lt,pA⟩);obtain⟨F2,g1,g2,g3⟩:=hF'';have jg:¬F2 (w.heap.size+1+1):=fun e=>by rcases g3 _ e with h | h;exact rW h;omega
   have Rq:¬F2 w.heap.size:=fun e=>by rcases g3 _ e with h | h;exact pA h;omega
   have M2:=hid g1;have G2:=hid g2;have G3:=hid g3;have uN:=hid jg;have acH:=hid Rq;have Vf:=hid hx;have Za:=hid hsz;clear hx g1 g2 g3 jg Rq hsz KN O1 NO e0 e1 e2 e3 e4 e5 e6 e7 n5 n6 n7;unfold aB;go_upto_region 9 with fail
   refine aA ?_;intro W3 hW3;have X3:Hid (ar W3 w2.heap.size (aB p2) 181):=by rw[hW3];exact hid (ar.new _ _ _)
   have E3:Hid (Ext w2 W3):=by rw[hW3];exact hid ((Ext.refl w2).alloc _)
   have O3:=hid (O2.ext E3);have N3:=hid (N2.ext E3);have M3:Hid (fL base M F2 W3 m2):=hid (M2.keeps E3.keeps fun x hx=>(M2.lt x hx).2);have hx2:¬F2 w2.heap.size:=fun e=>by have:=(M2.lt _ e).2;omega
   have gF:=hid hx2;clear hW3 hx2 O2 N2;have n5:W3.cell? ⟨w.heap.size,5,none⟩=some (.int .i64 mn):=N3.cell 5;have n6:W3.cell? ⟨w.heap.size,6,none⟩=some (.int .i64 (-1)):=N3.cell 6;obtain⟨a0,a1,a2,a3,a4,a5,a6,a7,a8,a9,j9,kf,a12,kh,jt⟩:=X3.part
   try dsimp only at a0 a1 a2 a3 a4 a5 a6 a7 a8 a9 j9 kf a12 kh jt
   by_cases acI:(k:Int)=N-1
   ·have hkN:k+1=eY mn (-1):=by rw[HGG.out];omega
    have HKN:=hid hkN;clear hkN;go_wp2_with fail
    refine(lG base M F2 m2 p2.cW p2.fst W3 M3 HP2 YZ).mono ?_;rintro e w5 ⟨⟨u,rfl⟩,hF5,hx5⟩;obtain⟨m4,uw⟩:=ag (iR m2 p2.cW p2.fst);rw[<-uw]at hF5;have K5:=hid hx5;have M5:=hid hF5;have P5:Hid (dH sk.2.cW m4.cK.length/\m4.cK.length<=448):=hid (by rw[uw];exact⟨by show dH _ (m2.cK.mapIdx _).length;rw[List.length_mapIdx];exact Dp,by show(m2.cK.mapIdx _).length<=_;rw[List.length_mapIdx];exact YZ⟩);have Zb:=hid uw;have X5:=hid (X3.keeps hx5 ⟨X3.lt,gF⟩);have O5:=hid (O3.keeps hx5 ⟨O3.lt,uN⟩);have N5:=hid (N3.keeps hx5 ⟨N3.lt,acH⟩);clear hx5 hF5 uw acI n5 n6 a0 a1 a2 a3 a4 a5 a6 a7 a8 a9 j9 kf a12 kh jt;have n5:w5.cell? ⟨w.heap.size,5,none⟩=some (.int .i64 mn):=N5.cell 5;obtain⟨a0,a1,a2,a3,a4,a5,a6,a7,a8,a9,j9,kf,a12,kh,jt⟩:=X5.part
    try dsimp only at a0 a1 a2 a3 a4 a5 a6 a7 a8 a9 j9 kf a12 kh jt
    obtain⟨eb,IY⟩:=ag p2.emp;rw[<-IY]at jt;have YY:=hid IY;clear IY;have Rs:w5.frozen? ⟨w2.heap.size,14,none⟩=false:=X5.frozen 14;cases eb;all_goals
     go_upto_region 12 with fail
     refine aA ?_;intro W6 uM;obtain⟨e6,Ru⟩:=ag ((p2.emp || decide (mn<=(k:Int))));obtain⟨p6,Rv⟩:=ag (⟨p2.fst,p2.cW,e6⟩:GP);have X6:Hid (ar W6 w2.heap.size (aB p6) 181):=by rw[Rv,uM,Ru, <-YY.out];exact hid (X5.set 14 _)
     have K6:Hid (ae (· ≠w2.heap.size) w5 W6):=by rw[uM];exact hid ((ae.refl (· ≠w2.heap.size) _).setCell (p:=⟨w2.heap.size,14,none⟩) (fun h=>h rfl) _)
     have O6:=hid (O5.keeps K6 (by have:=O3.lt;have:=Za.out;omega));have M6:Hid (fL base M F2 W6 m4):=hid (M5.keeps K6 fun x hx e=>gF (e▸hx))
     try clear n6
     clear uM n5 a0 a1 a2 a3 a4 a5 a6 a7 a8 a9 j9 kf a12 kh jt Rs;have HE6:=hid Ru;clear Ru;have HP6:=hid Rv;clear Rv;have CT:Hid (ah 203 #[.pointer (some ⟨M,0,none⟩),.agg (aB sk.2),.agg (aB p6)] W6 fun e w'=>e=.returned (.agg (aB (cR m4 sk.2 p6).2))/\fL base M F2 w' (cR m4 sk.2 p6).1/\ae (fun x=>x<W6.heap.size/\¬F2 x) W6 w'):=hid (oM base M F2 m4 sk.2 p6 W6 M6 P5.1 P5.2);have kW:dX mn (-1) (fun m=>t.dG m) m (k+1)=cR m4 sk.2 p6:=by
      rw[Ve.out,HP6.out,HE6.out];unfold Cb;rw[if_pos ⟨rfl,HKN.out⟩, <-Zb.out]
     have Fc:=hid kW;clear kW;obtain⟨m7,p7,Fe⟩:∃ m7 p7,cR m4 sk.2 p6=(m7,p7):=⟨_,_,rfl⟩;rw[Fe]at CT Fc;dsimp only at CT;clear Fe;go_wp2_with (first | (refine aZ rfl 181 (.tmp 6) rfl (w.heap.size+1+1) rfl (aB sk.2) _ O6.range Tryz.underlying181 rfl (bF _) ?_) | (refine aZ rfl 181 (.tmp 8) rfl w2.heap.size rfl (aB p6) _ X6.range Tryz.underlying181 rfl (bF _) ?_));refine CT.mono ?_;rintro e w8 ⟨rfl,hF3,hx⟩;have O8:=hid (O6.keeps hx ⟨O6.lt,uN⟩);have M8:=hid hF3;have Y4:=hid hx;clear hx hF3 CT;go_wp2_with (refine wpList_store_row rfl 181 (.tmp 6) (.tmp 54) rfl (w.heap.size+1+1) (aB p7) rfl rfl 181 (aB sk.2) O8 (bF _) rfl (eB _) ?_;refine Hid.out ?_);refine hid ?_;obtain⟨W9,gj⟩:=ag (w8.setRow (w.heap.size+1+1) (aB p7));rw[<-gj];have O9:Hid (ar W9 (w.heap.size+1+1) (aB p7) 181):=by rw[gj];exact hid O8.setRow
     have K9:Hid (ae (· ≠w.heap.size+1+1) w8 W9):=by rw[gj];exact hid (bJ _ _ _)
     clear gj;go_wp2;go_roundw;case rel=>
      refine⟨k+1,by omega,by go_num,?_⟩;rw[Fc.out];have h1:=Ng.size;have h2:=Za.out;have h3:=E3.size;have h4:=K6.size;have h5:=K5.size;refine⟨⟨F2,M8.keeps K9 fun x hx e=>uN (e▸hx),fun x h=>G2 x (WR x h),fun x h=>by rcases G3.out x h with h | h;exact KJ x h;exact .inr (by omega)⟩,O9,?_⟩;have hq:∀ x,x<V.heap.size->¬F x->¬F2 x:=fun x h h6 e=>by rcases G3.out x e with h7 | h7;(rcases KJ.out x h7 with h8 | h8;exact h6 h8;omega);omega
      have OJ:∀ x,x<V.heap.size->¬F x->¬F' x:=fun x h h6 e=>hq x h h6 (G2 x e)
      exact Ng.tr ((Vf.mono fun x hx=>⟨by have:=hx.1;omega,OJ x hx.1 hx.2.1⟩).tr ((E3.keeps.mono fun x hx=>by have:=hx.1;omega).tr ((K5.mono fun x hx=>⟨by have:=hx.1;omega,hq x hx.1 hx.2.1⟩).tr ((K6.mono fun x hx=>by have:=hx.1;omega).tr ((Y4.mono fun x hx=>⟨by have:=hx.1;omega,hq x hx.1 hx.2.1⟩).tr (K9.mono fun x hx=>hx.2.2))))))
     case measure=>simp[intOf];omega
   ·have hkN:¬ (k+1=eY mn (-1)):=by rw[HGG.out];omega
    have HKN:=hid hkN;clear hkN;obtain⟨m4,uw⟩:=ag m2;obtain⟨W5,Zc⟩:=ag W3;have K5:Hid (ae (fun x=>x<W3.heap.size/\¬F2 x) W3 W3):=hid (ae.refl _ _);have X5:=X3;have O5:=O3;have M5:Hid (fL base M F2 W3 m4):=hid (by rw[uw];exact M3);have P5:Hid (dH sk.2.cW m4.cK.length/\m4.cK.length<=448):=hid (by rw[uw];exact⟨Dp,YZ⟩);have Zb:=hid uw;clear uw W5 Zc;obtain⟨eb,IY⟩:=ag p2.emp;rw[<-IY]at jt;have YY:=hid IY;clear IY;have Rs:W3.frozen? ⟨w2.heap.size,14,none⟩=false:=X5.frozen 14;cases eb;all_goals
     go_upto_region 12 with fail
     refine aA ?_;intro W6 uM;obtain⟨e6,Ru⟩:=ag ((p2.emp || decide (mn<=(k:Int))));obtain⟨p6,Rv⟩:=ag (⟨p2.fst,p2.cW,e6⟩:GP);have X6:Hid (ar W6 w2.heap.size (aB p6) 181):=by rw[Rv,uM,Ru, <-YY.out];exact hid (X5.set 14 _)
     have K6:Hid (ae (· ≠w2.heap.size) W3 W6):=by rw[uM];exact hid ((ae.refl (· ≠w2.heap.size) _).setCell (p:=⟨w2.heap.size,14,none⟩) (fun h=>h rfl) _)
     have O6:=hid (O5.keeps K6 (by have:=O3.lt;have:=Za.out;omega));have M6:Hid (fL base M F2 W6 m4):=hid (M5.keeps K6 fun x hx e=>gF (e▸hx))
     try clear n6
     clear uM n5 a0 a1 a2 a3 a4 a5 a6 a7 a8 a9 j9 kf a12 kh jt Rs;have HE6:=hid Ru;clear Ru;have HP6:=hid Rv;clear Rv;have CT:Hid (ah 203 #[.pointer (some ⟨M,0,none⟩),.agg (aB sk.2),.agg (aB p6)] W6 fun e w'=>e=.returned (.agg (aB (cR m4 sk.2 p6).2))/\fL base M F2 w' (cR m4 sk.2 p6).1/\ae (fun x=>x<W6.heap.size/\¬F2 x) W6 w'):=hid (oM base M F2 m4 sk.2 p6 W6 M6 P5.1 P5.2);have kW:dX mn (-1) (fun m=>t.dG m) m (k+1)=cR m4 sk.2 p6:=by
      rw[Ve.out,HP6.out,HE6.out];unfold Cb;rw[if_neg (fun h=>HKN.out h.2), <-Zb.out]
     have Fc:=hid kW;clear kW;obtain⟨m7,p7,Fe⟩:∃ m7 p7,cR m4 sk.2 p6=(m7,p7):=⟨_,_,rfl⟩;rw[Fe]at CT Fc;dsimp only at CT;clear Fe;go_wp2_with (first | (refine aZ rfl 181 (.tmp 6) rfl (w.heap.size+1+1) rfl (aB sk.2) _ O6.range Tryz.underlying181 rfl (bF _) ?_) | (refine aZ rfl 181 (.tmp 8) rfl w2.heap.size rfl (aB p6) _ X6.range Tryz.underlying181 rfl (bF _) ?_));refine CT.mono ?_;rintro e w8 ⟨rfl,hF3,hx⟩;have O8:=hid (O6.keeps hx ⟨O6.lt,uN⟩);have M8:=hid hF3;have Y4:=hid hx;clear hx hF3 CT;go_wp2_with (refine wpList_store_row rfl 181 (.tmp 6) (.tmp 54) rfl (w.heap.size+1+1) (aB p7) rfl rfl 181 (aB sk.2) O8 (bF _) rfl (eB _) ?_;refine Hid.out ?_);refine hid ?_;obtain⟨W9,gj⟩:=ag (w8.setRow (w.heap.size+1+1) (aB p7));rw[<-gj];have O9:Hid (ar W9 (w.heap.size+1+1) (aB p7) 181):=by rw[gj];exact hid O8.setRow
     have K9:Hid (ae (· ≠w.heap.size+1+1) w8 W9):=by rw[gj];exact hid (bJ _ _ _)
     clear gj;go_wp2;go_roundw;case rel=>
      refine⟨k+1,by omega,by go_num,?_⟩;rw[Fc.out];have h1:=Ng.size;have h2:=Za.out;have h3:=E3.size;have h4:=K6.size;have h5:=K5.size;refine⟨⟨F2,M8.keeps K9 fun x hx e=>uN (e▸hx),fun x h=>G2 x (WR x h),fun x h=>by rcases G3.out x h with h | h;exact KJ x h;exact .inr (by omega)⟩,O9,?_⟩;have hq:∀ x,x<V.heap.size->¬F x->¬F2 x:=fun x h h6 e=>by rcases G3.out x e with h7 | h7;(rcases KJ.out x h7 with h8 | h8;exact h6 h8;omega);omega
      have OJ:∀ x,x<V.heap.size->¬F x->¬F' x:=fun x h h6 e=>hq x h h6 (G2 x e)
      exact Ng.tr ((Vf.mono fun x hx=>⟨by have:=hx.1;omega,OJ x hx.1 hx.2.1⟩).tr ((E3.keeps.mono fun x hx=>by have:=hx.1;omega).tr ((K5.mono fun x hx=>⟨by have:=hx.1;omega,hq x hx.1 hx.2.1⟩).tr ((K6.mono fun x hx=>by have:=hx.1;omega).tr ((Y4.mono fun x hx=>⟨by have:=hx.1;omega,hq x hx.1 hx.2.1⟩).tr (K9.mono fun x hx=>hx.2.2))))))
     case measure=>simp[intOf];omega
  ·obtain rfl:k=N:=by omega
   have Il:¬ ((k:Int)<k):=by omega
   obtain⟨hF',hO,hK⟩:=HI.out;rw[<-HST.out]at hF' hO;have Rj:=hid hF';have O3:=hid hO;have HK:=hid hK;have R3:Hid (ar wo (w.heap.size+1) (zeroV false) 181):=hid (R0.keeps hK ⟨R0.lt,fun e=>by have:=(HM.lt _ e).2;omega,by omega⟩);clear hF' hO hK HI;go_wp2_with (first | (refine aZ rfl 181 (.tmp 6) rfl (w.heap.size+1+1) rfl (aB st.2) _ O3.range Tryz.underlying181 rfl (bF _) ?_) | (refine wpList_store_row rfl 181 (.tmp 4) (.tmp 56) rfl (w.heap.size+1) (aB st.2) rfl rfl 181 (zeroV false) R3 (bF _) rfl (eB _) ?_;refine Hid.out ?_));refine hid ?_;obtain⟨V3,cX⟩:=ag (wo.setRow (w.heap.size+1) (aB st.2));rw[<-cX];have R9:Hid (ar V3 (w.heap.size+1) (aB st.2) 181):=by rw[cX];exact hid R3.setRow
   have K9:ae (· ≠w.heap.size+1) wo V3:=by rw[cX];exact bJ _ _ _
   clear cX;go_wp2;obtain⟨m0,m1,m2,m3,m4,m5,m6,m7,m8,m9,m10,m11,m12,m13,m14⟩:=R9.part;refine bodyPost_ret (v:=.agg (aB st.2)) (by simp[results,Tryz.results206,aB,go_sem,m0,m1,m2,m3,m4,m5,m6,m7,m8,m9,m10,m11,m12,m13,m14]) rfl ⟨rfl,?_,?_,?_⟩
   ·obtain⟨F',h1,h2,h3⟩:=Rj.out
    exact⟨F',h1.keeps K9 fun x hx e=>by(rcases h3 x hx with h | h; · exact absurd (HM.lt x h).2 (by omega));omega,h2,fun x hx=>(h3 x hx).imp id fun h=>by omega⟩
   ·exact(E0.keeps.mono fun x hx=>hx.1).tr ((HK.mono fun x hx=>⟨by have:=hx.1;omega,hx.2,by have:=hx.1;omega⟩).tr (K9.mono fun x hx=>by have:=hx.1;omega))
   ·have:=K9.size;have:=HK.size;omega
theorem acM (n0 base M:Nat) (F:Nat->Prop) (m:GM) (k0:Nat) (s:BS) (mn:Int) (N:Nat) (t:RX) (l:List RX) (p:Option Addr) (n c:Nat) (w:World) (dw:n0<=base) (h:fL base M F w m) (hr:aK (· <n0) w (.agg (aq k0 s mn (N:Int) (.slice p n c))) (.nd k0 s mn (N:Int) (t::l))) (ht:IV n0 t) (hf:t.full=true) (ok:m.ok) (hm:m.cK.length=m.aN.length) (hN:1<=N) (ag6:N<=16) (hG:eY mn (N:Int)=N) (hn:m.aN.length+N*t.cnt<=448): ah 206 #[.pointer (some ⟨M,0,none⟩),.agg (aq k0 s mn (N:Int) (.slice p n c))] w (jV base M F w (dX mn (N:Int) (fun m=>t.dG m) m N).1 (dX mn (N:Int) (fun m=>t.dG m) m N).2):=by
 have hlen:n=l.length+1:=by obtain⟨p2,c2,e⟩:=hr.form;simp[aq,RX.subs,RX.kind,RX.set,RX.mn,RX.mx]at e;exact e.2.1
 have fH:0<n:=by omega
 obtain⟨b,off,p',c',rfl,hb,rV,mQ,⟨e0,e1,e2,e3,e4,e5,e6,e7⟩,hrt⟩:=hr.elem (i:=0) (t:=t) rfl;simp only[Nat.zero_mul,Nat.add_zero]at e0 e1 e2 e3 e4 e5 e6 e7;have HM:=hid h;have Vc:=hid hrt;have HT:=hid ht;have TW:=hid hf;have km:=hid ok;have HGG:=hid hG;have Kv:=hid hm;have EE:=hid (And.intro e0 (And.intro e1 (And.intro e2 (And.intro e3 (And.intro e4 (And.intro e5 (And.intro e6 e7)))))));have WJ:M<w.heap.size:=(h.lt M h.fm).2;have acF:n0<=w.heap.size:=by have:=(h.lt M h.fm).1;omega
 have wZ:¬F b:=fun e=>by have:=(h.lt b e).1;omega
 obtain⟨st,hst⟩:=ag (dX mn (N:Int) (fun m=>t.dG m) m N);rw[<-hst];have HST:=hid hst;have HMU:=hid hn;clear h hr hrt ht hf ok hm hlen hst hG e0 e1 e2 e3 e4 e5 e6 e7 hn;have hmx:¬ ((N:Int)= -1):=by omega
 have anD:((N:Int)== -1)=false:=by simp[hmx]
 unfold aq;go_enter Tryz.func206,Tryz.ntmps206;go_upto_region 5 with fail
 refine aA ?_;intro V hV;have N0:Hid (ar V w.heap.size #[.int .u8 k0,.int .u64 (wd s 0).toNat,.int .u64 (wd s 1).toNat,.int .u64 (wd s 2).toNat,.int .u64 (wd s 3).toNat,.int .i64 mn,.int .i64 (N:Int),.slice (some ⟨b,off,none⟩) n c] 97):=by rw[hV];exact hid (((ar.new _ _ _).alloc _).alloc _)
 have R0:Hid (ar V (w.heap.size+1) (zeroV false) 181):=by rw[hV];exact hid ((ar.at (ar.new _ _ _) (by simp)).alloc _)
 have O0:Hid (ar V (w.heap.size+1+1) (zeroV true) 181):=by rw[hV];exact hid (ar.at (ar.new _ _ _) (by simp))
 have E0:Hid (Ext w V):=by rw[hV];exact hid ((((Ext.refl w).alloc _).alloc _).alloc _)
 have lN:Hid (V.heap.size=w.heap.size+1+1+1):=hid (by rw[hV];simp);clear hV;have yY:w.heap.size+1+1<V.heap.size:=by rw[lN.out];omega
 have MV:Hid (fL base M F V m):=hid (HM.keeps E0.keeps fun x hx=>(HM.lt x hx).2);go_wp2;go_loopw [18] (fun iv W=>∃ k:Nat,k<=N/\iv=.int .i64 k/\Vd base M F (dX mn (N:Int) (fun m=>t.dG m) m k) (w.heap.size+1+1) V W) (fun iv _=>N-(intOf iv).toNat);case atStart=>
  refine⟨0,by omega,rfl,?_⟩;exact⟨⟨F,MV,fun _ h=>h,fun _ h=>.inl h⟩,by show ar _ _ (aB ⟨0,0,true⟩) _;rw[iE];exact O0,ae.refl _ _⟩
 case round=>
  obtain⟨k,hk,rfl,hI⟩:=hrel;obtain⟨wo,rfl⟩:=ag (wr:World);have HI:=hid hI;clear hI;by_cases hlt:k<N
  ·have eE:(k:Int)<N:=by omega
   obtain⟨⟨F',yA,Nf,hF2⟩,hO,Fa⟩:=HI.out;have bS:=Fb TW km mn (N:Int) k;have lH:=nO t TW _ bS.ok;have ow:dX mn (N:Int) (fun m=>t.dG m) m (k+1)=Cb mn (N:Int) k (dX mn (N:Int) (fun m=>t.dG m) m k).2 (t.dG (dX mn (N:Int) (fun m=>t.dG m) m k).1):=rfl;have hmul:(k+1)*t.cnt<=N*t.cnt:=Nat.mul_le_mul_right _ hlt;have Rp:(k+1)*t.cnt=k*t.cnt+t.cnt:=Nat.succ_mul _ _;have hmu:=HMU.out;obtain⟨sk,hsk⟩:=ag (dX mn (N:Int) (fun m=>t.dG m) m k);rw[<-hsk]at hO yA ow bS lH;obtain⟨m2,p2,wX⟩:∃ m2 p2,t.dG sk.1=(m2,p2):=⟨_,_,rfl⟩;rw[wX]at ow lH;have vG:=lH.len;have hl2:=bS.len;have Cm:=lH.ok.len;have Y8:=lH.gp;dsimp only at vG Cm Y8;have Dp:Hid (dH sk.2.cW m2.cK.length):=hid (bS.gp.cW.mono (by omega));have HP2:Hid (dH p2.cW m2.cK.length):=hid (Y8.cW.mono (by omega));have YZ:Hid (m2.cK.length<=448):=hid (by omega);have CM:Hid (∀ W,fL base M F' W sk.1->aK (· <n0) W (.agg (aq t.kind t.set t.mn t.mx (.slice p' t.subs.length c'))) t->ah 102 #[.pointer (some ⟨M,0,none⟩),.agg (aq t.kind t.set t.mn t.mx (.slice p' t.subs.length c'))] W (jV base M F' W m2 p2)):=hid fun W h1 h2=>by
    have:=HT.out base M F' sk.1 W _ dw h1 h2 bS.ok bS.ok.len (by omega);rw[wX]at this;exact this
   have Ve:=hid ow;have Rn:¬F' (w.heap.size+1+1):=fun e=>by rcases hF2 _ e with h | h;exact absurd (HM.lt _ h).2 (by omega);omega
   have hnN:¬F' w.heap.size:=fun e=>by rcases hF2 _ e with h | h;exact absurd (HM.lt _ h).2 (by omega);omega
   have KO:Hid (ae (fun x=>x<w.heap.size/\¬F x) w wo):=hid ((E0.keeps.mono fun x hx=>hx.1).tr (Fa.mono fun x hx=>⟨by have:=hx.1;omega,hx.2,by have:=hx.1;omega⟩));have Bd:=Fa.size;have NO:Hid (ar wo w.heap.size #[.int .u8 k0,.int .u64 (wd s 0).toNat,.int .u64 (wd s 1).toNat,.int .u64 (wd s 2).toNat,.int .u64 (wd s 3).toNat,.int .i64 mn,.int .i64 (N:Int),.slice (some ⟨b,off,none⟩) n c] 97):=hid (N0.keeps Fa ⟨by omega,fun e=>by have:=(HM.lt _ e).2;omega,by omega⟩);have O1:=hid hO;have M1:=hid yA;have R1:Hid (aK (· <n0) wo (.agg (aq t.kind t.set t.mn t.mx (.slice p' t.subs.length c'))) t):=hid (Vc.keeps KO fun x hx=>⟨by omega,fun e=>by have:=(HM.lt x e).1;omega⟩);have ec:∀ (o:Nat) (u:Value),w.cell? ⟨b,o,none⟩=some u->wo.cell? ⟨b,o,none⟩=some u:=fun o u h=>(KO.cell (p:=⟨b,o,none⟩) ⟨rV,wZ⟩).trans h
   obtain⟨e0,e1,e2,e3,e4,e5,e6,e7⟩:=EE.out;replace e0:=ec _ _ e0;replace e1:=ec _ _ e1;replace e2:=ec _ _ e2;replace e3:=ec _ _ e3;replace e4:=ec _ _ e4;replace e5:=ec _ _ e5;replace e6:=ec _ _ e6;replace e7:=ec _ _ e7;have n5:wo.cell? ⟨w.heap.size,5,none⟩=some (.int .i64 mn):=NO.cell 5;have n6:wo.cell? ⟨w.heap.size,6,none⟩=some (.int .i64 (N:Int)):=NO.cell 6;have n7:wo.cell? ⟨w.heap.size,7,none⟩=some (.slice (some ⟨b,off,none⟩) n c):=NO.cell 7;have WR:=hid Nf;have KJ:=hid hF2;have Ng:=hid Fa;have rW:=hid Rn;have pA:=hid hnN;have KN:=hid (CM.out wo M1 R1);clear ow wX hsk hO yA Nf hF2 Fa Rn hnN HI bS lH vG hl2 Cm Y8 hmul Rp hmu ec CM M1 R1;go_wp2_with fail
   refine KN.mono ?_;rintro e w2 ⟨rfl,hF'',hx,hsz⟩;have hOl:w.heap.size+1+1<wo.heap.size:=O1.lt;have O2:=hid (O1.keeps hx ⟨O1.lt,rW⟩);have N2:=hid (NO.keeps hx ⟨NO.lt,pA⟩);obtain⟨F2,g1,g2,g3⟩:=hF'';have jg:¬F2 (w.heap.size+1+1):=fun e=>by rcases g3 _ e with h | h;exact rW h;omega
   have Rq:¬F2 w.heap.size:=fun e=>by rcases g3 _ e with h | h;exact pA h;omega
   have M2:=hid g1;have G2:=hid g2;have G3:=hid g3;have uN:=hid jg;have acH:=hid Rq;have Vf:=hid hx;have Za:=hid hsz;clear hx g1 g2 g3 jg Rq hsz KN O1 NO e0 e1 e2 e3 e4 e5 e6 e7 n5 n6 n7;unfold aB;go_upto_region 9 with fail
   refine aA ?_;intro W3 hW3;have X3:Hid (ar W3 w2.heap.size (aB p2) 181):=by rw[hW3];exact hid (ar.new _ _ _)
   have E3:Hid (Ext w2 W3):=by rw[hW3];exact hid ((Ext.refl w2).alloc _)
   have O3:=hid (O2.ext E3);have N3:=hid (N2.ext E3);have M3:Hid (fL base M F2 W3 m2):=hid (M2.keeps E3.keeps fun x hx=>(M2.lt x hx).2);have hx2:¬F2 w2.heap.size:=fun e=>by have:=(M2.lt _ e).2;omega
   have gF:=hid hx2;clear hW3 hx2 O2 N2;have n5:W3.cell? ⟨w.heap.size,5,none⟩=some (.int .i64 mn):=N3.cell 5;have n6:W3.cell? ⟨w.heap.size,6,none⟩=some (.int .i64 (N:Int)):=N3.cell 6;obtain⟨a0,a1,a2,a3,a4,a5,a6,a7,a8,a9,j9,kf,a12,kh,jt⟩:=X3.part
   try dsimp only at a0 a1 a2 a3 a4 a5 a6 a7 a8 a9 j9 kf a12 kh jt
   obtain⟨m4,uw⟩:=ag m2;obtain⟨W5,Zc⟩:=ag W3;have K5:Hid (ae (fun x=>x<W3.heap.size/\¬F2 x) W3 W3):=hid (ae.refl _ _);have X5:=X3;have O5:=O3;have M5:Hid (fL base M F2 W3 m4):=hid (by rw[uw];exact M3);have P5:Hid (dH sk.2.cW m4.cK.length/\m4.cK.length<=448):=hid (by rw[uw];exact⟨Dp,YZ⟩);have Zb:=hid uw;clear uw W5 Zc;obtain⟨eb,IY⟩:=ag p2.emp;rw[<-IY]at jt;have YY:=hid IY;clear IY;have Rs:W3.frozen? ⟨w2.heap.size,14,none⟩=false:=X5.frozen 14;cases eb;all_goals
    go_upto_region 12 with fail
    refine aA ?_;intro W6 uM;obtain⟨e6,Ru⟩:=ag ((p2.emp || decide (mn<=(k:Int))));obtain⟨p6,Rv⟩:=ag (⟨p2.fst,p2.cW,e6⟩:GP);have X6:Hid (ar W6 w2.heap.size (aB p6) 181):=by rw[Rv,uM,Ru, <-YY.out];exact hid (X5.set 14 _)
    have K6:Hid (ae (· ≠w2.heap.size) W3 W6):=by rw[uM];exact hid ((ae.refl (· ≠w2.heap.size) _).setCell (p:=⟨w2.heap.size,14,none⟩) (fun h=>h rfl) _)
    have O6:=hid (O5.keeps K6 (by have:=O3.lt;have:=Za.out;omega));have M6:Hid (fL base M F2 W6 m4):=hid (M5.keeps K6 fun x hx e=>gF (e▸hx))
    try clear n6
    clear uM n5 a0 a1 a2 a3 a4 a5 a6 a7 a8 a9 j9 kf a12 kh jt Rs;have HE6:=hid Ru;clear Ru;have HP6:=hid Rv;clear Rv;have CT:Hid (ah 203 #[.pointer (some ⟨M,0,none⟩),.agg (aB sk.2),.agg (aB p6)] W6 fun e w'=>e=.returned (.agg (aB (cR m4 sk.2 p6).2))/\fL base M F2 w' (cR m4 sk.2 p6).1/\ae (fun x=>x<W6.heap.size/\¬F2 x) W6 w'):=hid (oM base M F2 m4 sk.2 p6 W6 M6 P5.1 P5.2);have kW:dX mn (N:Int) (fun m=>t.dG m) m (k+1)=cR m4 sk.2 p6:=by
     rw[Ve.out,HP6.out,HE6.out];unfold Cb;rw[if_neg (fun h=>hmx h.1), <-Zb.out]
    have Fc:=hid kW;clear kW;obtain⟨m7,p7,Fe⟩:∃ m7 p7,cR m4 sk.2 p6=(m7,p7):=⟨_,_,rfl⟩;rw[Fe]at CT Fc;dsimp only at CT;clear Fe;go_wp2_with (first | (refine aZ rfl 181 (.tmp 6) rfl (w.heap.size+1+1) rfl (aB sk.2) _ O6.range Tryz.underlying181 rfl (bF _) ?_) | (refine aZ rfl 181 (.tmp 8) rfl w2.heap.size rfl (aB p6) _ X6.range Tryz.underlying181 rfl (bF _) ?_));refine CT.mono ?_;rintro e w8 ⟨rfl,hF3,hx⟩;have O8:=hid (O6.keeps hx ⟨O6.lt,uN⟩);have M8:=hid hF3;have Y4:=hid hx;clear hx hF3 CT;go_wp2_with (refine wpList_store_row rfl 181 (.tmp 6) (.tmp 54) rfl (w.heap.size+1+1) (aB p7) rfl rfl 181 (aB sk.2) O8 (bF _) rfl (eB _) ?_;refine Hid.out ?_);refine hid ?_;obtain⟨W9,gj⟩:=ag (w8.setRow (w.heap.size+1+1) (aB p7));rw[<-gj];have O9:Hid (ar W9 (w.heap.size+1+1) (aB p7) 181):=by rw[gj];exact hid O8.setRow
    have K9:Hid (ae (· ≠w.heap.size+1+1) w8 W9):=by rw[gj];exact hid (bJ _ _ _)
    clear gj;go_wp2;go_roundw;case rel=>
     refine⟨k+1,by omega,by go_num,?_⟩;rw[Fc.out];have h1:=Ng.size;have h2:=Za.out;have h3:=E3.size;have h4:=K6.size;have h5:=K5.size;refine⟨⟨F2,M8.keeps K9 fun x hx e=>uN (e▸hx),fun x h=>G2 x (WR x h),fun x h=>by rcases G3.out x h with h | h;exact KJ x h;exact .inr (by omega)⟩,O9,?_⟩;have hq:∀ x,x<V.heap.size->¬F x->¬F2 x:=fun x h h6 e=>by rcases G3.out x e with h7 | h7;(rcases KJ.out x h7 with h8 | h8;exact h6 h8;omega);omega
     have OJ:∀ x,x<V.heap.size->¬F x->¬F' x:=fun x h h6 e=>hq x h h6 (G2 x e)
     exact Ng.tr ((Vf.mono fun x hx=>⟨by have:=hx.1;omega,OJ x hx.1 hx.2.1⟩).tr ((E3.keeps.mono fun x hx=>by have:=hx.1;omega).tr ((K5.mono fun x hx=>⟨by have:=hx.1;omega,hq x hx.1 hx.2.1⟩).tr ((K6.mono fun x hx=>by have:=hx.1;omega).tr ((Y4.mono fun x hx=>⟨by have:=hx.1;omega,hq x hx.1 hx.2.1⟩).tr (K9.mono fun x hx=>hx.2.2))))))
    case measure=>simp[intOf];omega
  ·obtain rfl:k=N:=by omega
   have Il:¬ ((k:Int)<k):=by omega
   obtain⟨hF',hO,hK⟩:=HI.out;rw[<-HST.out]at hF' hO;have Rj:=hid hF';have O3:=hid hO;have HK:=hid hK;have R3:Hid (ar wo (w.heap.size+1) (zeroV false) 181):=hid (R0.keeps hK ⟨R0.lt,fun e=>by have:=(HM.lt _ e).2;omega,by omega⟩);clear hF' hO hK HI;go_wp2_with (first | (refine aZ rfl 181 (.tmp 6) rfl (w.heap.size+1+1) rfl (aB st.2) _ O3.range Tryz.underlying181 rfl (bF _) ?_) | (refine wpList_store_row rfl 181 (.tmp 4) (.tmp 56) rfl (w.heap.size+1) (aB st.2) rfl rfl 181 (zeroV false) R3 (bF _) rfl (eB _) ?_;refine Hid.out ?_));refine hid ?_;obtain⟨V3,cX⟩:=ag (wo.setRow (w.heap.size+1) (aB st.2));rw[<-cX];have R9:Hid (ar V3 (w.heap.size+1) (aB st.2) 181):=by rw[cX];exact hid R3.setRow
   have K9:ae (· ≠w.heap.size+1) wo V3:=by rw[cX];exact bJ _ _ _
   clear cX;go_wp2;obtain⟨m0,m1,m2,m3,m4,m5,m6,m7,m8,m9,m10,m11,m12,m13,m14⟩:=R9.part;refine bodyPost_ret (v:=.agg (aB st.2)) (by simp[results,Tryz.results206,aB,go_sem,m0,m1,m2,m3,m4,m5,m6,m7,m8,m9,m10,m11,m12,m13,m14]) rfl ⟨rfl,?_,?_,?_⟩
   ·obtain⟨F',h1,h2,h3⟩:=Rj.out
    exact⟨F',h1.keeps K9 fun x hx e=>by(rcases h3 x hx with h | h; · exact absurd (HM.lt x h).2 (by omega));omega,h2,fun x hx=>(h3 x hx).imp id fun h=>by omega⟩
   ·exact(E0.keeps.mono fun x hx=>hx.1).tr ((HK.mono fun x hx=>⟨by have:=hx.1;omega,hx.2,by have:=hx.1;omega⟩).tr (K9.mono fun x hx=>by have:=hx.1;omega))
   ·have:=K9.size;have:=HK.size;omega
def eJ (M X:Nat):Array Value:= #[.func (.func 198) #[] #[],.func (.func 199) #[] #[],.func (.func 200) #[] #[.pointer (some ⟨X,0,none⟩)],.func (.func 202) #[] #[.pointer (some ⟨X,0,none⟩)],
 .func (.func 204) #[] #[.pointer (some ⟨X,0,none⟩)],.func (.func 206) #[.pointer (some ⟨M,0,none⟩)] #[],.func (.func 207) #[] #[.pointer (some ⟨X,0,none⟩)]]
theorem Nh (M:Nat) (w:World):ah 163 #[.pointer (some ⟨M,0,none⟩)] w fun e w'=>e=.returned (.agg (eJ M w.heap.size))/\Ext w w'/\w'.cell? ⟨w.heap.size,0,none⟩=some (.pointer (some ⟨M,0,none⟩)):=by
 go_enter Tryz.func163,Tryz.ntmps163
 go_wp2;refine bA ?_;intro V hV;have R1:Hid (ar V (w.heap.size+1) (eJ M w.heap.size) 253):=by
  rw[hV];exact hid (ar.at (ar.new _ _ _) (by simp))
 have B0:Hid (ar V w.heap.size #[.pointer (some ⟨M,0,none⟩)] 174):=by rw[hV];exact hid ((ar.new _ _ _).alloc _)
 have X1:Ext w V:=by rw[hV];exact((Ext.refl w).alloc _).alloc _
 clear hV;have m0:=R1.cell 0;have m1:=R1.cell 1;have m2:=R1.cell 2;have m3:=R1.cell 3;have m4:=R1.cell 4;have m5:=R1.cell 5;have m6:=R1.cell 6;simp only[eJ,List.getElem?_toArray,List.getElem?_cons_zero,List.getElem?_cons_succ]at m0 m1 m2 m3 m4 m5 m6;refine bodyPost_ret (v:=.agg (eJ M w.heap.size)) (by simp[results,Tryz.results163,eJ,go_sem,m0,m1,m2,m3,m4,m5,m6]) rfl ⟨rfl,X1,B0.cell 0⟩
def WU (base M:Nat) (F:Nat->Prop) (w:World) (m:GM) (p:GP) (e:Ending) (w':World):Prop:=
 e=.returned (.agg (aB p))/\(∃ F',fL base M F' w' m/\(∀ x,F x->F' x)/\∀ x,F' x->F x\/w.heap.size<=x)/\ae (fun x=>x<w.heap.size/\¬F x) w w'
def kF (k:Nat):FuncId:=if k=1 then 199 else if k=2 then 200 else if k=3 then 202 else if k=4 then 204 else if k=5 then 206 else 207
def acN (k M X:Nat) (v:Value):Array Value:=if k=1 then #[v]else if k=5 then #[.pointer (some ⟨M,0,none⟩),v]else #[v,.pointer (some ⟨X,0,none⟩)]
def acO.tab (M n9:Nat):aX (Move false (fun _=>False)) where
 P:=fun v=>∃ X,v=.agg (eJ M X)/\n9<=X
 H:=fun v W=>∀ X,v=.agg (eJ M X)->X<W.heap.size/\W.cell? ⟨X,0,none⟩=some (.pointer (some ⟨M,0,none⟩))
 ot:=.agg (eJ M n9)
 pw:=⟨n9,rfl,aG _⟩
 st:=fun _ _ _ hm _ h X e=>⟨aD (h X e).1 hm.size,((ae.ai hm.below fun _ h=>h:ae (· <_) _ _).cell (p:=⟨X,0,none⟩) (h X e).1).trans (h X e).2⟩
theorem IZ {M X Y:Nat} (h:Value.agg (eJ M X)=.agg (eJ M Y)):X=Y:=by
 injection h with h
 have:=congrArg (fun a:Array Value=>a[2]?) h;simp[eJ]at this;exact this
theorem lI (M X:Nat) (W:World): (Instr.index 253 (.agg (eJ M X)) (.int .u8 1)).run Tryz.prog W=.ok (.func (.func 199) #[] #[]) W/\ (Instr.index 253 (.agg (eJ M X)) (.int .u8 2)).run Tryz.prog W=.ok (.func (.func 200) #[] #[.pointer (some ⟨X,0,none⟩)]) W/\ (Instr.index 253 (.agg (eJ M X)) (.int .u8 3)).run Tryz.prog W=.ok (.func (.func 202) #[] #[.pointer (some ⟨X,0,none⟩)]) W/\ (Instr.index 253 (.agg (eJ M X)) (.int .u8 4)).run Tryz.prog W=.ok (.func (.func 204) #[] #[.pointer (some ⟨X,0,none⟩)]) W/\ (Instr.index 253 (.agg (eJ M X)) (.int .u8 5)).run Tryz.prog W=.ok (.func (.func 206) #[.pointer (some ⟨M,0,none⟩)] #[]) W/\ (Instr.index 253 (.agg (eJ M X)) (.int .u8 6)).run Tryz.prog W=.ok (.func (.func 207) #[] #[.pointer (some ⟨X,0,none⟩)]) W:=by refine⟨?_,?_,?_,?_,?_,?_⟩<;>simp[Instr.index,asIntOf,run_underlying Tryz.underlying253,part,Tryz.isAgg182,Tryz.sizeOf182,eJ,go_sem]
theorem I0 (n0 base M:Nat) (F:Nat->Prop) (m m2:GM) (p2:GP) (k:Nat) (s:BS) (mn mx:Int) (l:List RX) (p:Option Addr) (n c:Nat) (w:World) (dw:n0<=base) (h:fL base M F w m) (hr:aK (· <n0) w (.agg (aq k s mn mx (.slice p n c))) (.nd k s mn mx l)) (h1:1<=k) (h6:k<=6) (HCl:∀ (W:World) (X:Nat),fL base M F W m->aK (· <n0) W (.agg (aq k s mn mx (.slice p n c))) (.nd k s mn mx l)->W.cell? ⟨X,0,none⟩=some (.pointer (some ⟨M,0,none⟩))->¬F X->ah (kF k) (acN k M X (.agg (aq k s mn mx (.slice p n c)))) W (WU base M F W m2 p2)): ah 102 #[.pointer (some ⟨M,0,none⟩),.agg (aq k s mn mx (.slice p n c))] w (jV base M F w m2 p2):=by
 have HM:=hid h;have HR:=hid hr;have HCL:=hid HCl;have WJ:M<w.heap.size:=(h.lt M h.fm).2;have acF:n0<=w.heap.size:=by have:=(h.lt M h.fm).1;omega
 clear h hr HCl;unfold aq;go_enter Tryz.func102,Tryz.ntmps102;go_upto_region 1 with fail
 refine aA ?_;intro V hV;have N0:Hid (ar V w.heap.size (aq k s mn mx (.slice p n c)) 97):=by rw[hV];exact hid ((ar.new _ _ _).alloc _)
 have R0:Hid (ar V (w.heap.size+1) (zeroV false) 181):=by rw[hV];exact hid (ar.at (ar.new _ _ _) (by simp))
 have E0:Hid (Ext w V):=by rw[hV];exact hid (((Ext.refl w).alloc _).alloc _)
 have lN:Hid (V.heap.size=w.heap.size+1+1):=hid (by rw[hV];simp);clear hV;have yY:w.heap.size+1<V.heap.size:=by rw[lN.out];omega
 have e0:V.cell? ⟨w.heap.size,0,none⟩=some (.int .u8 k):=N0.cell 0;have e1:V.cell? ⟨w.heap.size,1,none⟩=some (.int .u64 (wd s 0).toNat):=N0.cell 1;have e2:V.cell? ⟨w.heap.size,2,none⟩=some (.int .u64 (wd s 1).toNat):=N0.cell 2;have e3:V.cell? ⟨w.heap.size,3,none⟩=some (.int .u64 (wd s 2).toNat):=N0.cell 3;have e4:V.cell? ⟨w.heap.size,4,none⟩=some (.int .u64 (wd s 3).toNat):=N0.cell 4;have e5:V.cell? ⟨w.heap.size,5,none⟩=some (.int .i64 mn):=N0.cell 5;have e6:V.cell? ⟨w.heap.size,6,none⟩=some (.int .i64 mx):=N0.cell 6;have e7:V.cell? ⟨w.heap.size,7,none⟩=some (.slice p n c):=N0.cell 7;have WV:w.heap.size<V.heap.size:=N0.lt;have hk:k=1\/k=2\/k=3\/k=4\/k=5\/k=6:=by omega
 clear h1 h6;rcases hk with rfl | rfl | rfl | rfl | rfl | rfl
 all_goals
  refine aL false (fun _=>False) (by kernel_rfl) 6 [0,1,0,4,15,0,63,127] (fun i=>i==1 || i==6 || i==7) (by kernel_rfl) (fun i=>if i=1 then acO.tab M w.heap.size else aX.any _) ?_;intro C hC hne;have HC:=hid hC;have f0:=aC hC (p:=⟨w.heap.size,0,none⟩) WV (fun h=>h) e0;have f1:=aC hC (p:=⟨w.heap.size,1,none⟩) WV (fun h=>h) e1;have f2:=aC hC (p:=⟨w.heap.size,2,none⟩) WV (fun h=>h) e2;have f3:=aC hC (p:=⟨w.heap.size,3,none⟩) WV (fun h=>h) e3;have f4:=aC hC (p:=⟨w.heap.size,4,none⟩) WV (fun h=>h) e4;have f5:=aC hC (p:=⟨w.heap.size,5,none⟩) WV (fun h=>h) e5;have f6:=aC hC (p:=⟨w.heap.size,6,none⟩) WV (fun h=>h) e6;have f7:=aC hC (p:=⟨w.heap.size,7,none⟩) WV (fun h=>h) e7;clear hC e0 e1 e2 e3 e4 e5 e6 e7
  repeat (refine au (fun K hK=>?_);first | (refine cg rfl ?_;try go_simp;refine hK _ _ ?_;clear hK K) | (refine bV rfl rfl ?_;unfold aF;go_simp;refine hK _ _ ?_;clear hK K))
  refine au (fun K hK=>?_);refine ct rfl rfl (acO.tab M w.heap.size) rfl (fun W hW hN=>?_) (fun v hv=>?_)
  ·have hM:=(HC.out W).1 hW
   clear hW hN hK K;go_simp;refine bI ((Nh M W).mono ?_);rintro e w' ⟨rfl,hx,hc⟩;have hz:=hM.size;exact⟨_,rfl,Move.ext hx,⟨_,rfl,by omega⟩,fun Y hY=>by have:=IZ hY;subst this;exact⟨World.block_lt_of_cell? _ _ hc,hc⟩⟩
  obtain⟨X,rfl,hXn⟩:=hv;have ix1:=fun W=>(lI M X W).1
  have ix2:=fun W=>(lI M X W).2.1
  have ix3:=fun W=>(lI M X W).2.2.1
  have ix4:=fun W=>(lI M X W).2.2.2.1
  have ix5:=fun W=>(lI M X W).2.2.2.2.1
  have ix6:=fun W=>(lI M X W).2.2.2.2.2
  go_simp;refine hK _ _ ?_;clear hK K
  repeat (refine au (fun K hK=>?_);first | (refine cg rfl ?_;try go_simp;refine hK _ _ ?_;clear hK K) | (refine bV rfl rfl ?_;unfold aF;go_simp;refine hK _ _ ?_;clear hK K))
  refine bM (fun W hW hH=>?_);have ki:=(HC.out W).1 hW;obtain⟨hXl,hXc⟩:X<W.heap.size/\W.cell? ⟨X,0,none⟩=some (.pointer (some ⟨M,0,none⟩)):=(hH _ (aw (show _=some _ from rfl:_[0]? =some _))) X rfl;have MW:Hid (fL base M F W m):=hid ((HM.keeps E0.keeps fun x hx=>(HM.lt x hx).2).keeps (ae.ai ki.below fun _ h=>h:ae (· <V.heap.size) V W) fun x hx=>by have:=(HM.lt x hx).2;omega);have IW:=hid ((HR.keeps E0.keeps fun x hx=>by omega).keeps (ae.ai ki.below fun _ h=>h:ae (· <V.heap.size) V W) fun x hx=>by omega);have RW:=hid (R0.below ki.below R0.lt);have KW:Hid (ae (· <w.heap.size) w W):=hid (E0.keeps.tr (ae.ai ki.below fun x hx=>by omega:ae (· <w.heap.size) V W));have s7:w.heap.size+1<W.heap.size:=by have:=ki.size;omega
  have hnX:¬F X:=fun e=>by have:=(HM.lt X e).2;omega
  have CC:=hid (HCL.out W X MW IW hXc hnX);clear ki hW hH HC hne f0 f1 f2 f3 f4 f5 f6 f7 MW IW HCL hXc ix1 ix2 ix3 ix4 ix5 ix6;go_wp2_with fail
  refine CC.mono ?_;rintro e w3 ⟨rfl,hF',hx⟩;have oK:∀ k,w.heap.size<=k->¬F k:=fun k hk e=>by have:=(HM.lt k e).2;omega
  have R3:Hid (ar w3 (w.heap.size+1) (zeroV false) 181):=hid (RW.keeps hx ⟨by omega,oK _ (by omega)⟩);have Rj:=hid hF';have HK:=hid hx;have hs3:=hx.size;clear hx hF' CC;go_wp2_with (refine wpList_store_row rfl 181 (.tmp 4) (.tmp 11) rfl (w.heap.size+1) (aB p2) rfl rfl 181 (zeroV false) R3 (bF _) rfl (eB _) ?_;refine Hid.out ?_);refine hid ?_;obtain⟨V3,cX⟩:=ag (w3.setRow (w.heap.size+1) (aB p2));rw[<-cX];have R9:Hid (ar V3 (w.heap.size+1) (aB p2) 181):=by rw[cX];exact hid R3.setRow
  have K9:ae (· ≠w.heap.size+1) w3 V3:=by rw[cX];exact bJ _ _ _
  clear cX;go_wp2;obtain⟨m0,m1,m2,m3,m4,m5,m6,m7,m8,m9,m10,m11,m12,m13,m14⟩:=R9.part;refine bodyPost_ret (v:=.agg (aB p2)) (by simp[results,Tryz.results102,aB,go_sem,m0,m1,m2,m3,m4,m5,m6,m7,m8,m9,m10,m11,m12,m13,m14]) rfl ⟨rfl,?_,?_,?_⟩
  ·obtain⟨F',h1,h2,h3⟩:=Rj.out
   refine⟨F',h1.keeps K9 fun x hx e=>by(rcases h3 x hx with h | h;exact oK _ (by omega) h;omega),h2,fun x hx=>(h3 x hx).imp id fun h=>by omega⟩
  ·exact(KW.mono fun x hx=>hx.1).tr ((HK.mono fun x hx=>⟨by have:=hx.1;omega,hx.2⟩).tr (K9.mono fun x hx=>by have:=hx.1;omega))
  ·have:=K9.size;omega
theorem jV.clo {base M:Nat} {F:Nat->Prop} {w:World} {m:GM} {p:GP} {e:Ending} {w':World} (h:jV base M F w m p e w'):WU base M F w m p e w':=⟨h.1,h.2.1,h.2.2.1⟩
theorem oN {l:List RX} :∀ {t:RX},t∈l->t.size<=RX.sizes l:=by
 induction l with
 | nil=>intro t h;cases h
 | cons x l ih=>
  intro t h;rw[RX.sizes];rcases List.mem_cons.1 h with rfl | h
  ·omega
  ·have:=ih h;omega
theorem xd:∀ (l:List RX),l.length<=RX.sizes l
 | []=>Nat.zero_le _
 | t::l=>by rw[RX.sizes,List.length_cons];have:=size_pos t;have:=xd l;omega
theorem Rw (n0:Nat) (t:RX):t.fine->t.size<=10000->IV n0 t:=by
 induction t using RX.ind with
 | h k s mn mx l ih=>
  intro hf hs;obtain⟨hr,hl⟩:=lY.1 hf;obtain⟨_,q2,q3,q4,q5,q6,_⟩:=s5 hr;rw[RX.size]at hs;have hlen:=xd l;have ih:∀ t∈l,IV n0 t:=fun t ht=>ih t ht (hl t ht) (by have:=oN ht;omega)
  have xe:∀ t∈l,t.full=true:=fun t ht=>qm t (hl t ht)
  intro base M F m w v dw hm hv ok pG acQ;obtain⟨p,c,rfl⟩:=hv.form;simp only[RX.kind,RX.set,RX.mn,RX.mx,RX.subs]at hv ⊢;refine I0 n0 base M F m _ _ k s mn mx l p _ c w dw hm hv (by omega) q4 fun W X hW hvW hX EX=>?_
  have hk:k=1\/k=2\/k=3\/k=4\/k=5\/k=6:=by omega
  rcases hk with rfl | rfl | rfl | rfl | rfl | rfl
  ·have e:(RX.nd 1 s mn mx l).dG m=(m,⟨0,0,true⟩):=by rw[RX.dG];rfl
   rw[e];refine(IJ 1 s mn mx _ W).mono ?_;rintro e w' ⟨rfl,hx⟩;exact⟨by show _=Ending.returned (.agg (aB ⟨0,0,true⟩));rw[iE],⟨F,hW.keeps hx fun x h=>(hW.lt x h).2,fun _ h=>h,fun _ h=>.inl h⟩,hx.mono fun _ h=>h.1⟩
  ·have e:(RX.nd 2 s mn mx l).dG m=(⟨m.aN++ [s],m.cK++ [0]⟩,⟨eI m.aN.length,eI m.aN.length,false⟩):=by rw[RX.dG];rfl
   rw[e];have hc1:(RX.nd 2 s mn mx l).cnt=1:=by rw[RX.cnt];rfl
   exact(IM base M F m s mn mx _ X W hW hX EX pG (by omega)).mono fun e w' h=>h
  ·have e:(RX.nd 3 s mn mx l).dG m=RX.jd l (m,⟨0,0,true⟩):=by rw[RX.dG];rfl
   have hc1:(RX.nd 3 s mn mx l).cnt=RX.gI l:=by rw[RX.cnt];rfl
   rw[e];exact(Ro n0 base M F m 3 s mn mx l p _ c X W dw hW hvW ih xe hX EX ok pG (by omega) (by omega)).mono fun e w' h=>h.clo
  ·have e:(RX.nd 4 s mn mx l).dG m=RX.fW l (m,⟨0,0,false⟩):=by rw[RX.dG];rfl
   have hc1:(RX.nd 4 s mn mx l).cnt=RX.gI l:=by rw[RX.cnt];rfl
   rw[e];exact(Rm n0 base M F m 4 s mn mx l p _ c X W dw hW hvW ih xe hX EX ok pG (by omega) (by omega)).mono fun e w' h=>h.clo
  ·have hb:=q6 rfl
   obtain⟨g1,g2,g3⟩:=uj hb;obtain⟨t,l',rfl⟩:∃ t l',l=t::l':=by
    cases l with
    | nil=>have:=q5 (.inl rfl);simp at this
    | cons t l'=>exact⟨t,l',rfl⟩
   have e:(RX.nd 5 s mn mx (t::l')).dG m=dX mn mx (fun m=>t.dG m) m (eY mn mx):=by rw[RX.dG];show RX.rpG mn mx (t::l') m=_;rw[RX.rpG]
   have hc1:(RX.nd 5 s mn mx (t::l')).cnt=eY mn mx*t.cnt:=by rw[RX.cnt];show eY mn mx*RX.cnt1 (t::l')=_;rw[RX.cnt1]
   rw[e];have hmx:mx= -1\/(1<=mx/\mx≠ -1):=by
    unfold iK at hb;split at hb
    ·cases hb
    ·simp at hb
     omega
   rcases hmx with rfl | ⟨hmx,hne⟩
   ·refine(acE n0 base M F m 5 s mn (eY mn (-1)) t l' p _ c W dw hW hvW (ih t (aY ..)) (xe t (aY ..)) ok pG ?_ g3 rfl (by omega)).mono fun e w' h=>h.clo
    unfold eY;rw[if_pos rfl];omega
   ·obtain⟨N,rfl⟩:∃ N:Nat,mx=N:=⟨mx.toNat,by omega⟩
    have hN:eY mn (N:Int)=N:=by unfold eY;rw[if_neg hne];simp
    rw[hN]at g3 hc1 ⊢;exact(acM n0 base M F m 5 s mn N t l' p _ c W dw hW hvW (ih t (aY ..)) (xe t (aY ..)) ok pG (by omega) g3 hN (by omega)).mono fun e w' h=>h.clo
  ·obtain⟨t,l',rfl⟩:∃ t l',l=t::l':=by
    cases l with
    | nil=>have:=q5 (.inr rfl);simp at this
    | cons t l'=>exact⟨t,l',rfl⟩
   have e:(RX.nd 6 s mn mx (t::l')).dG m=t.dG m:=by rw[RX.dG];show RX.hdG (t::l') m=_;rw[RX.hdG]
   have hc1:(RX.nd 6 s mn mx (t::l')).cnt=t.cnt:=by rw[RX.cnt];show RX.cnt1 (t::l')=_;rw[RX.cnt1]
   rw[e];exact(Vb n0 base M F m 6 s mn mx t l' p _ c X W dw hW hvW (ih t (aY ..)) hX EX ok pG (by omega)).mono fun e w' h=>h.clo
attribute [local go_sem] Oper.semAt_some gK dI
theorem qA {T:Nat->Prop} :∀ (Ds:List Nat) (W:World),(∀ D∈Ds,T D)->Move true T W (Ds.foldl (fun W D=>W.putObj D (.deferred none)) W)
 | [],_,_=>Move.refl _ _ _
 | D::Ds,_,h=>(Move.put (h D (aY ..)) _).trans (qA Ds _ fun E hE=>h E (bC _ hE))
theorem jW:∀ (Ds:List Nat) (W:World),(Ds.foldl (fun W D=>W.putObj D (.deferred none)) W).heap.size=W.heap.size
 | [],_=>rfl
 | D::Ds,_=>by rw[List.foldl_cons,jW Ds];simp
theorem l6 (c:Array Value) (w:World):ah 160 #[.agg c] w fun e w'=>e=.returned (.func (.func 195) #[] #[.pointer (some ⟨w.heap.size,0,none⟩)])/\w'=w.alloc (.cells c 97 (0,0)):=by
 go_enter Tryz.func160,Tryz.ntmps160
 go_wp2;go_ret;exact⟨rfl,rfl⟩
theorem oO:∀ args w,(callFunc 195 args).run Tryz.prog w=.ok (.enter 195 args) w:=enters_of Tryz.func195 (by kernel_rfl) rfl
abbrev kp:=Value×RX
def Ff (x:kp):Array Value:= #[x.1]
theorem Aj {l:List RX} (f:Nat->List kp) (hf:∀ i t,l[i]? =some t->(f i).map (·.2)=t.pre):∀ j,j<=l.length->((List.range j).flatMap f).map (·.2)=RX.lC (l.take j)
 | 0,_=>by simp[RX.lC]
 | j+1,hj=>by
  have hl:l[j]? =some (l[j]'(by omega)):=az (by omega);have pa:∀ a b:List RX,RX.lC (a++b)=RX.lC a++RX.lC b:=by
   intro a b;induction a with
   | nil=>rfl
   | cons x a ih=>rw[List.cons_append,RX.lC,RX.lC,ih,List.append_assoc]
  rw[List.range_succ,List.flatMap_append,List.map_append,Aj f hf j (by omega),List.take_add_one,hl,pa];congr 1;simp[hf j _ hl,RX.lC]
theorem Ak (f:Nat->List kp) (h:kp) {i n:Nat} (hi:i<=n):h::(List.range i).flatMap f<+:h::(List.range n).flatMap f:=by
 induction n with
 | zero=>rw[show i=0 by omega];exact List.prefix_rfl
 | succ n ih=>
  by_cases e:i=n+1
  ·subst e;exact List.prefix_rfl
  ·exact(ih (by omega)).trans (by rw[List.range_succ,List.flatMap_append];exact⟨_,by rw[List.cons_append]⟩)
theorem Cn (f:Nat->List kp) (h:kp) (i:Nat):h::(List.range (i+1)).flatMap f=(h::(List.range i).flatMap f)++f i:=by rw[List.range_succ,List.flatMap_append,List.cons_append];simp
theorem xf:∀ {l:List RX} {t:RX},t∈l->t.size<=RX.sizes l
 | x::l,t,h=>by
  rw[RX.sizes];rcases List.mem_cons.1 h with rfl | h
  ·omega
  ·have:=xf h;omega
theorem oP:∀ (l:List RX),l.length<=RX.sizes l
 | []=>by simp
 | x::l=>by
  rw[RX.sizes,List.length_cons];have:=oP l;have h1:1<=x.size:=by cases x;rw[RX.size];omega
  omega
def WW (D:Nat):Deferred:= {target:=.collected D,args:= #[]}
theorem mL {P:Program} {fn:Func} {R:Ending->World->Prop} {tmps:Array Value} {v:Value} {Ds:List Nat} {W:World} {x:Exit} (hx:x=.normal\/x=.ret) (hn:Ds.Nodup) (hD:∀ D∈Ds,W.heap[D]? =some (.deferred (some []))) (hr:∀ W,(results fn tmps).run P W=.ok v W) (hR:R (.returned v) (Ds.foldl (fun W D=>W.putObj D (.deferred none)) W)):bodyPostM Fence.wide 0 P fn R x {tmps:=tmps,defers:=Ds.map WW} W:=by
 have h:=pP (P:=P) (fn:=fn) (tmps:=tmps) (R:=R) Ds W hn hD (hr _) hR;rcases hx with rfl | rfl
 ·exact h
 ·exact h
structure gg (R:Nat->Prop) (J:List kp->(Nat->Prop)->World->Prop) (W1:World) (Y:Nat) (yv:Value) (pre:List kp) (Ds:List Nat) (T:Nat->Prop) (W:World):Prop where
 iV:∀ k,T k->W1.heap.size<=k/\k<W.heap.size
 y:T Y
 yb:ar W Y #[yv] 172
 nodup:Ds.Nodup
 ds:∀ D∈Ds,T D/\W.heap[D]? =some (.deferred (some []))
 keep:ae R W1 W
 j:J pre T W
theorem gg.more {R:Nat->Prop} {J:List kp->(Nat->Prop)->World->Prop} {W1:World} {Y:Nat} {yv:Value} {pre:List kp} {Ds:List Nat} {T:Nat->Prop} {W W':World} (h:gg R J W1 Y yv pre Ds T W) (hJ:eP true W1.heap.size J) (hR:∀ k,R k->k<W1.heap.size) {T':Nat->Prop} (hx:Ext W W') (ht:∀ k,T k->T' k) (ht':∀ k,T' k->(T k\/W.heap.size<=k)/\k<W'.heap.size):gg R J W1 Y yv pre Ds T' W':=by
 have h1:W1.heap.size<=W.heap.size:=h.keep.size;have hr:∀ k,T' k->W1.heap.size<=k/\k<W'.heap.size:=fun k hk=>⟨by rcases(ht' k hk).1 with h2 | h2;exact(h.iV k h2).1;omega,(ht' k hk).2⟩
 refine⟨hr,ht _ h.y,h.yb.ext hx,h.nodup,fun D hD=>⟨ht _ (h.ds D hD).1,?_⟩,h.keep.tr (hx.mono fun k hk=>by have:=hR k hk;omega),hJ _ _ _ _ _ h.j h.iV hr ht (fun k hk=>(ht' k hk).1) (.ext hx)⟩;exact(hx.keep D (h.iV D (h.ds D hD).1).2).trans (h.ds D hD).2
theorem gg.move {R:Nat->Prop} {J:List kp->(Nat->Prop)->World->Prop} {W1:World} {Y:Nat} {yv:Value} {pre:List kp} {Ds:List Nat} {T Ti OL:Nat->Prop} {W W':World} {B:Nat} (h:gg R J W1 Y yv pre Ds (fun k=>T k\/Ti k) W) (hJ:eP true W1.heap.size J) (hR:∀ k,R k->k<W1.heap.size) (hB:W1.heap.size<=B) (hYB:Y<B) (hDB:∀ D∈Ds,D<B) (h1:∀ k,Ti k->B<=k/\k<W.heap.size) (h2:∀ k,OL k->B<=k/\k<W'.heap.size) (h3:∀ k,Ti k->OL k) (h4:∀ k,OL k->Ti k\/W.heap.size<=k) (h5:Move true Ti W W'):gg R J W1 Y yv pre Ds (fun k=>T k\/OL k) W':=by
 have hs:=h5.size;have hr:∀ k,(T k\/OL k)->W1.heap.size<=k/\k<W'.heap.size:=fun k hk=>by
  rcases hk with hk | hk
  ·have:=h.iV k (.inl hk);exact⟨this.1,by omega⟩
  ·have:=h2 k hk;exact⟨by omega,this.2⟩
 refine⟨hr,?_,h.yb.keeps h5.keeps ⟨h.yb.lt,fun e=>by have:=(h1 _ e).1;omega⟩,h.nodup,fun D hD=>⟨?_,?_⟩,h.keep.tr (h5.keeps.mono fun k hk=>⟨by have:=hR k hk;have:=h.keep.size;omega,fun e=>by have:=(h1 _ e).1;have:=hR k hk;omega⟩),hJ _ _ _ _ _ h.j h.iV hr (fun k hk=>hk.imp id (h3 k)) (fun k hk=>hk.elim (fun h=>.inl (.inl h)) fun h=>(h4 k h).imp .inr id) (h5.mono fun k hk=>.inr hk)⟩
 ·exact h.y.imp id (h3 _)
 ·exact(h.ds D hD).1.imp id (h3 _)
 ·exact(h5.keeps.keep D ⟨(h.iV D (h.ds D hD).1).2,fun e=>by have:=(h1 _ e).1;have:=hDB D hD;omega⟩).trans (h.ds D hD).2
theorem gg.round {R:Nat->Prop} {J:List kp->(Nat->Prop)->World->Prop} {W1:World} {Y:Nat} {yv:Value} {pre pre':List kp} {Ds:List Nat} {T:Nat->Prop} {W W':World} (h:gg R J W1 Y yv pre Ds T W) (hk:ae (fun k=>R k\/T k) W W') (hj:J pre' T W'):gg R J W1 Y yv pre' Ds T W':=
 ⟨fun k tI=>⟨(h.iV k tI).1,aD (h.iV k tI).2 hk.size⟩,h.y,h.yb.keeps hk (.inr h.y),h.nodup,fun D hD=>⟨(h.ds D hD).1,(hk.keep D (.inr (h.ds D hD).1)).trans (h.ds D hD).2⟩,h.keep.tr (hk.mono fun _ hk=>.inl hk),hj⟩
structure Co (Jx:List kp->(Nat->Prop)->World->Prop) (W1:World) (pre:List kp) (Ds:List Nat) (T:Nat->Prop) (W:World):Prop where
 iV:∀ k,T k->W1.heap.size<=k/\k<W.heap.size
 ds:∀ D∈Ds,T D/\W.heap[D]? =some (.deferred (some []))
 j:Jx pre T W
theorem Co.move {Jx:List kp->(Nat->Prop)->World->Prop} {W1:World} {pre:List kp} {Ds:List Nat} {T Ti OL:Nat->Prop} {W W':World} {B:Nat} (h:Co Jx W1 pre Ds (fun k=>T k\/Ti k) W) (hJ:eP true W1.heap.size Jx) (hB:W1.heap.size<=B) (hDB:∀ D∈Ds,D<B) (h1:∀ k,Ti k->B<=k/\k<W.heap.size) (h2:∀ k,OL k->B<=k/\k<W'.heap.size) (h3:∀ k,Ti k->OL k) (h4:∀ k,OL k->Ti k\/W.heap.size<=k) (h5:Move true Ti W W'):Co Jx W1 pre Ds (fun k=>T k\/OL k) W':=by
 have hs:=h5.size;have hr:∀ k,(T k\/OL k)->W1.heap.size<=k/\k<W'.heap.size:=fun k hk=>by
  rcases hk with hk | hk
  ·have:=h.iV k (.inl hk);exact⟨this.1,by omega⟩
  ·have:=h2 k hk;exact⟨by omega,this.2⟩
 refine⟨hr,fun D hD=>⟨(h.ds D hD).1.imp id (h3 _),?_⟩,hJ _ _ _ _ _ h.j h.iV hr (fun k hk=>hk.imp id (h3 k)) (fun k hk=>hk.elim (fun h=>.inl (.inl h)) fun h=>(h4 k h).imp .inr id) (h5.mono fun k hk=>.inr hk)⟩;exact(h5.keeps.keep D ⟨(h.iV D (h.ds D hD).1).2,fun e=>by have:=(h1 _ e).1;have:=hDB D hD;omega⟩).trans (h.ds D hD).2
theorem th (n0:Nat) (t:RX):t.size<=10000000->∀ (v:Value) (w:World),aK (· <n0) w v t->n0<=w.heap.size->∃ xs:List kp,xs.map (·.2)=t.pre/\(∀ x∈xs,aK (· <n0) w x.1 x.2)/\ ∀ (W:World) (B:Nat) (c:Array Value),v=.agg c->ae (· <n0) w W->ar W B c 97->Seq true Tryz.prog 195 #[.pointer (some ⟨B,0,none⟩)] Ff (fun k=>k<n0\/k=B) xs W:=by
 induction t using RX.ind with
 | h k s mn mx l ih=>
  intro hsz v w hv dw;obtain⟨p,cp,rfl⟩:=hv.form;obtain⟨n,hn⟩:=ag l.length;have HV:=hid hv;simp only[RX.kind,RX.set,RX.mn,RX.mx,RX.subs]at HV ⊢;rw[<-hn]at HV ⊢
  have hch:∀ i,∃ xs:List kp,∀ t,l[i]? =some t->xs.map (·.2)=t.pre/\(∀ x∈xs,aK (· <n0) w x.1 x.2)/\∀ (p':Option Addr) (c':Nat),aK (· <n0) w (.agg (aq t.kind t.set t.mn t.mx (.slice p' t.subs.length c'))) t->∀ b off,p=some ⟨b,off,none⟩->w.cell? ⟨b,off+i*8+7,none⟩=some (.slice p' t.subs.length c')->
    ∀ (W:World) (B:Nat),ae (· <n0) w W->ar W B (aq t.kind t.set t.mn t.mx (.slice p' t.subs.length c')) 97->Seq true Tryz.prog 195 #[.pointer (some ⟨B,0,none⟩)] Ff (fun k=>k<n0\/k=B) xs W:=fun i=>by
   cases hi:l[i]? with
   | none=>exact⟨[],fun t h=>by cases h⟩
   | some t=>
    obtain⟨b,off,p',c',ep,_,_,_,Zd,hr⟩:=HV.elem hi;obtain⟨xs,h1,h2,h3⟩:=ih t (aw hi) (Nat.le_trans (xf (aw hi)) (by rw[RX.size]at hsz;omega)) _ w hr dw;refine⟨xs,fun t' e=>?_⟩;cases e;refine⟨h1,h2,fun p2 c2 _ b2 fV e2 hc2 W B hW hB=>?_⟩;rw[ep]at e2;cases e2;have e3:=Zd.2.2.2.2.2.2.2;rw[hc2]at e3;cases e3;exact h3 W B _ rfl hW hB
  obtain⟨f,hf⟩:=Classical.axiomOfChoice hch;clear hch ih;obtain⟨cv,hcv⟩:=ag (aq k s mn mx (.slice p n cp));obtain⟨x0,hx0⟩:=ag ((.agg cv,.nd k s mn mx l):kp);refine⟨x0::(List.range n).flatMap f,?_,fun x hx=>?_,?_⟩
  ·rw[List.map_cons,Aj f (fun i t h=>(hf i t h).1) n (by omega),hn,List.take_length,RX.pre,hx0]
  ·rcases List.mem_cons.1 hx with rfl | hx
   ·rw[hx0,hcv];exact HV
   ·obtain⟨i,hi,hxi⟩:=List.mem_flatMap.1 hx
    have gJ:i<l.length:=by have:=List.mem_range.1 hi;omega
    exact(hf i _ (az gJ)).2.1 x hxi
  intro WS B c ec hKS hB;cases ec;rw[<-hcv]at hB;have HF:=hid hf;have LZ:=hid hx0;clear hf hv hx0;intro ly J Jx W1 hK hJ Yf hY h0;have HY:=hid hY;have HJ:=hid hJ;have HJX:=hid Yf;clear hY hJ Yf;have B1:=hB.keeps hK hB.lt;have KW:ae (· <n0) w W1:=hKS.tr (hK.mono fun k hk=>aD hk (by have:=hKS.size;omega));have acT:n0<=W1.heap.size:=by have:=KW.size;omega
  have Ze:∀ k,(k<n0\/k=B)->k<W1.heap.size:=fun k hk=>by rcases hk with hk | rfl;omega;exact B1.lt
  have anK:n<=10000000:=by rw[hn];exact Nat.le_trans (oP l) (by rw[RX.size]at hsz;omega)
  refine callsIn_wide (n:=0).1 ?_;refine callsIn_of_wp_marks Tryz.func195 rfl trivial ?_ rfl;simp only[Tryz.ntmps195,List.size_toArray,List.length_cons,List.length_nil,Nat.reduceAdd,Nat.reduceSub,Array.replicate_succ,Array.replicate_zero,List.push_toArray,List.append_toArray,List.nil_append,List.cons_append];have I2:gg (fun k=>k<n0\/k=B) J W1 W1.heap.size (.func (.yield ly) #[] #[]) [] [] (fun k=>k=W1.heap.size) (W1.alloc (.cells #[.func (.yield ly) #[] #[]] 172 (0,0))):=
   ⟨fun k hk=>by rw[hk];simp,rfl,ar.new _ _ _,List.nodup_nil,fun D h=>by(cases h),((Ext.refl _).alloc _).mono fun k hk=>Ze k hk,HJ _ _ _ _ _ h0 (fun k h=>h.elim) (fun k hk=>by rw[hk];simp) (fun k h=>h.elim) (fun k hk=>.inr (by rw[hk];exact aG _)) (.ext ((Ext.refl _).alloc _))⟩
  obtain⟨fn,tm,Dw,bd,hy,DX⟩:=HY.out [] x0 _ _ ⟨_,rfl⟩ I2.iV I2.keep I2.j;have OC:=hid DX;have I2H:=hid I2;have B2:=hid (B1.alloc (.cells #[.func (.yield ly) #[] #[]] 172 (0,0)));clear DX I2 h0;rw[Ff,LZ.out]at hy;obtain⟨Zf,Vh⟩:=ag ((⟨W1.heap.size,0,none⟩:Addr));have q0:(W1.alloc (.cells #[.func (.yield ly) #[] #[]] 172 (0,0))).cell? ⟨W1.heap.size,0,none⟩=some (.func (.yield ly) #[] #[]):=(ar.new _ _ _).cell 0;rw[hcv]at B2 hy;obtain⟨b0,b1,b2,b3,b4,b5,b6,b7⟩:=(show _/\_/\_/\_/\_/\_/\_/\_ from⟨B2.cell 0,B2.cell 1,B2.cell 2,B2.cell 3,B2.cell 4,B2.cell 5,B2.cell 6,B2.cell 7⟩);simp only[aq,List.getElem?_toArray,List.getElem?_cons_zero,List.getElem?_cons_succ]at b0 b1 b2 b3 b4 b5 b6 b7;dsimp only[aq]at hy;clear Vh Zf;have HN:=hid hn;clear hn
  gi_wp2
  refine OC.mono ?_;rintro e W2 (⟨rfl,kX,hk2⟩ | ⟨rfl,hjx,hk2⟩)
  rotate_left
  ·have Vi:=I2H.iV
   have h5:=hk2.size;clear hy
   gi_wp2
   exact yH rfl (results_none rfl _ _ _) ⟨⟨_,rfl⟩,_,fun k hk=>⟨(Vi k hk).1,aD (Vi k hk).2 h5⟩,.inr ⟨[x0],⟨_,rfl⟩,hjx⟩⟩
  have I3:=hid (I2H.round hk2 kX);have KB:Hid (ar W2 B (aq k s mn mx (.slice p n cp)) 97):=hid (B2.keeps hk2 (.inl (.inr rfl)));have g7:W2.cell? ⟨B,7,none⟩=some (.slice p n cp):=KB.cell 7;clear hy kX hk2 q0 b0 b1 b2 b3 b4 b5 b6 b7 B2 I2H OC
  gi_wp2
  have HR:=hid Ze;have zb:=hid KW;clear g7 KB Ze KW hB hKS hK;refine wpIn_loop (fun a W=>∃ (i:Nat) (Ds:List Nat) (T:Nat->Prop) (u4 u14 u15 u16 u17 u18 u24:Value),i<=n/\a= {tmps:= #[.func (.yield ly) #[] #[],.pointer (some ⟨B,0,none⟩),.pointer (some ⟨W1.heap.size,0,none⟩),undef,u4,undef,.func (.yield ly) #[] #[],.agg (aq k s mn mx (.slice p n cp)),.bool true,.bool false,.pointer (some ⟨B,7,none⟩),.slice p n cp,.int .i64 n,.int .i64 i,u14,u15,u16,u17,u18,undef,undef,undef,undef,undef,u24],defers:=Ds.map WW} /\gg (fun k=>k<n0\/k=B) J W1 W1.heap.size (.func (.yield ly) #[] #[]) (x0::(List.range i).flatMap f) Ds T W)
   (fun a _=>n-(intOf (a.tmps.getD 13 undef)).toNat) ⟨0,[],_,undef,undef,undef,undef,undef,undef,undef,by omega,rfl,I3⟩ ?_
  rintro a w4 ⟨i,Ds,T,u4,u14,u15,u16,u17,u18,u24,hi,rfl,hI⟩;have HI:=hid hI;clear I3;by_cases hlt:i<n
  rotate_left
  ·obtain rfl:i=n:=by omega
   have eE:¬ ((i:Int)<i):=by omega
   clear hI
   gi_wp2
   refine mL (.inl rfl) HI.nodup (fun D hD=>(HI.ds D hD).2) (fun W=>results_none rfl _ _ _) ⟨⟨_,rfl⟩,T,fun k hk=>by rw[jW];exact HI.iV k hk,.inl ?_⟩;exact HJ _ _ _ _ _ HI.j HI.iV (fun k hk=>by rw[jW];exact HI.iV k hk) (fun _ h=>h) (fun _ h=>.inl h) (qA Ds w4 fun D hD=>(HI.ds D hD).1)
  have eE:(i:Int)<n:=by omega
  obtain⟨t,ht⟩:∃ t,l[i]? =some t:=⟨_,az (by have:=HN.out;omega)⟩;have KW4:Hid (ae (· <n0) w w4):=hid (zb.tr (hI.keep.mono fun k hk=>.inl hk));obtain⟨b,off,p',c',ep,hbF,hb,anL,⟨q0,q1,q2,q3,q4,q5,q6,q7⟩,hrt⟩:=HV.elem ht;have hf9:=(HF.out i t ht).2.2 p' c' hrt b off ep q7;have HFM:=hid ((HF i t ht).2.1);have hcell:∀ j,w4.cell? ⟨b,j,none⟩=w.cell? ⟨b,j,none⟩:=fun j=>KW4.cell (p:=⟨b,j,none⟩) hbF
  replace q0:=(hcell _).trans q0;replace q1:=(hcell _).trans q1;replace q2:=(hcell _).trans q2;replace q3:=(hcell _).trans q3;replace q4:=(hcell _).trans q4;replace q5:=(hcell _).trans q5;replace q6:=(hcell _).trans q6;replace q7:=(hcell _).trans q7;replace hb:b<w4.heap.size:=aD hb KW4.size;subst ep;have HF9:=hid hf9;have HT:=hid ht;clear hf9 hI ht hcell hrt
  gi_wp2_with (gi_at_call 160;refine(callsIn_wide.2 (l6 _ _)).mono ?_;rintro e w5 ⟨rfl,rfl⟩)
  refine Hg ?_;intro w5 hw5;have anN:w5.heap.size=w4.heap.size+2:=by rw[hw5];simp
  have x45:Ext w4 w5:=by rw[hw5];exact((Ext.refl _).alloc _).alloc _
  have BN:ar w5 (w4.heap.size+1) (aq t.kind t.set t.mn t.mx (.slice p' t.subs.length c')) 97:=by rw[hw5];exact(ar.new _ _ _).at (by simp)
  have anO:W1.heap.size<=w4.heap.size:=HI.keep.size;obtain⟨T2,Vi⟩:=ag (fun k=>T k\/k=w4.heap.size\/k=w4.heap.size+1:Nat->Prop)
  have i5:gg (fun k=>k<n0\/k=B) J W1 W1.heap.size (.func (.yield ly) #[] #[]) (x0::(List.range i).flatMap f) Ds T2 w5:=HI.more HJ HR x45 (fun k hk=>by rw[Vi];exact .inl hk) (fun k hk=>by
   rw[Vi]at hk;rcases hk with hk | hk | hk
   ·exact⟨.inl hk,by have:=(HI.iV k hk).2;omega⟩
   ·exact⟨.inr (by omega),by omega⟩
   ·exact⟨.inr (by omega),by omega⟩)
  have hDs:∀ D∈Ds,D<w5.heap.size:=fun D hD=>(i5.iV D (i5.ds D hD).1).2
  have ahf:T2 (w4.heap.size+1):=by rw[Vi];exact .inr (.inr rfl)
  have hseq:=HF9.out w5 (w4.heap.size+1) (KW4.tr (x45.mono fun k hk=>by have:k<n0:=hk;omega)) BN;have hY5:W1.heap.size<w5.heap.size:=by omega
  have i5':gg (fun k=>k<n0\/k=B) J W1 W1.heap.size (.func (.yield ly) #[] #[]) ((x0::(List.range i).flatMap f)++ []) Ds (fun k=>T2 k\/False) w5:=by
   rw[List.append_nil];exact i5.more HJ HR (Ext.refl _) (fun k h=>.inl h) fun k h=>by
    rcases h with h | h
    ·exact⟨.inl h,(i5.iV k h).2⟩
    ·exact h.elim
  have HPF:Hid (∀ pre (x:kp),pre++ [x]<+:f i->((x0::(List.range i).flatMap f)++pre)++ [x]<+:x0::(List.range n).flatMap f):=hid fun pre x h=>by
   refine List.IsPrefix.trans ?_ (Ak f x0 (show i+1<=n by omega));rw[Cn,List.append_assoc];exact List.prefix_append_right_inj _ |>.2 h
  have Ug:∀ k,(k<n0\/k=w4.heap.size+1)->k<w5.heap.size:=fun k hk=>by
   rcases hk with hk | hk
   ·have:=HR.out k (.inl hk);omega
   ·omega
  have HI5:=hid i5';have I5K:=hid i5;have HT2:=hid Vi;have XW5:=hid x45;have HDS:=hid hDs;obtain⟨done,hdone⟩:=ag (x0::(List.range i).flatMap f);rw[<-hdone]at HI5 HPF I5K;have HDN:=hid hdone;clear i5 i5' Vi x45 BN hw5 hDs q0 q1 q2 q3 q4 q5 q6 q7 eE hdone
  refine wpIn_wide.2 (vH (d:=true) hseq (by rfl) oO (by intro _;rfl) Ug
   (fun pre Ti W=>gg (fun k=>k<n0\/k=B) J W1 W1.heap.size (.func (.yield ly) #[] #[]) (done++pre) Ds (fun k=>T2 k\/Ti k) W)
   (fun c pre Ti W=>c=.ret/\Co Jx W1 (done++pre) Ds (fun k=>T2 k\/Ti k) W)
   (fun s T T' W W' h h1 h2 h3 h4 h5=>h.move HJ HR (by omega) hY5 HDS h1 h2 h3 h4 h5)
   (fun c s T T' W W' h h1 h2 h3 h4 h5=>⟨h.1,h.2.move HJX (by omega) HDS h1 h2 h3 h4 h5⟩)
   HI5
   (fun z Ti W=>∃ b9:Nat,z.2.2= {tmps:= #[.func (.yield ly) #[] #[],.pointer (some ⟨B,0,none⟩),.pointer (some ⟨W1.heap.size,0,none⟩),undef,.pointer (some ⟨w4.heap.size,0,none⟩),.pointer (some ⟨b9,0,none⟩),.func (.yield ly) #[] #[],.agg (aq k s mn mx (.slice (some ⟨b,off,none⟩) n cp)),.bool true,.bool false,.pointer (some ⟨B,7,none⟩),.slice (some ⟨b,off,none⟩) n cp,.int .i64 n,.int .i64 i,.bool true,.pointer (some ⟨b,off+i*8,none⟩),.agg (aq t.kind t.set t.mn t.mx (.slice p' t.subs.length c')),.agg (aq t.kind t.set t.mn t.mx (.slice p' t.subs.length c')),.func (.func 195) #[] #[.pointer (some ⟨w4.heap.size+1,0,none⟩)],z.2.1.1,undef,undef,undef,undef,u24],defers:=[]} /\w5.heap.size<=b9/\b9<W.heap.size/\¬Ti b9/\(∃ c,z.2.1.1=.agg c/\ar W b9 c 97)/\gg (fun k=>k<n0\/k=B) J W1 W1.heap.size (.func (.yield ly) #[] #[]) (done++z.1) Ds (fun k=>T2 k\/Ti k) W)
   ?hIa ?assign ?body ?done ?stop)
  case hIa=>
   rintro⟨pre,x,a1⟩ Ti OL W W' ⟨b9,e1,e2,e3,e4,⟨c,e5,e6⟩,e7⟩ h1 h2 h3 h4 h5;have hs:=h5.size;refine⟨b9,e1,e2,by omega,fun h=>?_,⟨c,e5,e6.keeps h5.keeps ⟨e3,e4⟩⟩,e7.move HJ HR (by omega) hY5 HDS h1 h2 h3 h4 h5⟩;rcases h4 b9 h with h | h
   ·exact e4 h
   ·omega
  case assign=>
   rintro lr pre ⟨xv,xt⟩ Ti W hp Zg hk hI;have hx:=HFM.out (xv,xt) (hp.subset (by simp));obtain⟨p9,c9,e9⟩:=hx.form;dsimp only at e9;subst e9;have HI9:=hid hI;have HTI:=hid Zg;clear hI Zg hx hp hseq;dsimp only[aq,Ff]
   gi_wp2
   have s7:w5.heap.size<=W.heap.size:=hk.size;refine⟨((ae.refl _ _).alloc (fun j hj=>?_) _),W.heap.size,rfl,s7,by simp,fun h=>by have:=(HTI.out _ h).2;omega,⟨_,rfl,ar.new _ _ _⟩,HI9.more HJ HR ((Ext.refl _).alloc _) (fun _ h=>h) fun j hj=>⟨.inl hj,by have:=(HI9.iV j hj).2;simp;omega⟩⟩;rcases hj with hj | hj
   ·have:=Ug j hj;omega
   ·exact(HTI j hj).2
  case body=>
   rintro lr pre ⟨xv,xt⟩ Ti a1 W hp Zg hk yG sK ⟨b9,e1,e2,e3,e4,⟨c9,e5,e6⟩,e7⟩;have hx:=HFM.out (xv,xt) (hp.subset (by simp));obtain⟨p9,cp9,e9⟩:=hx.form;dsimp only at e1 e5 e7 e9;rw[e5]at e9;injection e9 with e9
   subst e1 e5 e9;obtain⟨fn,tm,Dw,bd,hy,DX⟩:=HY.out _ _ _ _ (HPF pre _ hp) e7.iV e7.keep e7.j;have OC:Hid (RoundIn (Fence.wide.inRound lr) 0 Tryz.prog ly fn tm Dw bd W _):=hid DX;have q0:W.cell? ⟨W1.heap.size,0,none⟩=some (.func (.yield ly) #[] #[]):=e7.yb.cell 0;have E7:=hid e7;obtain⟨b0,b1,b2,b3,b4,b5,b6,b7⟩:=(show _/\_/\_/\_/\_/\_/\_/\_ from⟨e6.cell 0,e6.cell 1,e6.cell 2,e6.cell 3,e6.cell 4,e6.cell 5,e6.cell 6,e6.cell 7⟩);simp only[aq,List.getElem?_toArray,List.getElem?_cons_zero,List.getElem?_cons_succ]at b0 b1 b2 b3 b4 b5 b6 b7;dsimp only[aq,Ff]at hy;have HTI:=hid Zg;clear DX e7 e6 hx hp sK hseq yG Zg
   gi_wp2
   refine OC.mono ?_;rintro e W2 (⟨rfl,kX,hk2⟩ | ⟨rfl,hjx,hk2⟩)
   ·clear hy q0 b0 b1 b2 b3 b4 b5 b6 b7
    gi_wp2
    refine⟨hk2.mono fun j hj=>?_,?_⟩
    ·rcases hj with(hj | hj) | hj
     ·exact .inl (.inl hj)
     ·exact .inr (.inl (by rw[hj];exact ahf))
     ·exact .inr (.inr hj)
    ·dsimp only
     rw[<-List.append_assoc];exact E7.round hk2 kX
   ·clear hy q0 b0 b1 b2 b3 b4 b5 b6 b7
    gi_wp2
    refine⟨hk2.mono fun j hj=>.inr hj,rfl,?_⟩;rw[<-List.append_assoc];exact⟨fun j hj=>⟨(E7.iV j hj).1,aD (E7.iV j hj).2 hk2.size⟩,fun D hD=>⟨(E7.ds D hD).1,(hk2.keep D (E7.ds D hD).1).trans (E7.ds D hD).2⟩,hjx⟩
  case done=>
   rintro D Ti W hD yJ Zg hI mO;have HI9:=hid hI;have yx:=hid mO;clear hI mO hseq;dsimp only
   gi_wp2
   refine⟨⟨i+1,D::Ds,fun k=>T2 k\/Ti k,_,_,_,_,_,_,_,by omega,rfl,?_⟩,?_⟩
   ·have e5:=HI9.out
    rw[HDN.out, <-Cn]at e5;refine⟨e5.iV,e5.y,e5.yb,List.nodup_cons.2 ⟨fun h=>by have:=HDS.out D h;omega,e5.nodup⟩,fun E hE=>?_,e5.keep,e5.j⟩;rcases List.mem_cons.1 hE with rfl | hE
    ·exact⟨.inr yJ,yx⟩
    ·exact e5.ds E hE
   ·simp[intOf];omega
  case stop=>
   rintro D c pre Ti W hD yJ Zg hp ⟨rfl,ho⟩ mO;have HO:=hid ho;clear ho hseq;dsimp only;go_wp2;refine mL (Ds:=D::Ds) (.inr rfl) (List.nodup_cons.2 ⟨fun h=>by have:=HDS.out D h;omega,HI.nodup⟩) (fun E hE=>?_) (fun W=>results_none rfl _ _ _) ⟨⟨_,rfl⟩,fun k=>T2 k\/Ti k,fun k hk=>by rw[jW];exact HO.iV k hk,.inr ⟨done++pre,?_,?_⟩⟩
   ·rcases List.mem_cons.1 hE with rfl | hE
    ·exact mO
    ·exact(HO.ds E hE).2
   ·refine List.IsPrefix.trans ?_ (Ak f x0 (show i+1<=n by omega))
    rw[Cn, <-HDN.out];exact List.prefix_append_right_inj _ |>.2 hp
   ·exact HJX _ _ _ _ _ HO.j HO.iV (fun k hk=>by rw[jW];exact HO.iV k hk) (fun _ h=>h) (fun _ h=>.inl h) (qA (D::Ds) W fun E hE=>by
     rcases List.mem_cons.1 hE with rfl | hE
     ·exact .inr yJ
     ·exact(HO.ds E hE).1)
end
end Go.Proofs.YtjgccapbphadjaaGreatDoor
