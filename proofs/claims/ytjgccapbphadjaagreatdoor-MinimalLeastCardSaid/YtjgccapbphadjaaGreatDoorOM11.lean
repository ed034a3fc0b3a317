/- The maker of automata of positions: a repetition without a bound. Printed by wip/gen/mrep.py. -/
import Derived.Test.YtjgccapbphadjaaGreatDoorOM10
set_option maxRecDepth 100000
set_option maxHeartbeats 16000000
open Go.Lib (hid)
namespace Go.Proofs.YtjgccapbphadjaaGreatDoor
section
open Go Go.RowKit Go.Shelf Go.Maps
theorem Tryz.QM:(Tryz.prog.info? 179).map (fun i=>(i.zero,i.size,i.bytes))=some (some (.agg #[.int .u64 0,.int .u64 0,.int .u64 0,.int .u64 0,.int .u64 0,.int .u64 0,.int .u64 0]),7,56):=by kernel_rfl
def gj:Array Value:= #[.int .u64 0,.int .u64 0,.int .u64 0,.int .u64 0,.int .u64 0,.int .u64 0,.int .u64 0]
theorem IG:dZ [0]=gj.toList:=by
 have e:cE (bW (0:PB))=gj:=by unfold cE gj;simp only[Kr];rfl
 unfold dZ;rw[List.flatMap_cons,e];rfl
def McD (base n mb:Nat) (sv fv:Value) (S0 F0:List Value) (j:Nat) (W:World):Prop:=j∈ [5,9,13,16,19]->ar W mb #[sv,fv] 177/\(j=9->W.ownsRow base 56 4 sv n S0)/\(j=16->W.ownsRow base 179 7 fv n F0)
theorem McD.alloc {base n mb:Nat} {sv fv:Value} {S0 F0:List Value} {j:Nat} {W:World} (h:McD base n mb sv fv S0 F0 j W) (o:Obj):McD base n mb sv fv S0 F0 j (W.alloc o):=fun e=>⟨(h e).1.alloc _,fun e2=>((h e).2.1 e2).alloc _,fun e2=>((h e).2.2 e2).alloc _⟩
theorem II (base M:Nat) (F:Nat->Prop) (m:GM) (s:BS) (mn mx:Int) (a:Value) (X:Nat) (w:World) (h:fM base M F w m) (hX:w.cell? ⟨X,0,none⟩=some (.pointer (some ⟨M,0,none⟩))) (EY:¬F X) (hm:m.cF.length=m.aL.length) (hn:m.aL.length<448): ah 200 #[.agg (aq 2 s mn mx a),.pointer (some ⟨X,0,none⟩)] w fun e w'=>e=.returned (.agg (ay ⟨eJ m.aL.length,eJ m.aL.length,false⟩))/\(∃ F',fM base M F' w' ⟨m.aL++ [s],m.cF++ [0]⟩/\(∀ x,F x->F' x)/\∀ x,F' x->F x\/w.heap.size<=x)/\ae (fun x=>x<w.heap.size/\¬F x) w w':=by
 obtain⟨iS,hiS,MH,MI,MJ⟩:=info_parts Tryz.zE;obtain⟨iB,Ym,IJ,IK,IM⟩:=info_parts Tryz.QM;obtain⟨sv,fv,h1,h2,h3,h4,h5⟩:=h.row;rw[hm]at h4;obtain⟨n,iY⟩:=ag m.aL.length;rw[<-iY]at h2 h4 hn ⊢;obtain⟨sa,sc,rfl⟩:=ownsRow_form h2;obtain⟨fa,fc,rfl⟩:=ownsRow_form h4;have HM:=hid h;have B1:=hid h1;have O1:=hid h2;have P1:=hid h4;have S3:=hid h3;have S5:=hid h5;have oQ:=hid iY;have Kk:=hid hm;have Wh:M<w.heap.size:=h1.lt;have MK:X<w.heap.size:=World.block_lt_of_cell? _ _ hX;have hXM:X≠M:=fun e=>EY (by rw[e];exact h.fm)
 have rH:base<=w.heap.size:=Nat.le_of_lt (Nat.lt_of_le_of_lt (h.lt M h.fm).1 Wh);have HX:=hid hX;have Yn:=hid EY;have c0:w.cell? ⟨M,0,none⟩=some (.slice sa n sc):=h1.cell 0;have c1:w.cell? ⟨M,1,none⟩=some (.slice fa n fc):=h1.cell 1;clear h h1 h2 h3 h4 h5 hm iY hX EY;have hX:=HX.out;unfold aq;go_enter Tryz.func200,Tryz.ntmps200;go_upto_region 2 with fail
 refine ax ?_;intro V hV;have N0:Hid (ar V w.heap.size #[.int .u8 2,.int .u64 (wd s 0).toNat,.int .u64 (wd s 1).toNat,.int .u64 (wd s 2).toNat,.int .u64 (wd s 3).toNat,.int .i64 mn,.int .i64 mx,a] 97):=by rw[hV];exact hid (((ar.new _ _ _).alloc _).alloc _)
 have R0:Hid (ar V (w.heap.size+1) (zeroV false) 181):=by rw[hV];exact hid ((ar.at (ar.new _ _ _) (by simp)).alloc _)
 have Q0:Hid (ar V (w.heap.size+1+1) (zeroV false) 181):=by rw[hV];exact hid (ar.at (ar.new _ _ _) (by simp))
 have E0:Hid (Ext w V):=by rw[hV];exact hid ((((Ext.refl w).alloc _).alloc _).alloc _)
 have hsz:V.heap.size=w.heap.size+1+1+1:=by rw[hV];simp
 clear hV c0 c1 hX;have BV:=hid (B1.out.ext E0.out);have OV:=hid (aj O1.out E0.out.below);have PV:=hid (aj P1.out E0.out.below);have lI:=hid hsz;have Tq:Hid (V.cell? ⟨X,0,none⟩=some (.pointer (some ⟨M,0,none⟩))):=hid ((E0.out.keeps.cell (p:=⟨X,0,none⟩) MK).trans HX.out);have c0:V.cell? ⟨M,0,none⟩=some (.slice sa n sc):=BV.out.cell 0;have c1:V.cell? ⟨M,1,none⟩=some (.slice fa n fc):=BV.out.cell 1;have hX:=Tq.out;clear hsz;go_upto_region 3 with fail
 refine RegQ.bB (qJ (.slice fa n fc) V.heap.size base n M F (aM m.aL++(encS s).toList) (dZ m.cF++gj.toList) (encS s) gj) qJ.drew (fun _ _ _ h k=>h.trans k) (by kernel_rfl) 20 [0,0,0,4,12,28,0,64,192,508,0,1024,3072,7168,0,16384,65532,131069,262141,524285,1048575,2097151,4194303] (fun i=>i==5 || i==8 || i==9 || i==13 || i==15 || i==16 || i==19 || i==22) (by kernel_rfl) (fun i=>if i=5 then aZ.Du _ (.slice sa n sc)else if i=8 then rG.box _ _ _ _ _ _ _ _ _ _ else if i=9 then rG.abU _ _ _ _ _ _ _ _ _ _ (.slice sa n sc)else if i=13 then aZ.Du _ (.slice fa n fc)else if i=15 then rG.abT _ _ _ _ _ _ _ _ _ _ else if i=16 then rG.abV _ _ _ _ _ _ _ _ _ _ else if i=19 then rG.sto _ _ _ _ _ _ _ _ _ _ (.slice sa n sc)else aZ.any _) (McD base n M (.slice sa n sc) (.slice fa n fc) (aM m.aL) (dZ m.cF)) (fun _ _ _=>⟨BV.out,fun _=>OV.out,fun _=>PV.out⟩) ?_;intro C hC hne;have HC:=hid hC;have hVw:w.heap.size<=V.heap.size:=by rw[lI.out];omega
 have hXv:X<V.heap.size:=by rw[lI.out];omega
 have fX:∀ W: {W//C W},W.1.cell? ⟨X,0,none⟩=some (.pointer (some ⟨M,0,none⟩)):=fun W=>(((hC W.1).1 W.2).keep.cell (p:=⟨X,0,none⟩) ⟨hXv,hXv,Yn.out⟩).trans hX
 have hnV:¬F w.heap.size:=fun e=>by have:=(HM.out.lt _ e).2;omega
 have g1:∀ W: {W//C W},W.1.cell? ⟨w.heap.size,1,none⟩=some (.int .u64 (wd s 0).toNat):=fun W=>(((hC W.1).1 W.2).keep.cell (p:=⟨w.heap.size,1,none⟩) ⟨N0.out.lt,N0.out.lt,hnV⟩).trans (N0.out.cell 1)
 have g2:∀ W: {W//C W},W.1.cell? ⟨w.heap.size,2,none⟩=some (.int .u64 (wd s 1).toNat):=fun W=>(((hC W.1).1 W.2).keep.cell (p:=⟨w.heap.size,2,none⟩) ⟨N0.out.lt,N0.out.lt,hnV⟩).trans (N0.out.cell 2)
 have g3:∀ W: {W//C W},W.1.cell? ⟨w.heap.size,3,none⟩=some (.int .u64 (wd s 2).toNat):=fun W=>(((hC W.1).1 W.2).keep.cell (p:=⟨w.heap.size,3,none⟩) ⟨N0.out.lt,N0.out.lt,hnV⟩).trans (N0.out.cell 3)
 have g4:∀ W: {W//C W},W.1.cell? ⟨w.heap.size,4,none⟩=some (.int .u64 (wd s 3).toNat):=fun W=>(((hC W.1).1 W.2).keep.cell (p:=⟨w.heap.size,4,none⟩) ⟨N0.out.lt,N0.out.lt,hnV⟩).trans (N0.out.cell 4)
 clear hC c0 c1 hX
 repeat (refine RegQ.au (fun K hK=>?_);first | (refine RegQ.bX rfl ?_;try go_simp;refine hK _ _ ?_;clear hK K) | (refine RegQ.bR rfl rfl ?_;unfold aB;go_simp;refine hK _ _ ?_;clear hK K))
 refine RegQ.au (fun K hK=>?_);refine RegQ.ck rfl rfl (aZ.Du _ (.slice sa n sc)) rfl (fun W hW hD hN=>?_) (fun v hv=>?_)
 ·have hD:=(hD (by decide)).1.cell 0
  have hD:W.cell? ⟨M,0,none⟩=some (.slice sa n sc):=hD;clear hW hN hK K;go_simp;exact⟨⟨qJ.below (Below.refl _ _),fun j=>by intros;assumption⟩,rfl,trivial⟩
 replace hv:v=_:=hv;subst hv;go_simp;refine hK _ _ ?_;clear hK K
 repeat (refine RegQ.au (fun K hK=>?_);first | (refine RegQ.bX rfl ?_;try go_simp;refine hK _ _ ?_;clear hK K) | (refine RegQ.bR rfl rfl ?_;unfold aB;go_simp;refine hK _ _ ?_;clear hK K))
 refine RegQ.au (fun K hK=>?_);refine RegQ.ck rfl rfl (rG.box (.slice fa n fc) V.heap.size base n M F (aM m.aL++(encS s).toList) (dZ m.cF++gj.toList) (encS s) gj) rfl (fun W hW hD hN=>?_) (fun v hv=>?_)
 ·have hMz:=((HC.out W).1 hW).size
  clear hW hN hK K;go_simp;exact⟨⟨qJ.below ((Ext.refl _).alloc _).below,fun j _ _ h=>h.alloc _⟩,⟨_,by omega,rfl⟩,fun b hb=>by cases hb;exact ar.new _ _ _⟩
 obtain⟨bx,zD,rfl⟩:=hv;go_simp;refine hK _ _ ?_;clear hK K;refine RegQ.au (fun K hK=>?_);refine RegQ.ck rfl rfl (rG.abU (.slice fa n fc) V.heap.size base n M F (aM m.aL++(encS s).toList) (dZ m.cF++gj.toList) (encS s) gj (.slice sa n sc)) rfl (fun W hW hD hN=>?_) (fun v hv=>?_)
 ·have hMz:=((HC.out W).1 hW).size
  have rH:ar W bx (encS s) 56:=hN.at 0 rfl (by kernel_rfl) bx rfl;obtain⟨GJ,hDo,_⟩:=hD (by decide);have HBW:=hid rH;have QN:=hid GJ;have y9:=hid (hDo rfl);clear hW hN hK K rH GJ hDo hD;refine lX (.tmp 16) (.tmp 19) 26 rfl base 56 iS _ 4 32 Tryz.underlying26 hiS MH MI MJ rfl (by decide) (.slice sa n sc) n (aM m.aL) rfl y9.out ⟨bx,0,none⟩ 1 1 (encS s).toList rfl (cK HBW.out) rfl (by intro u hu;simp[encS]at hu;rcases hu with rfl | rfl | rfl | rfl<;>rfl) (by unfold maxLen;omega) (by omega) (by omega) (by decide) ?_;intro v' w2 ho hg kE;refine⟨⟨qJ.apS y9.out (fun x e=>⟨by rw[lI.out];have:=(O1.out.lt x e).2;omega,S3.out x e⟩) QN.out ho hg (kE.imp (fun h=>h.1) id),fun j hj _ h e=>⟨(h e).1.grown hg (fun e2=>cm QN.out y9.out (by decide) M e2.symm rfl),fun e2=>absurd e2 hj,fun e2=>((h e).2.2 e2).kept hg (ownBlock_ne (by decide) ((h e).2.2 e2) y9.out)⟩⟩,ownsRow_form ho,ho,?_⟩;rcases kE with⟨_,h⟩ | ⟨g,cap,h1,h2,_⟩
  ·exact .inr fun x hx=>by rw[h]at hx;cases hx;omega
  ·exact .inl (by rw[h2,h1];rfl)
 obtain⟨s1,s2,rfl⟩:=hv;go_simp;refine hK _ _ ?_;clear hK K
 repeat (refine RegQ.au (fun K hK=>?_);first | (refine RegQ.bX rfl ?_;try go_simp;refine hK _ _ ?_;clear hK K) | (refine RegQ.bR rfl rfl ?_;unfold aB;go_simp;refine hK _ _ ?_;clear hK K))
 refine RegQ.au (fun K hK=>?_);refine RegQ.ck rfl rfl (aZ.Du _ (.slice fa n fc)) rfl (fun W hW hD hN=>?_) (fun v hv=>?_)
 ·have hD:=(hD (by decide)).1.cell 1
  have hD:W.cell? ⟨M,1,none⟩=some (.slice fa n fc):=hD;clear hW hN hK K;go_simp;exact⟨⟨qJ.below (Below.refl _ _),fun j=>by intros;assumption⟩,rfl,trivial⟩
 replace hv:v=_:=hv;subst hv;go_simp;refine hK _ _ ?_;clear hK K
 repeat (refine RegQ.au (fun K hK=>?_);first | (refine RegQ.bX rfl ?_;try go_simp;refine hK _ _ ?_;clear hK K) | (refine RegQ.bR rfl rfl ?_;unfold aB;go_simp;refine hK _ _ ?_;clear hK K))
 refine RegQ.au (fun K hK=>?_);refine RegQ.ck rfl rfl (rG.abT (.slice fa n fc) V.heap.size base n M F (aM m.aL++(encS s).toList) (dZ m.cF++gj.toList) (encS s) gj) rfl (fun W hW hD hN=>?_) (fun v hv=>?_)
 ·have hMz:=((HC.out W).1 hW).size
  clear hW hN hK K;go_simp;exact⟨⟨qJ.below ((Ext.refl _).alloc _).below,fun j _ _ h=>h.alloc _⟩,⟨_,by omega,rfl⟩,fun b hb=>by cases hb;exact ar.new _ _ _⟩
 obtain⟨by_,amq,rfl⟩:=hv;go_simp;refine hK _ _ ?_;clear hK K;refine RegQ.au (fun K hK=>?_);refine RegQ.ck rfl rfl (rG.abV (.slice fa n fc) V.heap.size base n M F (aM m.aL++(encS s).toList) (dZ m.cF++gj.toList) (encS s) gj) rfl (fun W hW hD hN=>?_) (fun v hv=>?_)
 ·have hMz:=((HC.out W).1 hW).size
  have rH:ar W by_ gj 179:=hN.at 0 rfl (by kernel_rfl) by_ rfl;obtain⟨GJ,_,hDo⟩:=hD (by decide);have HBW:=hid rH;have QN:=hid GJ;have y9:=hid (hDo rfl);clear hW hN hK K rH GJ hDo hD;refine lX (.tmp 24) (.tmp 26) 175 rfl base 179 iB _ 7 56 Tryz.underlying175 Ym IJ IK IM rfl (by decide) (.slice fa n fc) n (dZ m.cF) rfl y9.out ⟨by_,0,none⟩ 1 1 gj.toList rfl (cK HBW.out) rfl (by intro u hu;simp[gj]at hu;subst hu;rfl) (by unfold maxLen;omega) (by omega) (by omega) (by decide) ?_;intro v' w2 ho hg kE;refine⟨⟨qJ.apF y9.out (fun x e=>⟨by rw[lI.out];have:=(P1.out.lt x e).2;omega,S5.out x e⟩) QN.out ho hg (kE.imp (fun h=>h.1) id),fun j hj _ h e=>⟨(h e).1.grown hg (fun e2=>cm QN.out y9.out (by decide) M e2.symm rfl),fun e2=>((h e).2.1 e2).kept hg (ownBlock_ne (by decide) ((h e).2.1 e2) y9.out),fun e2=>absurd e2 hj⟩⟩,ownsRow_form ho,ho,?_⟩;rcases kE with⟨_,h⟩ | ⟨g,cap,h1,h2,_⟩
  ·exact .inr fun x hx=>by rw[h]at hx;cases hx;omega
  ·exact .inl (by rw[h2,h1];rfl)
 obtain⟨f1,f2,rfl⟩:=hv;go_simp;refine hK _ _ ?_;clear hK K
 repeat (refine RegQ.au (fun K hK=>?_);first | (refine RegQ.bX rfl ?_;try go_simp;refine hK _ _ ?_;clear hK K) | (refine RegQ.bR rfl rfl ?_;unfold aB;go_simp;refine hK _ _ ?_;clear hK K))
 refine RegQ.au (fun K hK=>?_);refine RegQ.ck rfl rfl (rG.sto (.slice fa n fc) V.heap.size base n M F (aM m.aL++(encS s).toList) (dZ m.cF++gj.toList) (encS s) gj (.slice sa n sc)) rfl (fun W hW hD hN=>?_) (fun v hv=>?_)
 ·have hrow:W.ownsRow base 56 4 (.slice s1 (n+1) s2) (n+1) (aM m.aL++(encS s).toList)/\((Value.slice s1 (n+1) s2).ownBlock=(Value.slice sa n sc).ownBlock\/∀ x,(Value.slice s1 (n+1) s2).ownBlock=some x->V.heap.size<=x):=hN.at 3 rfl (by kernel_rfl)
  obtain⟨GJ,_⟩:=hD (by decide);have QN:=hid GJ;have ia:=hid hrow;have hc0:W.cell? ⟨M,0,none⟩=some (.slice sa n sc):=QN.out.cell 0;have hz0:=QN.out.frozen 0;have hFM:=HM.out.fm;clear hW hN hK K hrow GJ hD;go_simp;refine⟨⟨qJ.store _ QN.out ⟨_,_,rfl⟩ hFM (by omega),fun j hj hb h e=>?_⟩,trivial,_,_,QN.out.set 0 _,?_,ia.out.2⟩
  ·exfalso
   simp at e;rcases e with rfl | rfl | rfl | rfl | rfl
   ·revert hb;decide
   ·revert hb;decide
   ·revert hb;decide
   ·revert hb;decide
   ·exact hj rfl
  ·exact ai ia.out.1 ((ae.refl (· ≠M) W).setCell (p:=⟨M,0,none⟩) (fun h=>h rfl) _) fun x hx=>cm QN.out ia.out.1 (by decide) x hx
 go_simp;refine hK _ _ ?_;clear hK K;refine RegQ.bG (fun W hW hH=>?_);have j5:=(HC.out W).1 hW;obtain⟨ta,tc,hb1,hrow,kE⟩:∃ a c,ar W M #[.slice a (n+1) c,.slice fa n fc] 177/\W.ownsRow base 56 4 (.slice a (n+1) c) (n+1) (aM m.aL++(encS s).toList)/\((Value.slice a (n+1) c).ownBlock=(Value.slice sa n sc).ownBlock\/∀ x,(Value.slice a (n+1) c).ownBlock=some x->V.heap.size<=x):=hH _ (aw (show _=some _ from rfl:_[0]? =some _));have FW:Hid (W.ownsRow base 179 7 (.slice f1 (n+1) f2) (n+1) (dZ m.cF++gj.toList)/\((Value.slice f1 (n+1) f2).ownBlock=(Value.slice fa n fc).ownBlock\/∀ x,(Value.slice f1 (n+1) f2).ownBlock=some x->V.heap.size<=x)):=hid (hH _ (aw (show _=some _ from rfl:_[1]? =some _)));have BW:=hid hb1;have SW:=hid hrow;have SWo:=hid kE;have KV:=hid j5.keep;have hWs:V.heap.size<=W.heap.size:=j5.size;clear j5 hW hH HC hne fX g1 g2 g3 g4 hb1 hrow kE;have k0:W.cell? ⟨M,0,none⟩=some (.slice ta (n+1) tc):=BW.out.cell 0;have k1:W.cell? ⟨M,1,none⟩=some (.slice fa n fc):=BW.out.cell 1;have z1:=BW.out.frozen 1;go_upto_region 4 with fail
 refine ax ?_;intro W2 hW2;have hk2:ae (· ≠M) W W2:=by rw[hW2];exact(ae.refl (· ≠M) W).setCell (p:=⟨M,1,none⟩) (fun h=>h rfl) _
 have BM:Hid (ar W2 M #[.slice ta (n+1) tc,.slice f1 (n+1) f2] 177):=hid (by rw[hW2];exact BW.out.set 1 _);have S2:=hid (ai SW.out hk2 fun x hx=>cm BW.out SW.out (by decide) x hx);have F2:=hid (ai FW.out.1 hk2 fun x hx=>cm BW.out FW.out.1 (by decide) x hx);have KA:Hid (ae (fun x=>x<V.heap.size/\¬F x) V W2):=hid ((KV.out.mono fun x hx=>⟨hx.1,hx.1,hx.2⟩).tr (hk2.mono fun x hx e=>hx.2 (by rw[e];exact HM.out.fm)));clear hW2 hk2 k0 k1 z1 BW SW KV;have oA:∀ k,w.heap.size<=k->¬F k:=fun k hk e=>by have:=(HM.out.lt k e).2;omega
 have hV2:w.heap.size+1+1<V.heap.size:=by rw[lI.out];omega
 have hV1:w.heap.size+1<V.heap.size:=by rw[lI.out];omega
 have R2:Hid (ar W2 (w.heap.size+1) (zeroV false) 181):=hid (R0.out.keeps KA.out ⟨hV1,oA _ (by omega)⟩);obtain⟨z,hz⟩:=ag (0:PB);have oT:=iG false;rw[<-hz]at oT;have Q2:Hid (ar W2 (w.heap.size+1+1) (ay ⟨z,z,false⟩) 181):=hid (by rw[oT];exact Q0.out.keeps KA.out ⟨hV2,oA _ (by omega)⟩);have hzb:z ||| eJ n=eJ n:=by rw[hz];exact BitVec.zero_or
 have HZB:=hid hzb;have Kp:=hid oA;clear hz oT hzb oA R0 Q0;go_wp2_with fail
 refine(Ac (bW z) (w.heap.size+1+1) 0 n hn W2 (fZ.fst Q2.out) (Q2.out.frozen _)).mono ?_;rintro e w3 ⟨⟨u,rfl⟩,hx⟩;have kk:ae (fun x=>x<W2.heap.size/\x≠w.heap.size+1+1) W2 w3:=(((ae.refl (· ≠w.heap.size+1+1) W2).setCell (p:=⟨w.heap.size+1+1,_,none⟩) (fun h=>h rfl) _).mono fun x hx=>hx.2).tr (hx.mono fun x hx=>hx.1);have hq:ar w3 (w.heap.size+1+1) (ay ⟨z ||| eJ n,z,false⟩) 181:=by rw[<-QK z z false hn];exact(Q2.out.set _ _).keeps hx Q2.out.lt
 have KA2:Hid (ae (fun x=>x<w.heap.size/\¬F x) V W2):=hid (KA.out.mono fun x hx=>⟨by have:=hx.1;omega,hx.2⟩);have BM2:=BM;have hW2:V.heap.size<=W2.heap.size:=KA.out.size;have Q3:Hid (ar w3 (w.heap.size+1+1) (ay ⟨z ||| eJ n,z,false⟩) 181):=hid hq;have R3:=hid (R2.out.keeps kk ⟨R2.out.lt,by omega⟩);have BM3:=hid (BM2.out.keeps kk ⟨BM2.out.lt,by omega⟩);have Tr:∀ x,x=w.heap.size+1+1->∀ (v:Value),(v.ownBlock=(Value.slice sa n sc).ownBlock\/v.ownBlock=(Value.slice fa n fc).ownBlock\/∀ x,v.ownBlock=some x->V.heap.size<=x)->v.ownBlock≠some x:=fun x hx v hv e=>by
  rcases hv with h | h | h
  ·have:=(O1.out.lt x (by rw[<-h,e])).2;omega
  ·have:=(P1.out.lt x (by rw[<-h,e])).2;omega
  ·have:=h x e;omega
 have S3:=hid (ai S2.out kk fun x hx=>⟨(S2.out.lt x hx).2,fun e=>Tr x e _ (SWo.out.elim .inl fun h=>.inr (.inr h)) hx⟩);have F3:=hid (ai F2.out kk fun x hx=>⟨(F2.out.lt x hx).2,fun e=>Tr x e _ (FW.out.2.elim (fun h=>.inr (.inl h)) fun h=>.inr (.inr h)) hx⟩);have Wj:Hid (ae (fun x=>x<w.heap.size/\¬F x) V w3):=hid ((KA2.out).tr (kk.mono fun x hx=>⟨by have:=hx.1;omega,by have:=hx.1;omega⟩));clear hx kk Tr hq;clear Q2 R2 BM2 BM S2 F2 KA2 KA;have hw3:V.heap.size<=w3.heap.size:=Wj.out.size;go_wp2_with fail
 refine(Ac (bW z) (w.heap.size+1+1) 7 n hn w3 (fZ.cR Q3.out) (Q3.out.frozen _)).mono ?_;rintro e w4 ⟨⟨u,rfl⟩,hx⟩;have kk:ae (fun x=>x<w3.heap.size/\x≠w.heap.size+1+1) w3 w4:=(((ae.refl (· ≠w.heap.size+1+1) w3).setCell (p:=⟨w.heap.size+1+1,_,none⟩) (fun h=>h rfl) _).mono fun x hx=>hx.2).tr (hx.mono fun x hx=>hx.1);have hq:ar w4 (w.heap.size+1+1) (ay ⟨z ||| eJ n,z ||| eJ n,false⟩) 181:=by rw[<-QL (z ||| eJ n) z false hn];exact(Q3.out.set _ _).keeps hx Q3.out.lt
 have Q4:Hid (ar w4 (w.heap.size+1+1) (ay ⟨z ||| eJ n,z ||| eJ n,false⟩) 181):=hid hq;have R4:=hid (R3.out.keeps kk ⟨R3.out.lt,by omega⟩);have BM4:=hid (BM3.out.keeps kk ⟨BM3.out.lt,by omega⟩);have Tr:∀ x,x=w.heap.size+1+1->∀ (v:Value),(v.ownBlock=(Value.slice sa n sc).ownBlock\/v.ownBlock=(Value.slice fa n fc).ownBlock\/∀ x,v.ownBlock=some x->V.heap.size<=x)->v.ownBlock≠some x:=fun x hx v hv e=>by
  rcases hv with h | h | h
  ·have:=(O1.out.lt x (by rw[<-h,e])).2;omega
  ·have:=(P1.out.lt x (by rw[<-h,e])).2;omega
  ·have:=h x e;omega
 have S4:=hid (ai S3.out kk fun x hx=>⟨(S3.out.lt x hx).2,fun e=>Tr x e _ (SWo.out.elim .inl fun h=>.inr (.inr h)) hx⟩);have F4:=hid (ai F3.out kk fun x hx=>⟨(F3.out.lt x hx).2,fun e=>Tr x e _ (FW.out.2.elim (fun h=>.inr (.inl h)) fun h=>.inr (.inr h)) hx⟩);have KA4:Hid (ae (fun x=>x<w.heap.size/\¬F x) V w4):=hid ((Wj.out).tr (kk.mono fun x hx=>⟨by have:=hx.1;omega,by have:=hx.1;omega⟩));clear hx kk Tr hq;clear Q3 R3 BM3 S3 F3 Wj;rw[HZB.out]at Q4;go_wp2_with (first | (refine aY rfl 181 (.tmp 4) rfl (w.heap.size+1+1) rfl (ay ⟨eJ n,eJ n,false⟩) _ Q4.out.range Tryz.underlying181 rfl (bE _) ?_) | (refine wpList_store_row rfl 181 (.tmp 3) (.tmp 38) rfl (w.heap.size+1) (ay ⟨eJ n,eJ n,false⟩) rfl rfl 181 (zeroV false) R4.out (bE _) rfl (ez _) ?_;refine Hid.out ?_));refine hid ?_;obtain⟨V3,cT⟩:=ag (w4.setRow (w.heap.size+1) (ay ⟨eJ n,eJ n,false⟩));rw[<-cT];have R9:Hid (ar V3 (w.heap.size+1) (ay ⟨eJ n,eJ n,false⟩) 181):=by rw[cT];exact hid R4.out.setRow
 have K9:ae (· ≠w.heap.size+1) w4 V3:=by rw[cT];exact bI _ _ _
 clear cT;go_wp2;obtain⟨m0,m1,m2,m3,m4,m5,m6,m7,m8,m9,m10,m11,m12,m13,m14⟩:=R9.out.part;dsimp only at m0 m1 m2 m3 m4 m5 m6 m7 m8 m9 m10 m11 m12 m13 m14;refine bodyPost_ret (v:=.agg (ay ⟨eJ n,eJ n,false⟩)) (by simp[results,Tryz.results200,ay,go_sem,m0,m1,m2,m3,m4,m5,m6,m7,m8,m9,m10,m11,m12,m13,m14]) rfl ⟨rfl,?_,?_⟩
 ·have Tr:∀ x,x=w.heap.size+1->∀ (v:Value),(v.ownBlock=(Value.slice sa n sc).ownBlock\/v.ownBlock=(Value.slice fa n fc).ownBlock\/∀ x,v.ownBlock=some x->V.heap.size<=x)->v.ownBlock≠some x:=fun x hx v hv e=>by
   rcases hv with h | h | h
   ·have:=(O1.out.lt x (by rw[<-h,e])).2;omega
   ·have:=(P1.out.lt x (by rw[<-h,e])).2;omega
   ·have:=h x e;omega
  have S9:=ai S4.out K9 fun x hx e=>Tr x e _ (SWo.out.elim .inl fun h=>.inr (.inr h)) hx
  have F9:=ai F4.out K9 fun x hx e=>Tr x e _ (FW.out.2.elim (fun h=>.inr (.inl h)) fun h=>.inr (.inr h)) hx
  have B9:=BM4.out.keeps K9 (by omega);have hs:=K9.size;have ID:=KA4.out.size;have es:aM (m.aL++ [s])=aM m.aL++(encS s).toList:=by rw[gO];simp[aM]
  have ef:dZ (m.cF++ [0])=dZ m.cF++gj.toList:=by rw[Ch,IG]
  have ls:(m.aL++ [s]).length=n+1:=by rw[aG, <-oQ.out];rfl
  have lf:(m.cF++ [(0:PB)]).length=n+1:=by rw[aG,Kk.out, <-oQ.out];rfl
  refine⟨fun x=>F x\/(Value.slice ta (n+1) tc).ownBlock=some x\/(Value.slice f1 (n+1) f2).ownBlock=some x,⟨.inl HM.out.fm,fun x hx=>?_,_,_,B9,?_,fun x hx=>.inr (.inl hx),?_,fun x hx=>.inr (.inr hx)⟩,fun x hx=>.inl hx,fun x hx=>?_⟩
  ·rcases hx with h | h | h
   ·have:=HM.out.lt x h;exact⟨this.1,by omega⟩
   ·exact S9.lt x h
   ·exact F9.lt x h
  ·rw[ls,es];exact S9
  ·rw[lf,ef];exact F9
  ·rcases hx with h | h | h
   ·exact .inl h
   ·rcases SWo.out with h2 | h2
    ·exact .inl (S3.out x (by rw[<-h2];exact h))
    ·exact .inr (by have:=h2 x h;omega)
   ·rcases FW.out.2 with h2 | h2
    ·exact .inl (S5.out x (by rw[<-h2];exact h))
    ·exact .inr (by have:=h2 x h;omega)
 ·exact((E0.out.keeps.mono fun x hx=>hx.1).tr KA4.out).tr (K9.mono fun x hx=>by have:=hx.1;omega)
def jR (base M:Nat) (F:Nat->Prop) (w:World) (m:GM) (p:GP) (e:Ending) (w':World):Prop:=
 e=.returned (.agg (ay p))/\(∃ F',fM base M F' w' m/\(∀ x,F x->F' x)/\∀ x,F' x->F x\/w.heap.size<=x)/\ae (fun x=>x<w.heap.size/\¬F x) w w'/\w.heap.size<w'.heap.size
def IP (n0:Nat) (t:RX):Prop:=∀ (base M:Nat) (F:Nat->Prop) (m:GM) (w:World) (v:Value),n0<=base->fM base M F w m->aJ (· <n0) w v t->m.ok->m.cF.length=m.aL.length->m.aL.length+t.cnt<=448->
 ah 102 #[.pointer (some ⟨M,0,none⟩),v] w (jR base M F w (t.dy m).1 (t.dy m).2)
theorem UD (n0 base M:Nat) (F:Nat->Prop) (m:GM) (k:Nat) (s:BS) (mn mx:Int) (t:RX) (l:List RX) (p:Option Addr) (n c:Nat) (X:Nat) (w:World) (dh:n0<=base) (h:fM base M F w m) (hr:aJ (· <n0) w (.agg (aq k s mn mx (.slice p n c))) (.nd k s mn mx (t::l))) (ht:IP n0 t) (hX:w.cell? ⟨X,0,none⟩=some (.pointer (some ⟨M,0,none⟩))) (EY:¬F X) (ok:m.ok) (hm:m.cF.length=m.aL.length) (hn:m.aL.length+t.cnt<=448): ah 207 #[.agg (aq k s mn mx (.slice p n c)),.pointer (some ⟨X,0,none⟩)] w (jR base M F w (t.dy m).1 (t.dy m).2):=by
 obtain⟨b,off,p',c',rfl,hb,rH,lL,⟨e0,e1,e2,e3,e4,e5,e6,e7⟩,hrt⟩:=hr.elem (i:=0) (t:=t) rfl;have hlen:n=l.length+1:=by obtain⟨p2,c2,e⟩:=hr.form;simp[aq,RX.subs,RX.kind,RX.set,RX.mn,RX.mx]at e;exact e.2.1
 have fE:0<n:=by omega
 have HM:=hid h;have UE:=hid hrt;have HT:=hid ht;have j6:=hid ok;have Kk:=hid hm;have HX:=hid hX;have Yn:=hid EY;have MK:X<w.heap.size:=World.block_lt_of_cell? _ _ hX;have Wh:M<w.heap.size:=(h.lt M h.fm).2;simp only[Nat.zero_mul,Nat.add_zero]at e0 e1 e2 e3 e4 e5 e6 e7;have E:=hid (And.intro e0 (And.intro e1 (And.intro e2 (And.intro e3 (And.intro e4 (And.intro e5 (And.intro e6 e7)))))));clear h hr hrt ht ok hm hX EY hlen e0 e1 e2 e3 e4 e5 e6 e7;obtain⟨m2,p2,wU⟩:∃ m2 p2,t.dy m=(m2,p2):=⟨_,_,rfl⟩;rw[wU];dsimp only;have HMP:=hid wU;clear wU;unfold aq;go_enter Tryz.func207,Tryz.ntmps207;go_upto_region 1 with fail
 refine ax ?_;intro V hV;have N0:Hid (ar V w.heap.size #[.int .u8 k,.int .u64 (wd s 0).toNat,.int .u64 (wd s 1).toNat,.int .u64 (wd s 2).toNat,.int .u64 (wd s 3).toNat,.int .i64 mn,.int .i64 mx,.slice (some ⟨b,off,none⟩) n c] 97):=by rw[hV];exact hid ((ar.new _ _ _).alloc _)
 have R0:Hid (ar V (w.heap.size+1) (zeroV false) 181):=by rw[hV];exact hid (ar.at (ar.new _ _ _) (by simp))
 have E0:Hid (Ext w V):=by rw[hV];exact hid (((Ext.refl w).alloc _).alloc _)
 have lI:Hid (V.heap.size=w.heap.size+1+1):=hid (by rw[hV];simp);clear hV;have Tq:V.cell? ⟨X,0,none⟩=some (.pointer (some ⟨M,0,none⟩)):=(E0.out.keeps.cell (p:=⟨X,0,none⟩) MK).trans HX.out;have ec:∀ (o:Nat) (u:Value),w.cell? ⟨b,o,none⟩=some u->V.cell? ⟨b,o,none⟩=some u:=fun o u h=>(E0.out.keeps.cell (p:=⟨b,o,none⟩) rH).trans h
 obtain⟨e0,e1,e2,e3,e4,e5,e6,e7⟩:=E.out;replace e0:=ec _ _ e0;replace e1:=ec _ _ e1;replace e2:=ec _ _ e2;replace e3:=ec _ _ e3;replace e4:=ec _ _ e4;replace e5:=ec _ _ e5;replace e6:=ec _ _ e6;replace e7:=ec _ _ e7;have n7:V.cell? ⟨w.heap.size,7,none⟩=some (.slice (some ⟨b,off,none⟩) n c):=N0.out.cell 7;have Wk:b<V.heap.size:=by rw[lI.out];omega
 have hXv:X<V.heap.size:=by rw[lI.out];omega
 clear ec E;refine aK false (fun _=>False) (by kernel_rfl) 5 [0,0,2,6,14,31,63] (fun i=>i==5 || i==6) (by kernel_rfl) (fun _=>aZ.any _) ?_;intro C hC hne;have HC:=hid hC;have f0:=aC hC (p:=⟨b,off,none⟩) Wk (fun h=>h) e0;have f1:=aC hC (p:=⟨b,off+1,none⟩) Wk (fun h=>h) e1;have f2:=aC hC (p:=⟨b,off+2,none⟩) Wk (fun h=>h) e2;have f3:=aC hC (p:=⟨b,off+3,none⟩) Wk (fun h=>h) e3;have f4:=aC hC (p:=⟨b,off+4,none⟩) Wk (fun h=>h) e4;have f5:=aC hC (p:=⟨b,off+5,none⟩) Wk (fun h=>h) e5;have f6:=aC hC (p:=⟨b,off+6,none⟩) Wk (fun h=>h) e6;have f7:=aC hC (p:=⟨b,off+7,none⟩) Wk (fun h=>h) e7;have fX:=aC hC (p:=⟨X,0,none⟩) hXv (fun h=>h) Tq;have fN:=aC hC (p:=⟨w.heap.size,7,none⟩) N0.out.lt (fun h=>h) n7;clear hC e0 e1 e2 e3 e4 e5 e6 e7 Tq n7
 repeat (refine au (fun K hK=>?_);first | (refine bX rfl ?_;try go_simp;refine hK _ _ ?_;clear hK K) | (refine bR rfl rfl ?_;unfold aB;go_simp;refine hK _ _ ?_;clear hK K))
 refine bG (fun W hW hH=>?_);have j5:=(HC.out W).1 hW;have MW:Hid (fM base M F W m):=hid ((HM.out.keeps E0.out.keeps fun x hx=>(HM.out.lt x hx).2).keeps (ae.ak j5.below fun _ h=>h:ae (· <V.heap.size) V W) fun x hx=>by have:=(HM.out.lt x hx).2;rw[lI.out];omega);have IW:Hid (aJ (· <n0) W (.agg (aq t.kind t.set t.mn t.mx (.slice p' t.subs.length c'))) t):=hid ((UE.out.keeps E0.out.keeps fun x hx=>by have:=(HM.out.lt _ HM.out.fm).1;omega).keeps (ae.ak j5.below fun _ h=>h:ae (· <V.heap.size) V W) fun x hx=>by have:=(HM.out.lt _ HM.out.fm).1;rw[lI.out];omega);have RW:=hid (R0.out.below j5.below R0.out.lt);have KW:Hid (ae (· <w.heap.size) w W):=hid (E0.out.keeps.tr (ae.ak j5.below fun x hx=>by rw[lI.out];omega:ae (· <w.heap.size) V W));have sX:w.heap.size+1+1<=W.heap.size:=by rw[<-lI.out];exact j5.below.size
 clear j5 hW hH HC hne f0 f1 f2 f3 f4 f5 f6 f7 fX fN;have CM:Hid (ah 102 #[.pointer (some ⟨M,0,none⟩),.agg (aq t.kind t.set t.mn t.mx (.slice p' t.subs.length c'))] W (jR base M F W (t.dy m).1 (t.dy m).2)):=hid (HT.out base M F m W _ dh MW.out IW.out j6.out Kk.out hn);rw[HMP.out]at CM;dsimp only at CM;clear MW IW R0;go_wp2_with fail
 refine CM.out.mono ?_;rintro e w3 ⟨rfl,hF',hx,hsz⟩;have oA:∀ k,w.heap.size<=k->¬F k:=fun k hk e=>by have:=(HM.out.lt k e).2;omega
 have R3:Hid (ar w3 (w.heap.size+1) (zeroV false) 181):=hid (RW.out.keeps hx ⟨by omega,oA _ (by omega)⟩);have QO:=hid hF';have HK:=hid hx;clear hx hF' CM;go_wp2_with (first | (refine wpList_store_row rfl 181 (.tmp 3) (.tmp 9) rfl (w.heap.size+1) (ay p2) rfl rfl 181 (zeroV false) R3.out (bE _) rfl (ez _) ?_;refine Hid.out ?_));refine hid ?_;obtain⟨V3,cT⟩:=ag (w3.setRow (w.heap.size+1) (ay p2));rw[<-cT];have R9:Hid (ar V3 (w.heap.size+1) (ay p2) 181):=by rw[cT];exact hid R3.out.setRow
 have K9:ae (· ≠w.heap.size+1) w3 V3:=by rw[cT];exact bI _ _ _
 clear cT;go_wp2;obtain⟨m0,m1,m2,m3,m4,m5,m6,m7,m8,m9,m10,m11,m12,m13,m14⟩:=R9.out.part;refine bodyPost_ret (v:=.agg (ay p2)) (by simp[results,Tryz.results207,ay,go_sem,m0,m1,m2,m3,m4,m5,m6,m7,m8,m9,m10,m11,m12,m13,m14]) rfl ⟨rfl,?_,?_,?_⟩
 ·obtain⟨F',h1,h2,h3⟩:=QO.out
  refine⟨F',⟨h1.fm,fun x hx=>⟨(h1.lt x hx).1,aA (h1.lt x hx).2 K9.size⟩,?_⟩,h2,fun x hx=>(h3 x hx).imp id fun h=>by omega⟩;exact(h1.keeps K9 fun x hx e=>by rcases h3 x hx with h | h;exact oA _ (by omega) h;omega).row
 ·exact(KW.out.mono fun x hx=>hx.1).tr ((HK.out.mono fun x hx=>⟨by have:=hx.1;omega,hx.2⟩).tr (K9.mono fun x hx=>by have:=hx.1;omega))
 ·have:=K9.size;omega
end
section
open Go Go.RowKit
theorem EZ:∀ (a b:List RX) (st:GM×GP),RX.fW (a++b) st=RX.fW b (RX.fW a st)
 | [],_,_=>by rw[List.nil_append,RX.fW]
 | t::a,b,st=>by rw[List.cons_append,RX.fW,RX.fW];exact EZ a b _
theorem Fa:∀ (a b:List RX) (st:GM×GP),RX.jg (a++b) st=RX.jg b (RX.jg a st)
 | [],_,_=>by rw[List.nil_append,RX.jg]
 | t::a,b,st=>by rw[List.cons_append,RX.jg,RX.jg];exact Fa a b _
theorem wV:∀ (a b:List RX),RX.gF (a++b)=RX.gF a+RX.gF b
 | [],_=>by rw[List.nil_append,RX.gF,Nat.zero_add]
 | t::a,b=>by rw[List.cons_append,RX.gF,RX.gF,wV a b,Nat.add_assoc]
theorem Ag (l:List RX) (k:Nat):RX.gF (l.take k)<=RX.gF l:=by have h:=wV (l.take k) (l.drop k);rw[List.take_append_drop]at h;omega
theorem Cj {α:Type} {l:List α} {k:Nat} {t:α} (h:l[k]? =some t):l.take (k+1)=l.take k++ [t]:=by rw[List.take_add_one,h];rfl
theorem Ah {l:List RX} {k:Nat} {t:RX} (h:l[k]? =some t):RX.gF (l.take (k+1))=RX.gF (l.take k)+t.cnt:=by rw[Cj h,wV,RX.gF,RX.gF,Nat.add_zero]
theorem ML {l:List RX} {k:Nat} {t:RX} (h:l[k]? =some t) (st:GM×GP):RX.fW (l.take (k+1)) st=((t.dy (RX.fW (l.take k) st).1).1,⟨(RX.fW (l.take k) st).2.fst ||| (t.dy (RX.fW (l.take k) st).1).2.fst,(RX.fW (l.take k) st).2.cR ||| (t.dy (RX.fW (l.take k) st).1).2.cR,(RX.fW (l.take k) st).2.emp || (t.dy (RX.fW (l.take k) st).1).2.emp⟩):=by rw[Cj h,EZ,RX.fW,RX.fW]
theorem MM {l:List RX} {k:Nat} {t:RX} (h:l[k]? =some t) (st:GM×GP):RX.jg (l.take (k+1)) st=cM (t.dy (RX.jg (l.take k) st).1).1 (RX.jg (l.take k) st).2 (t.dy (RX.jg (l.take k) st).1).2:=by rw[Cj h,Fa,RX.jg,RX.jg]
theorem QP {l:List RX} (hl:∀ t∈l,t.full=true) {m:GM} (hm:m.ok) (e:Bool) (k:Nat):jm m (RX.fW (l.take k) (m,⟨0,0,e⟩)) (RX.gF (l.take k)):=by have h:=Cc (l.take k) (fun t ht m hm=>nH t (hl t (List.mem_of_mem_take ht)) m hm) m (m,⟨0,0,e⟩) 0 ⟨hm,rfl,⟨fun p hp=>by simp at hp,fun p hp=>by simp at hp⟩⟩;rw[Nat.zero_add]at h;exact h
theorem QQ {l:List RX} (hl:∀ t∈l,t.full=true) {m:GM} (hm:m.ok) (e:Bool) (k:Nat):jm m (RX.jg (l.take k) (m,⟨0,0,e⟩)) (RX.gF (l.take k)):=by have h:=Cb (l.take k) (fun t ht m hm=>nH t (hl t (List.mem_of_mem_take ht)) m hm) m (m,⟨0,0,e⟩) 0 ⟨hm,rfl,⟨fun p hp=>by simp at hp,fun p hp=>by simp at hp⟩⟩;rw[Nat.zero_add]at h;exact h
end
section
open Go Go.RowKit Go.Shelf Go.Maps
def UF (base M:Nat) (F:Nat->Prop) (st:GM×GP) (O:Nat) (V W:World):Prop:=
 (∃ F',fM base M F' W st.1/\(∀ x,F x->F' x)/\∀ x,F' x->F x\/V.heap.size<=x)/\ar W O (ay st.2) 181/\ae (fun x=>x<V.heap.size/\¬F x/\x≠O) V W
theorem QS (n0 base M:Nat) (F:Nat->Prop) (m:GM) (k:Nat) (s:BS) (mn mx:Int) (l:List RX) (p:Option Addr) (n c:Nat) (X:Nat) (w:World) (dh:n0<=base) (h:fM base M F w m) (hr:aJ (· <n0) w (.agg (aq k s mn mx (.slice p n c))) (.nd k s mn mx l)) (ht:∀ t∈l,IP n0 t) (hf:∀ t∈l,t.full=true) (hX:w.cell? ⟨X,0,none⟩=some (.pointer (some ⟨M,0,none⟩))) (EY:¬F X) (ok:m.ok) (hm:m.cF.length=m.aL.length) (hn:m.aL.length+RX.gF l<=448) (hL:l.length<=10000): ah 204 #[.agg (aq k s mn mx (.slice p n c)),.pointer (some ⟨X,0,none⟩)] w (jR base M F w (RX.fW l (m,⟨0,0,false⟩)).1 (RX.fW l (m,⟨0,0,false⟩)).2):=by
 have hlen:n=l.length:=by obtain⟨p2,c2,e⟩:=hr.form;simp[aq,RX.subs,RX.kind,RX.set,RX.mn,RX.mx]at e;exact e.2.1
 have hn9:n<=10000:=by omega
 have HM:=hid h;have HR:=hid hr;have HT:=hid ht;have Ts:=hid hf;have j6:=hid ok;have Kk:=hid hm;have HX:=hid hX;have Yn:=hid EY;have QT:=hid hlen;have MK:X<w.heap.size:=World.block_lt_of_cell? _ _ hX;have Wh:M<w.heap.size:=(h.lt M h.fm).2;have rH:n0<=w.heap.size:=by have:=(h.lt M h.fm).1;omega
 obtain⟨st,hst⟩:=ag (RX.fW l (m,⟨0,0,false⟩));rw[<-hst];have HST:=hid hst;clear h hr ht hf ok hm hX EY hlen hst;unfold aq;go_enter Tryz.func204,Tryz.ntmps204;go_upto_region 2 with fail
 refine ax ?_;intro V hV;have N0:Hid (ar V w.heap.size #[.int .u8 k,.int .u64 (wd s 0).toNat,.int .u64 (wd s 1).toNat,.int .u64 (wd s 2).toNat,.int .u64 (wd s 3).toNat,.int .i64 mn,.int .i64 mx,.slice p n c] 97):=by rw[hV];exact hid (((ar.new _ _ _).alloc _).alloc _)
 have R0:Hid (ar V (w.heap.size+1) (zeroV false) 181):=by rw[hV];exact hid ((ar.at (ar.new _ _ _) (by simp)).alloc _)
 have O0:Hid (ar V (w.heap.size+1+1) (zeroV false) 181):=by rw[hV];exact hid (ar.at (ar.new _ _ _) (by simp))
 have E0:Hid (Ext w V):=by rw[hV];exact hid ((((Ext.refl w).alloc _).alloc _).alloc _)
 have lI:Hid (V.heap.size=w.heap.size+1+1+1):=hid (by rw[hV];simp);clear hV;have n7:V.cell? ⟨w.heap.size,7,none⟩=some (.slice p n c):=N0.out.cell 7;have yX:w.heap.size+1+1<V.heap.size:=by rw[lI.out];omega
 have MV:Hid (fM base M F V m):=hid (HM.out.keeps E0.out.keeps fun x hx=>(HM.out.lt x hx).2);have Tq:V.cell? ⟨X,0,none⟩=some (.pointer (some ⟨M,0,none⟩)):=(E0.out.keeps.cell (p:=⟨X,0,none⟩) MK).trans HX.out;have HXV:=hid Tq;clear Tq;go_wp2;clear n7;go_loopw [11] (fun iv W=>∃ k:Nat,k<=n/\iv=.int .i64 k/\UF base M F (RX.fW (l.take k) (m,⟨0,0,false⟩)) (w.heap.size+1+1) V W) (fun iv _=>n-(intOf iv).toNat);case atStart=>
  refine⟨0,by omega,rfl,?_⟩;rw[List.take_zero,RX.fW];exact⟨⟨F,MV.out,fun _ h=>h,fun _ h=>.inl h⟩,by rw[iG];exact O0.out,ae.refl _ _⟩
 case round=>
  obtain⟨k,hk,rfl,hI⟩:=hrel;obtain⟨wo,rfl⟩:=ag (wr:World);have HI:=hid hI;clear hI;by_cases hlt:k<n
  ·have eG:(k:Int)<n:=by omega
   obtain⟨t,fD⟩:∃ t,l[k]? =some t:=⟨_,az (by have:=QT.out;omega)⟩;have wW:∀ x,x<n0->¬F x:=fun x hx e=>by have:=(HM.out.lt x e).1;omega
   obtain⟨b,off,p',c',rfl,hb,hbw2,lL,⟨e0,e1,e2,e3,e4,e5,e6,e7⟩,hrt⟩:=HR.out.elem fD;have pO:=hid fD;have KO:Hid (ae (fun x=>x<w.heap.size/\¬F x) w wo):=hid ((E0.out.keeps.mono fun x hx=>hx.1).tr (HI.out.2.2.mono fun x hx=>⟨by have:=hx.1;omega,hx.2,by have:=hx.1;omega⟩));have ec:∀ (o:Nat) (u:Value),w.cell? ⟨b,o,none⟩=some u->wo.cell? ⟨b,o,none⟩=some u:=fun o u h=>(KO.out.cell (p:=⟨b,o,none⟩) ⟨hbw2,wW b hb⟩).trans h
   replace e0:=ec _ _ e0;replace e1:=ec _ _ e1;replace e2:=ec _ _ e2;replace e3:=ec _ _ e3;replace e4:=ec _ _ e4;replace e5:=ec _ _ e5;replace e6:=ec _ _ e6;replace e7:=ec _ _ e7;have Tt:wo.cell? ⟨X,0,none⟩=some (.pointer (some ⟨M,0,none⟩)):=(KO.out.cell (p:=⟨X,0,none⟩) ⟨MK,Yn.out⟩).trans HX.out;have HXo:=hid Tt;have hbo:b<wo.heap.size:=World.block_lt_of_cell? _ _ e0;have UE:Hid (aJ (· <n0) wo (.agg (aq t.kind t.set t.mn t.mx (.slice p' t.subs.length c'))) t):=hid (hrt.keeps KO.out fun x hx=>⟨by omega,wW x hx⟩);clear ec fD hrt wW Tt;go_upto_region 5 with fail
   refine ax ?_;intro W1 hW1;have N1:Hid (ar W1 wo.heap.size (aq t.kind t.set t.mn t.mx (.slice p' t.subs.length c')) 97):=by rw[hW1];exact hid (ar.new _ _ _)
   have E1:Hid (Ext wo W1):=by rw[hW1];exact hid ((Ext.refl wo).alloc _)
   clear hW1 e0 e1 e2 e3 e4 e5 e6 e7;have e0:W1.cell? ⟨wo.heap.size,0,none⟩=some (.int .u8 t.kind):=N1.out.cell 0;have e1:W1.cell? ⟨wo.heap.size,1,none⟩=some (.int .u64 (wd t.set 0).toNat):=N1.out.cell 1;have e2:W1.cell? ⟨wo.heap.size,2,none⟩=some (.int .u64 (wd t.set 1).toNat):=N1.out.cell 2;have e3:W1.cell? ⟨wo.heap.size,3,none⟩=some (.int .u64 (wd t.set 2).toNat):=N1.out.cell 3;have e4:W1.cell? ⟨wo.heap.size,4,none⟩=some (.int .u64 (wd t.set 3).toNat):=N1.out.cell 4;have e5:W1.cell? ⟨wo.heap.size,5,none⟩=some (.int .i64 t.mn):=N1.out.cell 5;have e6:W1.cell? ⟨wo.heap.size,6,none⟩=some (.int .i64 t.mx):=N1.out.cell 6;have e7:W1.cell? ⟨wo.heap.size,7,none⟩=some (.slice p' t.subs.length c'):=N1.out.cell 7;have Tt:W1.cell? ⟨X,0,none⟩=some (.pointer (some ⟨M,0,none⟩)):=(E1.out.keeps.cell (p:=⟨X,0,none⟩) (World.block_lt_of_cell? _ _ HXo.out)).trans HXo.out;obtain⟨⟨F',Ck,MN,hF2⟩,hO,Fb⟩:=HI.out;have bO:=QP Ts.out j6.out false k;have hcs:=Ah pO.out;have hct:=Ag l (k+1);have nX:=ML pO.out (m,(⟨0,0,false⟩:GP));have CM:Hid (ah 102 #[.pointer (some ⟨M,0,none⟩),.agg (aq t.kind t.set t.mn t.mx (.slice p' t.subs.length c'))] W1 (jR base M F' W1 (t.dy (RX.fW (l.take k) (m,⟨0,0,false⟩)).1).1 (t.dy (RX.fW (l.take k) (m,⟨0,0,false⟩)).1).2)):=hid (HT.out t (aw pO.out) base M F' _ W1 _ dh (Ck.keeps E1.out.keeps fun x hx=>(Ck.lt x hx).2) (UE.out.keeps E1.out.keeps fun x hx=>by have:=KO.out.size;omega) bO.ok bO.ok.len (by rw[bO.len];omega));clear bO hcs hct;obtain⟨sk,hsk⟩:=ag (RX.fW (l.take k) (m,(⟨0,0,false⟩:GP)));rw[<-hsk]at CM hO Ck nX;obtain⟨m2,p2,wU⟩:∃ m2 p2,t.dy sk.1=(m2,p2):=⟨_,_,rfl⟩;rw[wU]at CM nX;dsimp only at CM nX;have UG:=hid nX;have QU:¬F' (w.heap.size+1+1):=fun e=>by rcases hF2 _ e with h | h;exact absurd (HM.out.lt _ h).2 (by omega);omega
   have O1:=hid (hO.ext E1.out);have Wl:=hid MN;have Ks:=hid hF2;have MP:=hid Fb;have rI:=hid QU;clear nX wU hsk hO Ck MN hF2 Fb QU HI;go_wp2_with fail
   refine CM.out.mono ?_;rintro e w2 ⟨rfl,hF'',hx,hsz⟩;have O2:=hid (O1.out.keeps hx ⟨O1.out.lt,rI.out⟩);have agb:=hid hF'';have UH:=hid hx;clear hF'' hx CM e0 e1 e2 e3 e4 e5 e6 e7 Tt;unfold ay;go_upto_region 6 with fail
   refine ax ?_;intro W3 hW3;have X3:Hid (ar W3 w2.heap.size (ay p2) 181):=by rw[hW3];exact hid (ar.new _ _ _)
   have E3:Hid (Ext w2 W3):=by rw[hW3];exact hid ((Ext.refl w2).alloc _)
   have O3:=hid (O2.out.ext E3.out);have hO2:w.heap.size+1+1<w2.heap.size:=O2.out.lt;clear hW3 O1 O2;obtain⟨a0,a1,a2,a3,a4,a5,a6,a7,a8,a9,jZ,j3,a12,j4,jy⟩:=X3.out.part;obtain⟨o0,o1,o2,o3,o4,o5,o6,o7,o8,o9,qF,qG,qH,qI,qg⟩:=O3.out.part;obtain⟨z0,z1,z2,z3,z4,z5,z6,z7,z8,z9,z10,z11,z12,z13,z14⟩:=O3.out.nM
   try dsimp only at o0 o1 o2 o3 o4 o5 o6 o7 o8 o9 qF qG qH qI qg
   go_wp2_with fail
   clear a0 a1 a2 a3 a4 a5 a6 a7 a8 a9 jZ j3 a12 j4 jy o0 o1 o2 o3 o4 o5 o6 o7 o8 o9 qF qG qH qI qg z0 z1 z2 z3 z4 z5 z6 z7 z8 z9 z10 z11 z12 z13 z14;refine(jQ (bW sk.2.fst) (bW p2.fst) (w.heap.size+1+1) 0 W3 (fZ.fst O3.out) (fun i _=>O3.out.frozen _)).mono ?_;rintro e w4 ⟨⟨u,rfl⟩,hx⟩;have O4:Hid (ar w4 (w.heap.size+1+1) (ay ⟨sk.2.fst ||| p2.fst,sk.2.cR,sk.2.emp⟩) 181):=hid ((pX O3.out (sk.2.fst ||| p2.fst) (fun i _=>(wM sk.2.fst p2.fst i).symm)).keeps hx O3.out.lt);have K4:Hid (ae (fun x=>x<W3.heap.size/\x≠w.heap.size+1+1) W3 w4):=hid (((cO _ _ _ _ _:ae (· ≠w.heap.size+1+1) W3 _).mono fun x hx=>hx.2).tr (hx.mono fun x hx=>hx.1));have X4:=hid (X3.out.keeps K4.out ⟨X3.out.lt,by omega⟩);clear hx;obtain⟨a0,a1,a2,a3,a4,a5,a6,a7,a8,a9,jZ,j3,a12,j4,jy⟩:=X4.out.part;obtain⟨o0,o1,o2,o3,o4,o5,o6,o7,o8,o9,qF,qG,qH,qI,qg⟩:=O4.out.part;obtain⟨z0,z1,z2,z3,z4,z5,z6,z7,z8,z9,z10,z11,z12,z13,z14⟩:=O4.out.nM
   try dsimp only at o0 o1 o2 o3 o4 o5 o6 o7 o8 o9 qF qG qH qI qg
   go_wp2_with fail
   clear a0 a1 a2 a3 a4 a5 a6 a7 a8 a9 jZ j3 a12 j4 jy o0 o1 o2 o3 o4 o5 o6 o7 o8 o9 qF qG qH qI qg z0 z1 z2 z3 z4 z5 z6 z7 z8 z9 z10 z11 z12 z13 z14;refine(jQ (bW sk.2.cR) (bW p2.cR) (w.heap.size+1+1) 7 w4 (fZ.cR (a:=⟨sk.2.fst ||| p2.fst,sk.2.cR,sk.2.emp⟩) O4.out) (fun i _=>O4.out.frozen _)).mono ?_;rintro e w5 ⟨⟨u,rfl⟩,hx⟩;have O5:Hid (ar w5 (w.heap.size+1+1) (ay ⟨sk.2.fst ||| p2.fst,sk.2.cR ||| p2.cR,sk.2.emp⟩) 181):=hid ((pY O4.out (sk.2.cR ||| p2.cR) (fun i _=>(wM sk.2.cR p2.cR i).symm)).keeps hx O4.out.lt);have K5:Hid (ae (fun x=>x<W3.heap.size/\x≠w.heap.size+1+1) W3 w5):=hid (K4.out.tr (((cO _ _ _ _ _:ae (· ≠w.heap.size+1+1) w4 _).mono fun x hx=>hx.2).tr (hx.mono fun x hx=>by have:=K4.out.size;exact aA hx.1 this)));have X5:=hid (X3.out.keeps K5.out ⟨X3.out.lt,by omega⟩);clear hx;obtain⟨a0,a1,a2,a3,a4,a5,a6,a7,a8,a9,jZ,j3,a12,j4,jy⟩:=X5.out.part;obtain⟨o0,o1,o2,o3,o4,o5,o6,o7,o8,o9,qF,qG,qH,qI,qg⟩:=O5.out.part;obtain⟨z0,z1,z2,z3,z4,z5,z6,z7,z8,z9,z10,z11,z12,z13,z14⟩:=O5.out.nM
   try dsimp only at o0 o1 o2 o3 o4 o5 o6 o7 o8 o9 qF qG qH qI qg
   obtain⟨eb,Cm⟩:=ag sk.2.emp;rw[<-Cm]at qg;have Yo:=hid Cm;clear Cm;cases eb;all_goals
    go_wp2;go_roundw;case rel=>
     refine⟨k+1,by omega,by go_num,?_⟩;rw[UG.out];obtain⟨F'',g1,g2,g3⟩:=agb.out;have h1:=E1.out.keeps.size;have h2:=MP.out.size;have h3:=E3.out.keeps.size;have K6:=K5.out.setCell (p:=⟨w.heap.size+1+1,14,none⟩) (fun h=>h.2 rfl) (.bool (sk.2.emp || p2.emp));have O6:=O5.out.set 14 (.bool (sk.2.emp || p2.emp));have agc:¬F'' (w.heap.size+1+1):=fun e=>by rcases g3 _ e with h | h;exact rI.out h;omega
     rw[<-Yo.out]at K6 O6 ⊢;simp only[Bool.false_or,Bool.true_or]at K6 O6 ⊢;refine⟨⟨F'',(g1.keeps E3.out.keeps fun x hx=>(g1.lt x hx).2).keeps K6 fun x hx=>⟨by have:=(g1.lt x hx).2;omega,fun e=>agc (e▸hx)⟩,fun x h=>g2 x (Wl.out x h),fun x h=>by rcases g3 x h with h | h;exact Ks.out x h;exact .inr (by omega)⟩,O6,?_⟩;exact MP.out.tr ((E1.out.keeps.mono fun x hx=>by have:=hx.1;omega).tr ((UH.out.mono fun x hx=>⟨by have:=hx.1;omega,fun e=>by rcases Ks.out x e with h | h;exact hx.2.1 h;have:=hx.1;omega⟩).tr ((E3.out.keeps.mono fun x hx=>by have:=hx.1;omega).tr (K6.mono fun x hx=>⟨by have:=hx.1;omega,hx.2.2⟩))))
    case measure=>simp[intOf];omega
  ·obtain rfl:k=n:=by omega
   have Ii:¬ ((k:Int)<k):=by omega
   obtain⟨hF',hO,hK⟩:=HI.out;rw[QT.out,List.take_length, <-HST.out]at hF' hO;have QO:=hid hF';have O3:=hid hO;have HK:=hid hK;have R3:Hid (ar wo (w.heap.size+1) (zeroV false) 181):=hid (R0.out.keeps hK ⟨R0.out.lt,fun e=>by have:=(HM.out.lt _ e).2;omega,by omega⟩);clear hF' hO hK HI;go_wp2_with (first | (refine aY rfl 181 (.tmp 4) rfl (w.heap.size+1+1) rfl (ay st.2) _ O3.out.range Tryz.underlying181 rfl (bE _) ?_) | (refine wpList_store_row rfl 181 (.tmp 3) (.tmp 34) rfl (w.heap.size+1) (ay st.2) rfl rfl 181 (zeroV false) R3.out (bE _) rfl (ez _) ?_;refine Hid.out ?_));refine hid ?_;obtain⟨V3,cT⟩:=ag (wo.setRow (w.heap.size+1) (ay st.2));rw[<-cT];have R9:Hid (ar V3 (w.heap.size+1) (ay st.2) 181):=by rw[cT];exact hid R3.out.setRow
   have K9:ae (· ≠w.heap.size+1) wo V3:=by rw[cT];exact bI _ _ _
   clear cT;go_wp2;obtain⟨m0,m1,m2,m3,m4,m5,m6,m7,m8,m9,m10,m11,m12,m13,m14⟩:=R9.out.part;refine bodyPost_ret (v:=.agg (ay st.2)) (by simp[results,Tryz.results204,ay,go_sem,m0,m1,m2,m3,m4,m5,m6,m7,m8,m9,m10,m11,m12,m13,m14]) rfl ⟨rfl,?_,?_,?_⟩
   ·obtain⟨F',h1,h2,h3⟩:=QO.out
    exact⟨F',h1.keeps K9 fun x hx e=>by(rcases h3 x hx with h | h; · exact absurd (HM.out.lt x h).2 (by omega));omega,h2,fun x hx=>(h3 x hx).imp id fun h=>by omega⟩
   ·exact(E0.out.keeps.mono fun x hx=>hx.1).tr ((HK.out.mono fun x hx=>⟨by have:=hx.1;omega,hx.2,by have:=hx.1;omega⟩).tr (K9.mono fun x hx=>by have:=hx.1;omega))
   ·have:=K9.size;have:=HK.out.size;omega
structure UI (base M n9:Nat) (F:Nat->Prop) (m2:GM) (A B:World):Prop where
 keep:ae (fun x=>x<n9/\¬F x) A B
 uh:n9<A.heap.size->∀ F2,fM base M F2 A m2->fM base M F2 B m2
theorem UI.trans {base M n9:Nat} {F:Nat->Prop} {m2:GM} {A B C:World} (h:UI base M n9 F m2 A B) (k:UI base M n9 F m2 B C):UI base M n9 F m2 A C:=
 ⟨h.keep.tr k.keep,fun hn F2 hF=>k.uh (aA hn h.keep.size) F2 (h.uh hn F2 hF)⟩
theorem UI.ext {base M n9:Nat} {F:Nat->Prop} {m2:GM} {A B:World} (hn:n9<=A.heap.size) (h:Ext A B):UI base M n9 F m2 A B:=
 ⟨h.mono fun _ hx=>aA hx.1 hn,fun _ _ hF=>hF.keeps h.keeps fun x hx=>(hF.lt x hx).2⟩
def wT.mk (base M n9:Nat) (F:Nat->Prop) (m2:GM) (p2:GP):aZ (UI base M n9 F m2) where
 P:=fun v=>v=.agg (ay p2)
 H:=fun _ W=>n9<W.heap.size/\∃ F2,fM base M F2 W m2/\(∀ x,F x->F2 x)/\∀ x,F2 x->F x\/n9<=x
 nW:=.agg (ay p2)
 pw:=rfl
 st:=fun _ _ _ hm _ ⟨hn,F2,h1,h2,h3⟩=>⟨aA hn hm.keep.size,F2,hm.uh hn F2 h1,h2,h3⟩
def agd (base M n9:Nat) (F:Nat->Prop) (m:GM) (j:Nat) (W:World):Prop:=j=4->W.heap.size=n9/\fM base M F W m
theorem QV (n0 base M:Nat) (F:Nat->Prop) (m:GM) (k:Nat) (s:BS) (mn mx:Int) (l:List RX) (p:Option Addr) (n c:Nat) (X:Nat) (w:World) (dh:n0<=base) (h:fM base M F w m) (hr:aJ (· <n0) w (.agg (aq k s mn mx (.slice p n c))) (.nd k s mn mx l)) (ht:∀ t∈l,IP n0 t) (hf:∀ t∈l,t.full=true) (hX:w.cell? ⟨X,0,none⟩=some (.pointer (some ⟨M,0,none⟩))) (EY:¬F X) (ok:m.ok) (hm:m.cF.length=m.aL.length) (hn:m.aL.length+RX.gF l<=448) (hL:l.length<=10000): ah 202 #[.agg (aq k s mn mx (.slice p n c)),.pointer (some ⟨X,0,none⟩)] w (jR base M F w (RX.jg l (m,⟨0,0,true⟩)).1 (RX.jg l (m,⟨0,0,true⟩)).2):=by
 have hlen:n=l.length:=by obtain⟨p2,c2,e⟩:=hr.form;simp[aq,RX.subs,RX.kind,RX.set,RX.mn,RX.mx]at e;exact e.2.1
 have hn9:n<=10000:=by omega
 have HM:=hid h;have HR:=hid hr;have HT:=hid ht;have Ts:=hid hf;have j6:=hid ok;have Kk:=hid hm;have HX:=hid hX;have Yn:=hid EY;have QT:=hid hlen;have MK:X<w.heap.size:=World.block_lt_of_cell? _ _ hX;have Wh:M<w.heap.size:=(h.lt M h.fm).2;have rH:n0<=w.heap.size:=by have:=(h.lt M h.fm).1;omega
 obtain⟨st,hst⟩:=ag (RX.jg l (m,⟨0,0,true⟩));rw[<-hst];have HST:=hid hst;clear h hr ht hf ok hm hX EY hlen hst;unfold aq;go_enter Tryz.func202,Tryz.ntmps202;go_upto_region 2 with fail
 refine ax ?_;intro V hV;have N0:Hid (ar V w.heap.size #[.int .u8 k,.int .u64 (wd s 0).toNat,.int .u64 (wd s 1).toNat,.int .u64 (wd s 2).toNat,.int .u64 (wd s 3).toNat,.int .i64 mn,.int .i64 mx,.slice p n c] 97):=by rw[hV];exact hid (((ar.new _ _ _).alloc _).alloc _)
 have R0:Hid (ar V (w.heap.size+1) (zeroV false) 181):=by rw[hV];exact hid ((ar.at (ar.new _ _ _) (by simp)).alloc _)
 have O0:Hid (ar V (w.heap.size+1+1) (zeroV true) 181):=by rw[hV];exact hid (ar.at (ar.new _ _ _) (by simp))
 have E0:Hid (Ext w V):=by rw[hV];exact hid ((((Ext.refl w).alloc _).alloc _).alloc _)
 have lI:Hid (V.heap.size=w.heap.size+1+1+1):=hid (by rw[hV];simp);clear hV;have n7:V.cell? ⟨w.heap.size,7,none⟩=some (.slice p n c):=N0.out.cell 7;have yX:w.heap.size+1+1<V.heap.size:=by rw[lI.out];omega
 have MV:Hid (fM base M F V m):=hid (HM.out.keeps E0.out.keeps fun x hx=>(HM.out.lt x hx).2);have Tq:V.cell? ⟨X,0,none⟩=some (.pointer (some ⟨M,0,none⟩)):=(E0.out.keeps.cell (p:=⟨X,0,none⟩) MK).trans HX.out;have HXV:=hid Tq;clear Tq;go_wp2;clear n7;go_loopw [11] (fun iv W=>∃ k:Nat,k<=n/\iv=.int .i64 k/\UF base M F (RX.jg (l.take k) (m,⟨0,0,true⟩)) (w.heap.size+1+1) V W) (fun iv _=>n-(intOf iv).toNat);case atStart=>
  refine⟨0,by omega,rfl,?_⟩;rw[List.take_zero,RX.jg];exact⟨⟨F,MV.out,fun _ h=>h,fun _ h=>.inl h⟩,by rw[iG];exact O0.out,ae.refl _ _⟩
 case round=>
  obtain⟨k,hk,rfl,hI⟩:=hrel;obtain⟨wo,rfl⟩:=ag (wr:World);have HI:=hid hI;clear hI;by_cases hlt:k<n
  ·have eG:(k:Int)<n:=by omega
   obtain⟨t,fD⟩:∃ t,l[k]? =some t:=⟨_,az (by have:=QT.out;omega)⟩;have wW:∀ x,x<n0->¬F x:=fun x hx e=>by have:=(HM.out.lt x e).1;omega
   obtain⟨b,off,p',c',rfl,hb,hbw2,lL,⟨e0,e1,e2,e3,e4,e5,e6,e7⟩,hrt⟩:=HR.out.elem fD;have pO:=hid fD;have KO:Hid (ae (fun x=>x<w.heap.size/\¬F x) w wo):=hid ((E0.out.keeps.mono fun x hx=>hx.1).tr (HI.out.2.2.mono fun x hx=>⟨by have:=hx.1;omega,hx.2,by have:=hx.1;omega⟩));have ec:∀ (o:Nat) (u:Value),w.cell? ⟨b,o,none⟩=some u->wo.cell? ⟨b,o,none⟩=some u:=fun o u h=>(KO.out.cell (p:=⟨b,o,none⟩) ⟨hbw2,wW b hb⟩).trans h
   replace e0:=ec _ _ e0;replace e1:=ec _ _ e1;replace e2:=ec _ _ e2;replace e3:=ec _ _ e3;replace e4:=ec _ _ e4;replace e5:=ec _ _ e5;replace e6:=ec _ _ e6;replace e7:=ec _ _ e7;have Tt:wo.cell? ⟨X,0,none⟩=some (.pointer (some ⟨M,0,none⟩)):=(KO.out.cell (p:=⟨X,0,none⟩) ⟨MK,Yn.out⟩).trans HX.out;have HXo:=hid Tt;have hbo:b<wo.heap.size:=World.block_lt_of_cell? _ _ e0;have UE:Hid (aJ (· <n0) wo (.agg (aq t.kind t.set t.mn t.mx (.slice p' t.subs.length c'))) t):=hid (hrt.keeps KO.out fun x hx=>⟨by omega,wW x hx⟩);clear ec fD hrt wW Tt;go_upto_region 5 with fail
   refine ax ?_;intro W1 hW1;have N1:Hid (ar W1 wo.heap.size (aq t.kind t.set t.mn t.mx (.slice p' t.subs.length c')) 97):=by rw[hW1];exact hid (ar.new _ _ _)
   have E1:Hid (Ext wo W1):=by rw[hW1];exact hid ((Ext.refl wo).alloc _)
   clear hW1 e0 e1 e2 e3 e4 e5 e6 e7;have e0:W1.cell? ⟨wo.heap.size,0,none⟩=some (.int .u8 t.kind):=N1.out.cell 0;have e1:W1.cell? ⟨wo.heap.size,1,none⟩=some (.int .u64 (wd t.set 0).toNat):=N1.out.cell 1;have e2:W1.cell? ⟨wo.heap.size,2,none⟩=some (.int .u64 (wd t.set 1).toNat):=N1.out.cell 2;have e3:W1.cell? ⟨wo.heap.size,3,none⟩=some (.int .u64 (wd t.set 2).toNat):=N1.out.cell 3;have e4:W1.cell? ⟨wo.heap.size,4,none⟩=some (.int .u64 (wd t.set 3).toNat):=N1.out.cell 4;have e5:W1.cell? ⟨wo.heap.size,5,none⟩=some (.int .i64 t.mn):=N1.out.cell 5;have e6:W1.cell? ⟨wo.heap.size,6,none⟩=some (.int .i64 t.mx):=N1.out.cell 6;have e7:W1.cell? ⟨wo.heap.size,7,none⟩=some (.slice p' t.subs.length c'):=N1.out.cell 7;have Tt:W1.cell? ⟨X,0,none⟩=some (.pointer (some ⟨M,0,none⟩)):=(E1.out.keeps.cell (p:=⟨X,0,none⟩) (World.block_lt_of_cell? _ _ HXo.out)).trans HXo.out;obtain⟨⟨F',Ck,MN,hF2⟩,hO,Fb⟩:=HI.out;have bO:=QQ Ts.out j6.out true k;have lC:=nH t (Ts.out t (aw pO.out)) _ bO.ok;have hcs:=Ah pO.out;have hct:=Ag l (k+1);have nX:=MM pO.out (m,(⟨0,0,true⟩:GP));obtain⟨sk,hsk⟩:=ag (RX.jg (l.take k) (m,(⟨0,0,true⟩:GP)));rw[<-hsk]at hO Ck nX bO lC;obtain⟨m2,p2,wU⟩:∃ m2 p2,t.dy sk.1=(m2,p2):=⟨_,_,rfl⟩;rw[wU]at nX lC;dsimp only at nX;have zu:=lC.len;have hl2:=bO.len;have Fc:=lC.ok.len;dsimp only at zu Fc;have Dv:Hid (dz sk.2.cR m2.cF.length):=hid (bO.gp.cR.mono (by omega));have Yp:Hid (m2.cF.length<=448):=hid (by omega);have CM:Hid (∀ W,fM base M F' W sk.1->aJ (· <n0) W (.agg (aq t.kind t.set t.mn t.mx (.slice p' t.subs.length c'))) t->ah 102 #[.pointer (some ⟨M,0,none⟩),.agg (aq t.kind t.set t.mn t.mx (.slice p' t.subs.length c'))] W (jR base M F' W m2 p2)):=hid fun W h1 h2=>by
    have:=HT.out t (aw pO.out) base M F' sk.1 W _ dh h1 h2 bO.ok bO.ok.len (by rw[bO.len];omega);rw[wU]at this;exact this
   have UG:=hid nX;have QU:¬F' (w.heap.size+1+1):=fun e=>by rcases hF2 _ e with h | h;exact absurd (HM.out.lt _ h).2 (by omega);omega
   have hnX:¬F' X:=fun e=>by rcases hF2 _ e with h | h;exact Yn.out h;omega
   have O1:=hid (hO.ext E1.out);have M1:Hid (fM base M F' W1 sk.1):=hid (Ck.keeps E1.out.keeps fun x hx=>(Ck.lt x hx).2);have R1:Hid (aJ (· <n0) W1 (.agg (aq t.kind t.set t.mn t.mx (.slice p' t.subs.length c'))) t):=hid (UE.out.keeps E1.out.keeps fun x hx=>by have:=KO.out.size;omega);have ab0:∀ x,x<n0->¬F' x:=fun x hx e=>by have:=(Ck.lt x e).1;omega
   have Wm:¬F' wo.heap.size:=fun e=>by have:=(Ck.lt _ e).2;omega
   have Wl:=hid MN;have Ks:=hid hF2;have MP:=hid Fb;have rI:=hid QU;have Kp:=hid ab0;have hX1:X<W1.heap.size:=by have:=KO.out.size;have:=E1.out.size;omega
   have amw:n0<=W1.heap.size:=by have:=KO.out.size;have:=E1.out.size;omega
   clear nX wU hsk hO Ck MN hF2 Fb QU HI bO lC hcs hct zu hl2 Fc ab0;refine RegQ.bB (UI base M W1.heap.size F' m2) (UI.ext (aD _) (Ext.refl _).drew) (fun _ _ _ h k=>h.trans k) (by kernel_rfl) 5 [0,0,0,0,12,31,63] (fun i=>i==4 || i==5 || i==6) (by kernel_rfl) (fun i=>if i=4 then wT.mk _ _ _ _ _ p2 else aZ.any _) (agd base M W1.heap.size F' sk.1) (fun _ _ _=>⟨rfl,M1.out.keeps (Ext.refl _).drew.keeps fun x hx=>(M1.out.lt x hx).2⟩) ?_;intro C hC hne;have HC:=hid hC;have fc:∀ (b o:Nat) (u:Value),b<W1.heap.size->¬F' b->W1.cell? ⟨b,o,none⟩=some u->∀ W: {W//C W},W.1.cell? ⟨b,o,none⟩=some u:=fun b o u h1 h2 h3 W=>(((hC W.1).1 W.2).keep.cell (p:=⟨b,o,none⟩) ⟨h1,h2⟩).trans h3
   have fX:=fc _ _ _ hX1 hnX Tt;obtain⟨o0,o1,o2,o3,o4,o5,o6,o7,o8,o9,qF,qG,qH,qI,qg⟩:=O1.out.part;have q0:=fc _ _ _ O1.out.lt rI.out o0;have q1:=fc _ _ _ O1.out.lt rI.out o1;have q2:=fc _ _ _ O1.out.lt rI.out o2;have q3:=fc _ _ _ O1.out.lt rI.out o3;have q4:=fc _ _ _ O1.out.lt rI.out o4;have q5:=fc _ _ _ O1.out.lt rI.out o5;have q6:=fc _ _ _ O1.out.lt rI.out o6;have q7:=fc _ _ _ O1.out.lt rI.out o7;have q8:=fc _ _ _ O1.out.lt rI.out o8;have q9:=fc _ _ _ O1.out.lt rI.out o9;have q10:=fc _ _ _ O1.out.lt rI.out qF;have q11:=fc _ _ _ O1.out.lt rI.out qG;have q12:=fc _ _ _ O1.out.lt rI.out qH;have q13:=fc _ _ _ O1.out.lt rI.out qI;have q14:=fc _ _ _ O1.out.lt rI.out qg;have f0:=fc _ _ _ N1.out.lt Wm e0;have f1:=fc _ _ _ N1.out.lt Wm e1;have f2:=fc _ _ _ N1.out.lt Wm e2;have f3:=fc _ _ _ N1.out.lt Wm e3;have f4:=fc _ _ _ N1.out.lt Wm e4;have f5:=fc _ _ _ N1.out.lt Wm e5;have f6:=fc _ _ _ N1.out.lt Wm e6;have f7:=fc _ _ _ N1.out.lt Wm e7;clear hC fc e0 e1 e2 e3 e4 e5 e6 e7 Tt o0 o1 o2 o3 o4 o5 o6 o7 o8 o9 qF qG qH qI qg
   repeat (refine RegQ.au (fun K hK=>?_);first | (refine RegQ.bX rfl ?_;try go_simp;refine hK _ _ ?_;clear hK K) | (refine RegQ.bR rfl rfl ?_;unfold aB;go_simp;refine hK _ _ ?_;clear hK K))
   refine RegQ.au (fun K hK=>?_);refine RegQ.ck rfl rfl (wT.mk base M W1.heap.size F' m2 p2) rfl (fun W hW hD hN=>?_) (fun v hv=>?_)
   ·have hM:=(HC.out W).1 hW
    obtain⟨sX,hMW⟩:=hD rfl;clear hW hN hK K hD;go_simp;refine bM ((CM.out W hMW (R1.out.keeps hM.keep fun x hx=>⟨by omega,Kp.out x hx⟩)).mono ?_);rintro e w2 ⟨rfl,hF'',hx,hsz⟩;rw[sX]at hF'' hx hsz;exact⟨_,rfl,⟨⟨hx,fun h=>by omega⟩,fun j hj _ _ e=>absurd e hj⟩,rfl,hsz,hF''⟩
   replace hv:v=_:=hv;subst hv;go_simp;refine hK _ _ ?_;clear hK K;refine RegQ.bG (fun W hW hH=>?_);have j5:=(HC.out W).1 hW;obtain⟨hsz,F2,g1,g2,g3⟩:W1.heap.size<W.heap.size/\∃ F2,fM base M F2 W m2/\(∀ x,F' x->F2 x)/\∀ x,F2 x->F' x\/W1.heap.size<=x:=hH _ (aw (show _=some _ from rfl:_[0]? =some _));have hO1:w.heap.size+1+1<W1.heap.size:=O1.out.lt;have jk:¬F2 (w.heap.size+1+1):=fun e=>by rcases g3 _ e with h | h;exact rI.out h;omega
   have O2:=hid (O1.out.keeps j5.keep ⟨O1.out.lt,rI.out⟩);have UH:=hid j5.keep;have CT:Hid (ah 203 #[.pointer (some ⟨M,0,none⟩),.agg (ay sk.2),.agg (ay p2)] W fun e w'=>e=.returned (.agg (ay (cM m2 sk.2 p2).2))/\fM base M F2 w' (cM m2 sk.2 p2).1/\ae (fun x=>x<W.heap.size/\¬F2 x) W w'):=hid (oC base M F2 m2 sk.2 p2 W g1 Dv.out Yp.out);obtain⟨m3,p3,Yq⟩:∃ m3 p3,cM m2 sk.2 p2=(m3,p3):=⟨_,_,rfl⟩;rw[Yq]at CT;dsimp only at CT;have nX:=UG.out;rw[Yq]at nX;have agf:=hid nX;have G2:=hid g2;have G3:=hid g3;have uM:=hid jk;clear j5 hW hH HC hne fX q0 q1 q2 q3 q4 q5 q6 q7 q8 q9 q10 q11 q12 q13 q14 f0 f1 f2 f3 f4 f5 f6 f7 g1 g2 g3 jk Yq nX UG CM O1;go_wp2_with fail
   refine CT.out.mono ?_;rintro e w2 ⟨rfl,hF3,hx⟩;have O3:=hid (O2.out.keeps hx ⟨O2.out.lt,uM.out⟩);have M3:=hid hF3;have Yr:=hid hx;clear hx hF3 CT;go_wp2_with (first | (refine wpList_store_row rfl 181 (.tmp 4) (.tmp 20) rfl (w.heap.size+1+1) (ay p3) rfl rfl 181 (_) O3.out (bE _) rfl (ez _) ?_;refine Hid.out ?_));refine hid ?_;obtain⟨W4,Kt⟩:=ag (w2.setRow (w.heap.size+1+1) (ay p3));rw[<-Kt];have O4:Hid (ar W4 (w.heap.size+1+1) (ay p3) 181):=by rw[Kt];exact hid O3.out.setRow
   have K4:Hid (ae (· ≠w.heap.size+1+1) w2 W4):=by rw[Kt];exact hid (bI _ _ _)
   clear Kt;go_wp2;go_roundw;case rel=>
    refine⟨k+1,by omega,by go_num,?_⟩;rw[agf.out];have h1:=E1.out.keeps.size;have h2:=MP.out.size;have h3:=UH.out.size;refine⟨⟨F2,M3.out.keeps K4.out fun x hx e=>uM.out (e▸hx),fun x h=>G2.out x (Wl.out x h),fun x h=>by rcases G3.out x h with h | h;exact Ks.out x h;exact .inr (by omega)⟩,O4.out,?_⟩;exact MP.out.tr ((E1.out.keeps.mono fun x hx=>by have:=hx.1;omega).tr ((UH.out.mono fun x hx=>⟨by have:=hx.1;omega,fun e=>by rcases Ks.out x e with h | h;exact hx.2.1 h;have:=hx.1;omega⟩).tr ((Yr.out.mono fun x hx=>⟨by have:=hx.1;omega,fun e=>by rcases G3.out x e with h | h;rcases Ks.out x h with h | h;exact hx.2.1 h;have:=hx.1;omega;have:=hx.1;omega⟩).tr (K4.out.mono fun x hx=>hx.2.2))))
   case measure=>simp[intOf];omega
  ·obtain rfl:k=n:=by omega
   have Ii:¬ ((k:Int)<k):=by omega
   obtain⟨hF',hO,hK⟩:=HI.out;rw[QT.out,List.take_length, <-HST.out]at hF' hO;have QO:=hid hF';have O3:=hid hO;have HK:=hid hK;have R3:Hid (ar wo (w.heap.size+1) (zeroV false) 181):=hid (R0.out.keeps hK ⟨R0.out.lt,fun e=>by have:=(HM.out.lt _ e).2;omega,by omega⟩);clear hF' hO hK HI;go_wp2_with (first | (refine aY rfl 181 (.tmp 4) rfl (w.heap.size+1+1) rfl (ay st.2) _ O3.out.range Tryz.underlying181 rfl (bE _) ?_) | (refine wpList_store_row rfl 181 (.tmp 3) (.tmp 22) rfl (w.heap.size+1) (ay st.2) rfl rfl 181 (zeroV false) R3.out (bE _) rfl (ez _) ?_;refine Hid.out ?_));refine hid ?_;obtain⟨V3,cT⟩:=ag (wo.setRow (w.heap.size+1) (ay st.2));rw[<-cT];have R9:Hid (ar V3 (w.heap.size+1) (ay st.2) 181):=by rw[cT];exact hid R3.out.setRow
   have K9:ae (· ≠w.heap.size+1) wo V3:=by rw[cT];exact bI _ _ _
   clear cT;go_wp2;obtain⟨m0,m1,m2,m3,m4,m5,m6,m7,m8,m9,m10,m11,m12,m13,m14⟩:=R9.out.part;refine bodyPost_ret (v:=.agg (ay st.2)) (by simp[results,Tryz.results202,ay,go_sem,m0,m1,m2,m3,m4,m5,m6,m7,m8,m9,m10,m11,m12,m13,m14]) rfl ⟨rfl,?_,?_,?_⟩
   ·obtain⟨F',h1,h2,h3⟩:=QO.out
    exact⟨F',h1.keeps K9 fun x hx e=>by(rcases h3 x hx with h | h; · exact absurd (HM.out.lt x h).2 (by omega));omega,h2,fun x hx=>(h3 x hx).imp id fun h=>by omega⟩
   ·exact(E0.out.keeps.mono fun x hx=>hx.1).tr ((HK.out.mono fun x hx=>⟨by have:=hx.1;omega,hx.2,by have:=hx.1;omega⟩).tr (K9.mono fun x hx=>by have:=hx.1;omega))
   ·have:=K9.size;have:=HK.out.size;omega
theorem Fe {t:RX} (ht:t.full=true) {m:GM} (hm:m.ok) (mn mx:Int) (k:Nat):jm m (dV mn mx (fun m=>t.dy m) m k) (k*t.cnt):=wG (fun m hm=>nH t ht m hm) hm k
theorem ab1 (n0 base M:Nat) (F:Nat->Prop) (m:GM) (k0:Nat) (s:BS) (mn:Int) (N:Nat) (t:RX) (l:List RX) (p:Option Addr) (n c:Nat) (w:World) (dh:n0<=base) (h:fM base M F w m) (hr:aJ (· <n0) w (.agg (aq k0 s mn (-1) (.slice p n c))) (.nd k0 s mn (-1) (t::l))) (ht:IP n0 t) (hf:t.full=true) (ok:m.ok) (hm:m.cF.length=m.aL.length) (hN:max mn 1=(N:Int)) (agh:N<=16) (hG:fe mn (-1)=N) (hn:m.aL.length+N*t.cnt<=448): ah 206 #[.pointer (some ⟨M,0,none⟩),.agg (aq k0 s mn (-1) (.slice p n c))] w (jR base M F w (dV mn (-1) (fun m=>t.dy m) m N).1 (dV mn (-1) (fun m=>t.dy m) m N).2):=by
 have hlen:n=l.length+1:=by obtain⟨p2,c2,e⟩:=hr.form;simp[aq,RX.subs,RX.kind,RX.set,RX.mn,RX.mx]at e;exact e.2.1
 have fE:0<n:=by omega
 obtain⟨b,off,p',c',rfl,hb,rH,lL,⟨e0,e1,e2,e3,e4,e5,e6,e7⟩,hrt⟩:=hr.elem (i:=0) (t:=t) rfl;simp only[Nat.zero_mul,Nat.add_zero]at e0 e1 e2 e3 e4 e5 e6 e7;have HM:=hid h;have UE:=hid hrt;have HT:=hid ht;have Ts:=hid hf;have j6:=hid ok;have HGG:=hid hG;have Kk:=hid hm;have EE:=hid (And.intro e0 (And.intro e1 (And.intro e2 (And.intro e3 (And.intro e4 (And.intro e5 (And.intro e6 e7)))))));have Wh:M<w.heap.size:=(h.lt M h.fm).2;have ab2:n0<=w.heap.size:=by have:=(h.lt M h.fm).1;omega
 have wW:¬F b:=fun e=>by have:=(h.lt b e).1;omega
 obtain⟨st,hst⟩:=ag (dV mn (-1) (fun m=>t.dy m) m N);rw[<-hst];have HST:=hid hst;have HMU:=hid hn;clear h hr hrt ht hf ok hm hlen hst hG e0 e1 e2 e3 e4 e5 e6 e7 hn;unfold aq;go_enter Tryz.func206,Tryz.ntmps206;go_upto_region 5 with fail
 refine ax ?_;intro V hV;have N0:Hid (ar V w.heap.size #[.int .u8 k0,.int .u64 (wd s 0).toNat,.int .u64 (wd s 1).toNat,.int .u64 (wd s 2).toNat,.int .u64 (wd s 3).toNat,.int .i64 mn,.int .i64 (-1),.slice (some ⟨b,off,none⟩) n c] 97):=by rw[hV];exact hid (((ar.new _ _ _).alloc _).alloc _)
 have R0:Hid (ar V (w.heap.size+1) (zeroV false) 181):=by rw[hV];exact hid ((ar.at (ar.new _ _ _) (by simp)).alloc _)
 have O0:Hid (ar V (w.heap.size+1+1) (zeroV true) 181):=by rw[hV];exact hid (ar.at (ar.new _ _ _) (by simp))
 have E0:Hid (Ext w V):=by rw[hV];exact hid ((((Ext.refl w).alloc _).alloc _).alloc _)
 have lI:Hid (V.heap.size=w.heap.size+1+1+1):=hid (by rw[hV];simp);clear hV;have yX:w.heap.size+1+1<V.heap.size:=by rw[lI.out];omega
 have MV:Hid (fM base M F V m):=hid (HM.out.keeps E0.out.keeps fun x hx=>(HM.out.lt x hx).2);go_wp2;go_loopw [18] (fun iv W=>∃ k:Nat,k<=N/\iv=.int .i64 k/\UF base M F (dV mn (-1) (fun m=>t.dy m) m k) (w.heap.size+1+1) V W) (fun iv _=>N-(intOf iv).toNat);case atStart=>
  refine⟨0,by omega,rfl,?_⟩;exact⟨⟨F,MV.out,fun _ h=>h,fun _ h=>.inl h⟩,by show ar _ _ (ay ⟨0,0,true⟩) _;rw[iG];exact O0.out,ae.refl _ _⟩
 case round=>
  obtain⟨k,hk,rfl,hI⟩:=hrel;obtain⟨wo,rfl⟩:=ag (wr:World);have HI:=hid hI;clear hI;by_cases hlt:k<N
  ·have eG:(k:Int)<N:=by omega
   obtain⟨⟨F',Ck,MN,hF2⟩,hO,Fb⟩:=HI.out;have bO:=Fe Ts.out j6.out mn (-1) k;have lC:=nH t Ts.out _ bO.ok;have nX:dV mn (-1) (fun m=>t.dy m) m (k+1)=Ca mn (-1) k (dV mn (-1) (fun m=>t.dy m) m k).2 (t.dy (dV mn (-1) (fun m=>t.dy m) m k).1):=rfl;have hmul:(k+1)*t.cnt<=N*t.cnt:=Nat.mul_le_mul_right _ hlt;have QX:(k+1)*t.cnt=k*t.cnt+t.cnt:=Nat.succ_mul _ _;have hmu:=HMU.out;obtain⟨sk,hsk⟩:=ag (dV mn (-1) (fun m=>t.dy m) m k);rw[<-hsk]at hO Ck nX bO lC;obtain⟨m2,p2,wU⟩:∃ m2 p2,t.dy sk.1=(m2,p2):=⟨_,_,rfl⟩;rw[wU]at nX lC;have zu:=lC.len;have hl2:=bO.len;have Fc:=lC.ok.len;have Ys:=lC.gp;dsimp only at zu Fc Ys;have Dv:Hid (dz sk.2.cR m2.cF.length):=hid (bO.gp.cR.mono (by omega));have HP2:Hid (dz p2.cR m2.cF.length):=hid (Ys.cR.mono (by omega));have Yp:Hid (m2.cF.length<=448):=hid (by omega);have CM:Hid (∀ W,fM base M F' W sk.1->aJ (· <n0) W (.agg (aq t.kind t.set t.mn t.mx (.slice p' t.subs.length c'))) t->ah 102 #[.pointer (some ⟨M,0,none⟩),.agg (aq t.kind t.set t.mn t.mx (.slice p' t.subs.length c'))] W (jR base M F' W m2 p2)):=hid fun W h1 h2=>by
    have:=HT.out base M F' sk.1 W _ dh h1 h2 bO.ok bO.ok.len (by omega);rw[wU]at this;exact this
   have UG:=hid nX;have QU:¬F' (w.heap.size+1+1):=fun e=>by rcases hF2 _ e with h | h;exact absurd (HM.out.lt _ h).2 (by omega);omega
   have hnN:¬F' w.heap.size:=fun e=>by rcases hF2 _ e with h | h;exact absurd (HM.out.lt _ h).2 (by omega);omega
   have KO:Hid (ae (fun x=>x<w.heap.size/\¬F x) w wo):=hid ((E0.out.keeps.mono fun x hx=>hx.1).tr (Fb.mono fun x hx=>⟨by have:=hx.1;omega,hx.2,by have:=hx.1;omega⟩));have GN:=Fb.size;have NO:Hid (ar wo w.heap.size #[.int .u8 k0,.int .u64 (wd s 0).toNat,.int .u64 (wd s 1).toNat,.int .u64 (wd s 2).toNat,.int .u64 (wd s 3).toNat,.int .i64 mn,.int .i64 (-1),.slice (some ⟨b,off,none⟩) n c] 97):=hid (N0.out.keeps Fb ⟨by omega,fun e=>by have:=(HM.out.lt _ e).2;omega,by omega⟩);have O1:=hid hO;have M1:=hid Ck;have R1:Hid (aJ (· <n0) wo (.agg (aq t.kind t.set t.mn t.mx (.slice p' t.subs.length c'))) t):=hid (UE.out.keeps KO.out fun x hx=>⟨by omega,fun e=>by have:=(HM.out.lt x e).1;omega⟩);have ec:∀ (o:Nat) (u:Value),w.cell? ⟨b,o,none⟩=some u->wo.cell? ⟨b,o,none⟩=some u:=fun o u h=>(KO.out.cell (p:=⟨b,o,none⟩) ⟨rH,wW⟩).trans h
   obtain⟨e0,e1,e2,e3,e4,e5,e6,e7⟩:=EE.out;replace e0:=ec _ _ e0;replace e1:=ec _ _ e1;replace e2:=ec _ _ e2;replace e3:=ec _ _ e3;replace e4:=ec _ _ e4;replace e5:=ec _ _ e5;replace e6:=ec _ _ e6;replace e7:=ec _ _ e7;have n5:wo.cell? ⟨w.heap.size,5,none⟩=some (.int .i64 mn):=NO.out.cell 5;have n6:wo.cell? ⟨w.heap.size,6,none⟩=some (.int .i64 (-1)):=NO.out.cell 6;have n7:wo.cell? ⟨w.heap.size,7,none⟩=some (.slice (some ⟨b,off,none⟩) n c):=NO.out.cell 7;have Wl:=hid MN;have Ks:=hid hF2;have MP:=hid Fb;have rI:=hid QU;have oQ:=hid hnN;have Ku:=hid (CM.out wo M1.out R1.out);clear nX wU hsk hO Ck MN hF2 Fb QU hnN HI bO lC zu hl2 Fc Ys hmul QX hmu ec CM M1 R1;go_wp2_with fail
   refine Ku.out.mono ?_;rintro e w2 ⟨rfl,hF'',hx,hsz⟩;have hOl:w.heap.size+1+1<wo.heap.size:=O1.out.lt;have O2:=hid (O1.out.keeps hx ⟨O1.out.lt,rI.out⟩);have N2:=hid (NO.out.keeps hx ⟨NO.out.lt,oQ.out⟩);obtain⟨F2,g1,g2,g3⟩:=hF'';have jk:¬F2 (w.heap.size+1+1):=fun e=>by rcases g3 _ e with h | h;exact rI.out h;omega
   have QY:¬F2 w.heap.size:=fun e=>by rcases g3 _ e with h | h;exact oQ.out h;omega
   have M2:=hid g1;have G2:=hid g2;have G3:=hid g3;have uM:=hid jk;have ab4:=hid QY;have UH:=hid hx;have Yt:=hid hsz;clear hx g1 g2 g3 jk QY hsz Ku O1 NO e0 e1 e2 e3 e4 e5 e6 e7 n5 n6 n7;unfold ay;go_upto_region 9 with fail
   refine ax ?_;intro W3 hW3;have X3:Hid (ar W3 w2.heap.size (ay p2) 181):=by rw[hW3];exact hid (ar.new _ _ _)
   have E3:Hid (Ext w2 W3):=by rw[hW3];exact hid ((Ext.refl w2).alloc _)
   have O3:=hid (O2.out.ext E3.out);have N3:=hid (N2.out.ext E3.out);have M3:Hid (fM base M F2 W3 m2):=hid (M2.out.keeps E3.out.keeps fun x hx=>(M2.out.lt x hx).2);have hx2:¬F2 w2.heap.size:=fun e=>by have:=(M2.out.lt _ e).2;omega
   have fK:=hid hx2;clear hW3 hx2 O2 N2;have n5:W3.cell? ⟨w.heap.size,5,none⟩=some (.int .i64 mn):=N3.out.cell 5;have n6:W3.cell? ⟨w.heap.size,6,none⟩=some (.int .i64 (-1)):=N3.out.cell 6;obtain⟨a0,a1,a2,a3,a4,a5,a6,a7,a8,a9,jZ,j3,a12,j4,jy⟩:=X3.out.part
   try dsimp only at a0 a1 a2 a3 a4 a5 a6 a7 a8 a9 jZ j3 a12 j4 jy
   by_cases ab5:(k:Int)=N-1
   ·have hkN:k+1=fe mn (-1):=by rw[HGG.out];omega
    have HKN:=hid hkN;clear hkN;go_wp2_with fail
    refine(lB base M F2 m2 p2.cR p2.fst W3 M3.out HP2.out Yp.out).mono ?_;rintro e w5 ⟨⟨u,rfl⟩,hF5,hx5⟩;obtain⟨m4,ui⟩:=ag (iX m2 p2.cR p2.fst);rw[<-ui]at hF5;have K5:=hid hx5;have M5:=hid hF5;have P5:Hid (dz sk.2.cR m4.cF.length/\m4.cF.length<=448):=hid (by rw[ui];exact⟨by show dz _ (m2.cF.mapIdx _).length;rw[List.length_mapIdx];exact Dv.out,by show(m2.cF.mapIdx _).length<=_;rw[List.length_mapIdx];exact Yp.out⟩);have Yu:=hid ui;have X5:=hid (X3.out.keeps hx5 ⟨X3.out.lt,fK.out⟩);have O5:=hid (O3.out.keeps hx5 ⟨O3.out.lt,uM.out⟩);have N5:=hid (N3.out.keeps hx5 ⟨N3.out.lt,ab4.out⟩);clear hx5 hF5 ui ab5 n5 n6 a0 a1 a2 a3 a4 a5 a6 a7 a8 a9 jZ j3 a12 j4 jy;have n5:w5.cell? ⟨w.heap.size,5,none⟩=some (.int .i64 mn):=N5.out.cell 5;obtain⟨a0,a1,a2,a3,a4,a5,a6,a7,a8,a9,jZ,j3,a12,j4,jy⟩:=X5.out.part
    try dsimp only at a0 a1 a2 a3 a4 a5 a6 a7 a8 a9 jZ j3 a12 j4 jy
    obtain⟨eb,Cm⟩:=ag p2.emp;rw[<-Cm]at jy;have Yo:=hid Cm;clear Cm;have QZ:w5.frozen? ⟨w2.heap.size,14,none⟩=false:=X5.out.frozen 14;cases eb;all_goals
     go_upto_region 12 with fail
     refine ax ?_;intro W6 uL;obtain⟨e6,Q8⟩:=ag ((p2.emp || decide (mn<=(k:Int))));obtain⟨p6,Q9⟩:=ag (⟨p2.fst,p2.cR,e6⟩:GP);have X6:Hid (ar W6 w2.heap.size (ay p6) 181):=by rw[Q9,uL,Q8, <-Yo.out];exact hid (X5.out.set 14 _)
     have K6:Hid (ae (· ≠w2.heap.size) w5 W6):=by rw[uL];exact hid ((ae.refl (· ≠w2.heap.size) _).setCell (p:=⟨w2.heap.size,14,none⟩) (fun h=>h rfl) _)
     have O6:=hid (O5.out.keeps K6.out (by have:=O3.out.lt;have:=Yt.out;omega));have M6:Hid (fM base M F2 W6 m4):=hid (M5.out.keeps K6.out fun x hx e=>fK.out (e▸hx))
     try clear n6
     clear uL n5 a0 a1 a2 a3 a4 a5 a6 a7 a8 a9 jZ j3 a12 j4 jy QZ;have HE6:=hid Q8;clear Q8;have HP6:=hid Q9;clear Q9;have CT:Hid (ah 203 #[.pointer (some ⟨M,0,none⟩),.agg (ay sk.2),.agg (ay p6)] W6 fun e w'=>e=.returned (.agg (ay (cM m4 sk.2 p6).2))/\fM base M F2 w' (cM m4 sk.2 p6).1/\ae (fun x=>x<W6.heap.size/\¬F2 x) W6 w'):=hid (oC base M F2 m4 sk.2 p6 W6 M6.out P5.out.1 P5.out.2);have kQ:dV mn (-1) (fun m=>t.dy m) m (k+1)=cM m4 sk.2 p6:=by
      rw[UG.out,HP6.out,HE6.out];unfold Ca;rw[if_pos ⟨rfl,HKN.out⟩, <-Yu.out]
     have Ff:=hid kQ;clear kQ;obtain⟨m7,p7,Fg⟩:∃ m7 p7,cM m4 sk.2 p6=(m7,p7):=⟨_,_,rfl⟩;rw[Fg]at CT Ff;dsimp only at CT;clear Fg;go_wp2_with (first | (refine aY rfl 181 (.tmp 6) rfl (w.heap.size+1+1) rfl (ay sk.2) _ O6.out.range Tryz.underlying181 rfl (bE _) ?_) | (refine aY rfl 181 (.tmp 8) rfl w2.heap.size rfl (ay p6) _ X6.out.range Tryz.underlying181 rfl (bE _) ?_));refine CT.out.mono ?_;rintro e w8 ⟨rfl,hF3,hx⟩;have O8:=hid (O6.out.keeps hx ⟨O6.out.lt,uM.out⟩);have M8:=hid hF3;have Yr:=hid hx;clear hx hF3 CT;go_wp2_with (refine wpList_store_row rfl 181 (.tmp 6) (.tmp 54) rfl (w.heap.size+1+1) (ay p7) rfl rfl 181 (ay sk.2) O8.out (bE _) rfl (ez _) ?_;refine Hid.out ?_);refine hid ?_;obtain⟨W9,gq⟩:=ag (w8.setRow (w.heap.size+1+1) (ay p7));rw[<-gq];have O9:Hid (ar W9 (w.heap.size+1+1) (ay p7) 181):=by rw[gq];exact hid O8.out.setRow
     have K9:Hid (ae (· ≠w.heap.size+1+1) w8 W9):=by rw[gq];exact hid (bI _ _ _)
     clear gq;go_wp2;go_roundw;case rel=>
      refine⟨k+1,by omega,by go_num,?_⟩;rw[Ff.out];have h1:=MP.out.size;have h2:=Yt.out;have h3:=E3.out.size;have h4:=K6.out.size;have h5:=K5.out.size;refine⟨⟨F2,M8.out.keeps K9.out fun x hx e=>uM.out (e▸hx),fun x h=>G2.out x (Wl.out x h),fun x h=>by rcases G3.out x h with h | h;exact Ks.out x h;exact .inr (by omega)⟩,O9.out,?_⟩;have hq:∀ x,x<V.heap.size->¬F x->¬F2 x:=fun x h h6 e=>by rcases G3.out x e with h7 | h7;(rcases Ks.out x h7 with h8 | h8;exact h6 h8;omega);omega
      have Kv:∀ x,x<V.heap.size->¬F x->¬F' x:=fun x h h6 e=>hq x h h6 (G2.out x e)
      exact MP.out.tr ((UH.out.mono fun x hx=>⟨by have:=hx.1;omega,Kv x hx.1 hx.2.1⟩).tr ((E3.out.keeps.mono fun x hx=>by have:=hx.1;omega).tr ((K5.out.mono fun x hx=>⟨by have:=hx.1;omega,hq x hx.1 hx.2.1⟩).tr ((K6.out.mono fun x hx=>by have:=hx.1;omega).tr ((Yr.out.mono fun x hx=>⟨by have:=hx.1;omega,hq x hx.1 hx.2.1⟩).tr (K9.out.mono fun x hx=>hx.2.2))))))
     case measure=>simp[intOf];omega
   ·have hkN:¬ (k+1=fe mn (-1)):=by rw[HGG.out];omega
    have HKN:=hid hkN;clear hkN;obtain⟨m4,ui⟩:=ag m2;obtain⟨W5,Yv⟩:=ag W3;have K5:Hid (ae (fun x=>x<W3.heap.size/\¬F2 x) W3 W3):=hid (ae.refl _ _);have X5:=X3;have O5:=O3;have M5:Hid (fM base M F2 W3 m4):=hid (by rw[ui];exact M3.out);have P5:Hid (dz sk.2.cR m4.cF.length/\m4.cF.length<=448):=hid (by rw[ui];exact⟨Dv.out,Yp.out⟩);have Yu:=hid ui;clear ui W5 Yv;obtain⟨eb,Cm⟩:=ag p2.emp;rw[<-Cm]at jy;have Yo:=hid Cm;clear Cm;have QZ:W3.frozen? ⟨w2.heap.size,14,none⟩=false:=X5.out.frozen 14;cases eb;all_goals
     go_upto_region 12 with fail
     refine ax ?_;intro W6 uL;obtain⟨e6,Q8⟩:=ag ((p2.emp || decide (mn<=(k:Int))));obtain⟨p6,Q9⟩:=ag (⟨p2.fst,p2.cR,e6⟩:GP);have X6:Hid (ar W6 w2.heap.size (ay p6) 181):=by rw[Q9,uL,Q8, <-Yo.out];exact hid (X5.out.set 14 _)
     have K6:Hid (ae (· ≠w2.heap.size) W3 W6):=by rw[uL];exact hid ((ae.refl (· ≠w2.heap.size) _).setCell (p:=⟨w2.heap.size,14,none⟩) (fun h=>h rfl) _)
     have O6:=hid (O5.out.keeps K6.out (by have:=O3.out.lt;have:=Yt.out;omega));have M6:Hid (fM base M F2 W6 m4):=hid (M5.out.keeps K6.out fun x hx e=>fK.out (e▸hx))
     try clear n6
     clear uL n5 a0 a1 a2 a3 a4 a5 a6 a7 a8 a9 jZ j3 a12 j4 jy QZ;have HE6:=hid Q8;clear Q8;have HP6:=hid Q9;clear Q9;have CT:Hid (ah 203 #[.pointer (some ⟨M,0,none⟩),.agg (ay sk.2),.agg (ay p6)] W6 fun e w'=>e=.returned (.agg (ay (cM m4 sk.2 p6).2))/\fM base M F2 w' (cM m4 sk.2 p6).1/\ae (fun x=>x<W6.heap.size/\¬F2 x) W6 w'):=hid (oC base M F2 m4 sk.2 p6 W6 M6.out P5.out.1 P5.out.2);have kQ:dV mn (-1) (fun m=>t.dy m) m (k+1)=cM m4 sk.2 p6:=by
      rw[UG.out,HP6.out,HE6.out];unfold Ca;rw[if_neg (fun h=>HKN.out h.2), <-Yu.out]
     have Ff:=hid kQ;clear kQ;obtain⟨m7,p7,Fg⟩:∃ m7 p7,cM m4 sk.2 p6=(m7,p7):=⟨_,_,rfl⟩;rw[Fg]at CT Ff;dsimp only at CT;clear Fg;go_wp2_with (first | (refine aY rfl 181 (.tmp 6) rfl (w.heap.size+1+1) rfl (ay sk.2) _ O6.out.range Tryz.underlying181 rfl (bE _) ?_) | (refine aY rfl 181 (.tmp 8) rfl w2.heap.size rfl (ay p6) _ X6.out.range Tryz.underlying181 rfl (bE _) ?_));refine CT.out.mono ?_;rintro e w8 ⟨rfl,hF3,hx⟩;have O8:=hid (O6.out.keeps hx ⟨O6.out.lt,uM.out⟩);have M8:=hid hF3;have Yr:=hid hx;clear hx hF3 CT;go_wp2_with (refine wpList_store_row rfl 181 (.tmp 6) (.tmp 54) rfl (w.heap.size+1+1) (ay p7) rfl rfl 181 (ay sk.2) O8.out (bE _) rfl (ez _) ?_;refine Hid.out ?_);refine hid ?_;obtain⟨W9,gq⟩:=ag (w8.setRow (w.heap.size+1+1) (ay p7));rw[<-gq];have O9:Hid (ar W9 (w.heap.size+1+1) (ay p7) 181):=by rw[gq];exact hid O8.out.setRow
     have K9:Hid (ae (· ≠w.heap.size+1+1) w8 W9):=by rw[gq];exact hid (bI _ _ _)
     clear gq;go_wp2;go_roundw;case rel=>
      refine⟨k+1,by omega,by go_num,?_⟩;rw[Ff.out];have h1:=MP.out.size;have h2:=Yt.out;have h3:=E3.out.size;have h4:=K6.out.size;have h5:=K5.out.size;refine⟨⟨F2,M8.out.keeps K9.out fun x hx e=>uM.out (e▸hx),fun x h=>G2.out x (Wl.out x h),fun x h=>by rcases G3.out x h with h | h;exact Ks.out x h;exact .inr (by omega)⟩,O9.out,?_⟩;have hq:∀ x,x<V.heap.size->¬F x->¬F2 x:=fun x h h6 e=>by rcases G3.out x e with h7 | h7;(rcases Ks.out x h7 with h8 | h8;exact h6 h8;omega);omega
      have Kv:∀ x,x<V.heap.size->¬F x->¬F' x:=fun x h h6 e=>hq x h h6 (G2.out x e)
      exact MP.out.tr ((UH.out.mono fun x hx=>⟨by have:=hx.1;omega,Kv x hx.1 hx.2.1⟩).tr ((E3.out.keeps.mono fun x hx=>by have:=hx.1;omega).tr ((K5.out.mono fun x hx=>⟨by have:=hx.1;omega,hq x hx.1 hx.2.1⟩).tr ((K6.out.mono fun x hx=>by have:=hx.1;omega).tr ((Yr.out.mono fun x hx=>⟨by have:=hx.1;omega,hq x hx.1 hx.2.1⟩).tr (K9.out.mono fun x hx=>hx.2.2))))))
     case measure=>simp[intOf];omega
  ·obtain rfl:k=N:=by omega
   have Ii:¬ ((k:Int)<k):=by omega
   obtain⟨hF',hO,hK⟩:=HI.out;rw[<-HST.out]at hF' hO;have QO:=hid hF';have O3:=hid hO;have HK:=hid hK;have R3:Hid (ar wo (w.heap.size+1) (zeroV false) 181):=hid (R0.out.keeps hK ⟨R0.out.lt,fun e=>by have:=(HM.out.lt _ e).2;omega,by omega⟩);clear hF' hO hK HI;go_wp2_with (first | (refine aY rfl 181 (.tmp 6) rfl (w.heap.size+1+1) rfl (ay st.2) _ O3.out.range Tryz.underlying181 rfl (bE _) ?_) | (refine wpList_store_row rfl 181 (.tmp 4) (.tmp 56) rfl (w.heap.size+1) (ay st.2) rfl rfl 181 (zeroV false) R3.out (bE _) rfl (ez _) ?_;refine Hid.out ?_));refine hid ?_;obtain⟨V3,cT⟩:=ag (wo.setRow (w.heap.size+1) (ay st.2));rw[<-cT];have R9:Hid (ar V3 (w.heap.size+1) (ay st.2) 181):=by rw[cT];exact hid R3.out.setRow
   have K9:ae (· ≠w.heap.size+1) wo V3:=by rw[cT];exact bI _ _ _
   clear cT;go_wp2;obtain⟨m0,m1,m2,m3,m4,m5,m6,m7,m8,m9,m10,m11,m12,m13,m14⟩:=R9.out.part;refine bodyPost_ret (v:=.agg (ay st.2)) (by simp[results,Tryz.results206,ay,go_sem,m0,m1,m2,m3,m4,m5,m6,m7,m8,m9,m10,m11,m12,m13,m14]) rfl ⟨rfl,?_,?_,?_⟩
   ·obtain⟨F',h1,h2,h3⟩:=QO.out
    exact⟨F',h1.keeps K9 fun x hx e=>by(rcases h3 x hx with h | h; · exact absurd (HM.out.lt x h).2 (by omega));omega,h2,fun x hx=>(h3 x hx).imp id fun h=>by omega⟩
   ·exact(E0.out.keeps.mono fun x hx=>hx.1).tr ((HK.out.mono fun x hx=>⟨by have:=hx.1;omega,hx.2,by have:=hx.1;omega⟩).tr (K9.mono fun x hx=>by have:=hx.1;omega))
   ·have:=K9.size;have:=HK.out.size;omega
end
end Go.Proofs.YtjgccapbphadjaaGreatDoor
