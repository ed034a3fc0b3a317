/- The maker of automata of positions: an alternative. -/
import Derived.Test.YtalombmiochpmaaGreatDoorOP21
set_option maxRecDepth 100000
set_option maxHeartbeats 16000000
open Go.Lib (hid)
namespace Go.Proofs.YtalombmiochpmaaGreatDoor
open Go Go.RowKit Go.Shelf Go.Maps
theorem Tryz.Nc:(Tryz.prog.info? 137).map (fun i=>(i.zero,i.size,i.bytes))=some (some (.agg #[.int .u64 0,.int .u64 0,.int .u64 0,.int .u64 0,.int .u64 0,.int .u64 0,.int .u64 0]),7,56):=by kernel_rfl
def fq:Array Value:= #[.int .u64 0,.int .u64 0,.int .u64 0,.int .u64 0,.int .u64 0,.int .u64 0,.int .u64 0]
theorem Fu:dD [0]=fq.toList:=by
 have e:bP (bW (0:PB))=fq:=by unfold bP fq;simp only[GZ];rfl
 unfold dD;rw[List.flatMap_cons,e];rfl
def McD (base n mb:Nat) (sv fv:Value) (S0 F0:List Value) (j:Nat) (W:World):Prop:=j∈ [5,9,13,16,19]->ah W mb #[sv,fv] 135/\(j=9->W.ownsRow base 59 4 sv n S0)/\(j=16->W.ownsRow base 137 7 fv n F0)
theorem McD.alloc {base n mb:Nat} {sv fv:Value} {S0 F0:List Value} {j:Nat} {W:World} (h:McD base n mb sv fv S0 F0 j W) (o:Obj):McD base n mb sv fv S0 F0 j (W.alloc o):=fun e=>⟨(h e).1.alloc _,fun e2=>((h e).2.1 e2).alloc _,fun e2=>((h e).2.2 e2).alloc _⟩
theorem Fv (base M:Nat) (F:Nat->Prop) (m:GM) (s:BS) (mn mx:Int) (a:Value) (X:Nat) (w:World) (h:eJ base M F w m) (hX:w.cell? ⟨X,0,none⟩=some (.pointer (some ⟨M,0,none⟩))) (Ci:¬F X) (hm:m.bQ.length=m.aB.length) (hn:m.aB.length<448): Calls Tryz.prog 127 #[.agg (ai 2 s mn mx a),.pointer (some ⟨X,0,none⟩)] w fun e w'=>e=.returned (.agg (aw ⟨dP m.aB.length,dP m.aB.length,false⟩))/\(∃ F',eJ base M F' w' ⟨m.aB++ [s],m.bQ++ [0]⟩/\(∀ x,F x->F' x)/\∀ x,F' x->F x\/w.heap.size<=x)/\aa (fun x=>x<w.heap.size/\¬F x) w w':=by
 obtain⟨iS,Wv,Ig,Ih,Ii⟩:=info_parts Tryz.xm;obtain⟨iB,WE,IG,II,IJ⟩:=info_parts Tryz.Nc;obtain⟨sv,fv,h1,h2,h3,h4,h5⟩:=h.row;rw[hm]at h4;obtain⟨n,k7⟩:∃ n,n=m.aB.length:=⟨_,rfl⟩;rw[<-k7]at h2 h4 hn ⊢;obtain⟨sa,sc,rfl⟩:=ownsRow_form h2;obtain⟨fa,fc,rfl⟩:=ownsRow_form h4;have HM:=hid h;have B1:=hid h1;have O1:=hid h2;have P1:=hid h4;have S3:=hid h3;have S5:=hid h5;have qR:=hid k7;have GR:=hid hm;have SJ:M<w.heap.size:=h1.lt;have Jn:X<w.heap.size:=World.block_lt_of_cell? _ _ hX;have hXM:X≠M:=fun e=>Ci (by rw[e];exact h.fm)
 have sA:base<=w.heap.size:=Nat.le_of_lt (Nat.lt_of_le_of_lt (h.lt M h.fm).1 SJ);have HX:=hid hX;have U5:=hid Ci;have c0:w.cell? ⟨M,0,none⟩=some (.slice sa n sc):=h1.cell 0;have c1:w.cell? ⟨M,1,none⟩=some (.slice fa n fc):=h1.cell 1;clear h h1 h2 h3 h4 h5 hm k7 hX Ci;have hX:=HX.out;unfold ai;go_enter Tryz.func127,Tryz.ntmps127;go_upto_region 2 with fail
 refine ax ?_;intro V hV;have N0:Hid (ah V w.heap.size #[.int .u8 2,.int .u64 (wd s 0).toNat,.int .u64 (wd s 1).toNat,.int .u64 (wd s 2).toNat,.int .u64 (wd s 3).toNat,.int .i64 mn,.int .i64 mx,a] 62):=by rw[hV];exact hid (((ah.new _ _ _).alloc _).alloc _)
 have R0:Hid (ah V (w.heap.size+1) (zeroV false) 139):=by rw[hV];exact hid ((ah.at (ah.new _ _ _) (by simp)).alloc _)
 have Q0:Hid (ah V (w.heap.size+1+1) (zeroV false) 139):=by rw[hV];exact hid (ah.at (ah.new _ _ _) (by simp))
 have E0:Hid (Ext w V):=by rw[hV];exact hid ((((Ext.refl w).alloc _).alloc _).alloc _)
 have hsz:V.heap.size=w.heap.size+1+1+1:=by rw[hV];simp
 clear hV c0 c1 hX;have BV:=hid (B1.out.ext E0.out);have OV:=hid (ak O1.out E0.out.below);have PV:=hid (ak P1.out E0.out.below);have jV:=hid hsz;have Pr:Hid (V.cell? ⟨X,0,none⟩=some (.pointer (some ⟨M,0,none⟩))):=hid ((E0.out.keeps.cell (p:=⟨X,0,none⟩) Jn).trans HX.out);have c0:V.cell? ⟨M,0,none⟩=some (.slice sa n sc):=BV.out.cell 0;have c1:V.cell? ⟨M,1,none⟩=some (.slice fa n fc):=BV.out.cell 1;have hX:=Pr.out;clear hsz;go_upto_region 3 with fail
 refine RegQ.aO (oF (.slice fa n fc) V.heap.size base n M F (aC m.aB++(encS s).toList) (dD m.bQ++fq.toList) (encS s) fq) oF.drew (fun _ _ _ h k=>h.trans k) (by kernel_rfl) 20 [0,0,0,4,12,28,0,64,192,508,0,1024,3072,7168,0,16384,65532,131069,262141,524285,1048575,2097151,4194303] (fun i=>i==5 || i==8 || i==9 || i==13 || i==15 || i==16 || i==19 || i==22) (by kernel_rfl) (fun i=>if i=5 then aR.xg _ (.slice sa n sc)else if i=8 then pO.box _ _ _ _ _ _ _ _ _ _ else if i=9 then pO.Zd _ _ _ _ _ _ _ _ _ _ (.slice sa n sc)else if i=13 then aR.xg _ (.slice fa n fc)else if i=15 then pO.Zc _ _ _ _ _ _ _ _ _ _ else if i=16 then pO.Ze _ _ _ _ _ _ _ _ _ _ else if i=19 then pO.WM _ _ _ _ _ _ _ _ _ _ (.slice sa n sc)else aR.any _) (McD base n M (.slice sa n sc) (.slice fa n fc) (aC m.aB) (dD m.bQ)) (fun _ _ _=>⟨BV.out,fun _=>OV.out,fun _=>PV.out⟩) ?_;intro C hC hne;have HC:=hid hC;have hVw:w.heap.size<=V.heap.size:=by rw[jV.out];omega
 have hXv:X<V.heap.size:=by rw[jV.out];omega
 have fX:∀ W: {W//C W},W.1.cell? ⟨X,0,none⟩=some (.pointer (some ⟨M,0,none⟩)):=fun W=>(((hC W.1).1 W.2).keep.cell (p:=⟨X,0,none⟩) ⟨hXv,hXv,U5.out⟩).trans hX
 have hnV:¬F w.heap.size:=fun e=>by have:=(HM.out.lt _ e).2;omega
 have g1:∀ W: {W//C W},W.1.cell? ⟨w.heap.size,1,none⟩=some (.int .u64 (wd s 0).toNat):=fun W=>(((hC W.1).1 W.2).keep.cell (p:=⟨w.heap.size,1,none⟩) ⟨N0.out.lt,N0.out.lt,hnV⟩).trans (N0.out.cell 1)
 have g2:∀ W: {W//C W},W.1.cell? ⟨w.heap.size,2,none⟩=some (.int .u64 (wd s 1).toNat):=fun W=>(((hC W.1).1 W.2).keep.cell (p:=⟨w.heap.size,2,none⟩) ⟨N0.out.lt,N0.out.lt,hnV⟩).trans (N0.out.cell 2)
 have g3:∀ W: {W//C W},W.1.cell? ⟨w.heap.size,3,none⟩=some (.int .u64 (wd s 2).toNat):=fun W=>(((hC W.1).1 W.2).keep.cell (p:=⟨w.heap.size,3,none⟩) ⟨N0.out.lt,N0.out.lt,hnV⟩).trans (N0.out.cell 3)
 have g4:∀ W: {W//C W},W.1.cell? ⟨w.heap.size,4,none⟩=some (.int .u64 (wd s 3).toNat):=fun W=>(((hC W.1).1 W.2).keep.cell (p:=⟨w.heap.size,4,none⟩) ⟨N0.out.lt,N0.out.lt,hnV⟩).trans (N0.out.cell 4)
 clear hC c0 c1 hX
 repeat (refine RegQ.ae (fun K hK=>?_);first | (refine RegQ.bp rfl ?_;try go_simp;refine hK _ _ ?_;clear hK K) | (refine RegQ.aX rfl rfl ?_;unfold aq;go_simp;refine hK _ _ ?_;clear hK K))
 refine RegQ.ae (fun K hK=>?_);refine RegQ.bH rfl rfl (aR.xg _ (.slice sa n sc)) rfl (fun W hW hD hN=>?_) (fun v hv=>?_)
 ·have hD:=(hD (by decide)).1.cell 0
  have hD:W.cell? ⟨M,0,none⟩=some (.slice sa n sc):=hD;clear hW hN hK K;go_simp;exact⟨⟨oF.below (Below.refl _ _),fun j=>by intros;assumption⟩,rfl,trivial⟩
 replace hv:v=_:=hv;subst hv;go_simp;refine hK _ _ ?_;clear hK K
 repeat (refine RegQ.ae (fun K hK=>?_);first | (refine RegQ.bp rfl ?_;try go_simp;refine hK _ _ ?_;clear hK K) | (refine RegQ.aX rfl rfl ?_;unfold aq;go_simp;refine hK _ _ ?_;clear hK K))
 refine RegQ.ae (fun K hK=>?_);refine RegQ.bH rfl rfl (pO.box (.slice fa n fc) V.heap.size base n M F (aC m.aB++(encS s).toList) (dD m.bQ++fq.toList) (encS s) fq) rfl (fun W hW hD hN=>?_) (fun v hv=>?_)
 ·have Zf:=((HC.out W).1 hW).size
  clear hW hN hK K;go_simp;exact⟨⟨oF.below ((Ext.refl _).alloc _).below,fun j _ _ h=>h.alloc _⟩,⟨_,by omega,rfl⟩,fun b hb=>by cases hb;exact ah.new _ _ _⟩
 obtain⟨bx,Aw,rfl⟩:=hv;go_simp;refine hK _ _ ?_;clear hK K;refine RegQ.ae (fun K hK=>?_);refine RegQ.bH rfl rfl (pO.Zd (.slice fa n fc) V.heap.size base n M F (aC m.aB++(encS s).toList) (dD m.bQ++fq.toList) (encS s) fq (.slice sa n sc)) rfl (fun W hW hD hN=>?_) (fun v hv=>?_)
 ·have Zf:=((HC.out W).1 hW).size
  have sA:ah W bx (encS s) 59:=hN.at 0 rfl (by kernel_rfl) bx rfl;obtain⟨Du,Zg,_⟩:=hD (by decide);have Zh:=hid sA;have Nd:=hid Du;have lU:=hid (Zg rfl);clear hW hN hK K sA Du Zg hD;refine kr (.tmp 16) (.tmp 19) 25 rfl base 59 iS _ 4 32 Tryz.underlying25 Wv Ig Ih Ii rfl (by decide) (.slice sa n sc) n (aC m.aB) rfl lU.out ⟨bx,0,none⟩ 1 1 (encS s).toList rfl (bB Zh.out) rfl (by intro u hu;simp[encS]at hu;rcases hu with rfl | rfl | rfl | rfl<;>rfl) (by unfold maxLen;omega) (by omega) (by omega) (by decide) ?_;intro v' w2 ho hg jg;refine⟨⟨oF.apS lU.out (fun x e=>⟨by rw[jV.out];have:=(O1.out.lt x e).2;omega,S3.out x e⟩) Nd.out ho hg (jg.imp (fun h=>h.1) id),fun j hj _ h e=>⟨(h e).1.grown hg (fun e2=>cH Nd.out lU.out (by decide) M e2.symm rfl),fun e2=>absurd e2 hj,fun e2=>((h e).2.2 e2).kept hg (ownBlock_ne (by decide) ((h e).2.2 e2) lU.out)⟩⟩,ownsRow_form ho,ho,?_⟩;rcases jg with⟨_,h⟩ | ⟨g,cap,h1,h2,_⟩
  ·exact .inr fun x hx=>by rw[h]at hx;cases hx;omega
  ·exact .inl (by rw[h2,h1];rfl)
 obtain⟨s1,s2,rfl⟩:=hv;go_simp;refine hK _ _ ?_;clear hK K
 repeat (refine RegQ.ae (fun K hK=>?_);first | (refine RegQ.bp rfl ?_;try go_simp;refine hK _ _ ?_;clear hK K) | (refine RegQ.aX rfl rfl ?_;unfold aq;go_simp;refine hK _ _ ?_;clear hK K))
 refine RegQ.ae (fun K hK=>?_);refine RegQ.bH rfl rfl (aR.xg _ (.slice fa n fc)) rfl (fun W hW hD hN=>?_) (fun v hv=>?_)
 ·have hD:=(hD (by decide)).1.cell 1
  have hD:W.cell? ⟨M,1,none⟩=some (.slice fa n fc):=hD;clear hW hN hK K;go_simp;exact⟨⟨oF.below (Below.refl _ _),fun j=>by intros;assumption⟩,rfl,trivial⟩
 replace hv:v=_:=hv;subst hv;go_simp;refine hK _ _ ?_;clear hK K
 repeat (refine RegQ.ae (fun K hK=>?_);first | (refine RegQ.bp rfl ?_;try go_simp;refine hK _ _ ?_;clear hK K) | (refine RegQ.aX rfl rfl ?_;unfold aq;go_simp;refine hK _ _ ?_;clear hK K))
 refine RegQ.ae (fun K hK=>?_);refine RegQ.bH rfl rfl (pO.Zc (.slice fa n fc) V.heap.size base n M F (aC m.aB++(encS s).toList) (dD m.bQ++fq.toList) (encS s) fq) rfl (fun W hW hD hN=>?_) (fun v hv=>?_)
 ·have Zf:=((HC.out W).1 hW).size
  clear hW hN hK K;go_simp;exact⟨⟨oF.below ((Ext.refl _).alloc _).below,fun j _ _ h=>h.alloc _⟩,⟨_,by omega,rfl⟩,fun b hb=>by cases hb;exact ah.new _ _ _⟩
 obtain⟨by_,ajI,rfl⟩:=hv;go_simp;refine hK _ _ ?_;clear hK K;refine RegQ.ae (fun K hK=>?_);refine RegQ.bH rfl rfl (pO.Ze (.slice fa n fc) V.heap.size base n M F (aC m.aB++(encS s).toList) (dD m.bQ++fq.toList) (encS s) fq) rfl (fun W hW hD hN=>?_) (fun v hv=>?_)
 ·have Zf:=((HC.out W).1 hW).size
  have sA:ah W by_ fq 137:=hN.at 0 rfl (by kernel_rfl) by_ rfl;obtain⟨Du,_,Zg⟩:=hD (by decide);have Zh:=hid sA;have Nd:=hid Du;have lU:=hid (Zg rfl);clear hW hN hK K sA Du Zg hD;refine kr (.tmp 24) (.tmp 26) 133 rfl base 137 iB _ 7 56 Tryz.underlying133 WE IG II IJ rfl (by decide) (.slice fa n fc) n (dD m.bQ) rfl lU.out ⟨by_,0,none⟩ 1 1 fq.toList rfl (bB Zh.out) rfl (by intro u hu;simp[fq]at hu;subst hu;rfl) (by unfold maxLen;omega) (by omega) (by omega) (by decide) ?_;intro v' w2 ho hg jg;refine⟨⟨oF.apF lU.out (fun x e=>⟨by rw[jV.out];have:=(P1.out.lt x e).2;omega,S5.out x e⟩) Nd.out ho hg (jg.imp (fun h=>h.1) id),fun j hj _ h e=>⟨(h e).1.grown hg (fun e2=>cH Nd.out lU.out (by decide) M e2.symm rfl),fun e2=>((h e).2.1 e2).kept hg (ownBlock_ne (by decide) ((h e).2.1 e2) lU.out),fun e2=>absurd e2 hj⟩⟩,ownsRow_form ho,ho,?_⟩;rcases jg with⟨_,h⟩ | ⟨g,cap,h1,h2,_⟩
  ·exact .inr fun x hx=>by rw[h]at hx;cases hx;omega
  ·exact .inl (by rw[h2,h1];rfl)
 obtain⟨f1,f2,rfl⟩:=hv;go_simp;refine hK _ _ ?_;clear hK K
 repeat (refine RegQ.ae (fun K hK=>?_);first | (refine RegQ.bp rfl ?_;try go_simp;refine hK _ _ ?_;clear hK K) | (refine RegQ.aX rfl rfl ?_;unfold aq;go_simp;refine hK _ _ ?_;clear hK K))
 refine RegQ.ae (fun K hK=>?_);refine RegQ.bH rfl rfl (pO.WM (.slice fa n fc) V.heap.size base n M F (aC m.aB++(encS s).toList) (dD m.bQ++fq.toList) (encS s) fq (.slice sa n sc)) rfl (fun W hW hD hN=>?_) (fun v hv=>?_)
 ·have hrow:W.ownsRow base 59 4 (.slice s1 (n+1) s2) (n+1) (aC m.aB++(encS s).toList)/\((Value.slice s1 (n+1) s2).ownBlock=(Value.slice sa n sc).ownBlock\/∀ x,(Value.slice s1 (n+1) s2).ownBlock=some x->V.heap.size<=x):=hN.at 3 rfl (by kernel_rfl)
  obtain⟨Du,_⟩:=hD (by decide);have Nd:=hid Du;have eW:=hid hrow;have hc0:W.cell? ⟨M,0,none⟩=some (.slice sa n sc):=Nd.out.cell 0;have hz0:=Nd.out.frozen 0;have hFM:=HM.out.fm;clear hW hN hK K hrow Du hD;go_simp;refine⟨⟨oF.store _ Nd.out ⟨_,_,rfl⟩ hFM (by omega),fun j hj hb h e=>?_⟩,trivial,_,_,Nd.out.set 0 _,?_,eW.out.2⟩
  ·exfalso
   simp at e;rcases e with rfl | rfl | rfl | rfl | rfl
   ·revert hb;decide
   ·revert hb;decide
   ·revert hb;decide
   ·revert hb;decide
   ·exact hj rfl
  ·exact ag eW.out.1 ((aa.refl (· ≠M) W).setCell (p:=⟨M,0,none⟩) (fun h=>h rfl) _) fun x hx=>cH Nd.out eW.out.1 (by decide) x hx
 go_simp;refine hK _ _ ?_;clear hK K;refine RegQ.aV (fun W hW hH=>?_);have iU:=(HC.out W).1 hW;obtain⟨ta,tc,hb1,hrow,jg⟩:∃ a c,ah W M #[.slice a (n+1) c,.slice fa n fc] 135/\W.ownsRow base 59 4 (.slice a (n+1) c) (n+1) (aC m.aB++(encS s).toList)/\((Value.slice a (n+1) c).ownBlock=(Value.slice sa n sc).ownBlock\/∀ x,(Value.slice a (n+1) c).ownBlock=some x->V.heap.size<=x):=hH _ (List.mem_of_getElem? (show _=some _ from rfl:_[0]? =some _));have FW:Hid (W.ownsRow base 137 7 (.slice f1 (n+1) f2) (n+1) (dD m.bQ++fq.toList)/\((Value.slice f1 (n+1) f2).ownBlock=(Value.slice fa n fc).ownBlock\/∀ x,(Value.slice f1 (n+1) f2).ownBlock=some x->V.heap.size<=x)):=hid (hH _ (List.mem_of_getElem? (show _=some _ from rfl:_[1]? =some _)));have BW:=hid hb1;have SW:=hid hrow;have SWo:=hid jg;have KV:=hid iU.keep;have hWs:V.heap.size<=W.heap.size:=iU.size;clear iU hW hH HC hne fX g1 g2 g3 g4 hb1 hrow jg;have k0:W.cell? ⟨M,0,none⟩=some (.slice ta (n+1) tc):=BW.out.cell 0;have k1:W.cell? ⟨M,1,none⟩=some (.slice fa n fc):=BW.out.cell 1;have z1:=BW.out.frozen 1;go_upto_region 4 with fail
 refine ax ?_;intro W2 hW2;have hk2:aa (· ≠M) W W2:=by rw[hW2];exact(aa.refl (· ≠M) W).setCell (p:=⟨M,1,none⟩) (fun h=>h rfl) _
 have BM:Hid (ah W2 M #[.slice ta (n+1) tc,.slice f1 (n+1) f2] 135):=hid (by rw[hW2];exact BW.out.set 1 _);have S2:=hid (ag SW.out hk2 fun x hx=>cH BW.out SW.out (by decide) x hx);have F2:=hid (ag FW.out.1 hk2 fun x hx=>cH BW.out FW.out.1 (by decide) x hx);have KA:Hid (aa (fun x=>x<V.heap.size/\¬F x) V W2):=hid ((KV.out.mono fun x hx=>⟨hx.1,hx.1,hx.2⟩).tr (hk2.mono fun x hx e=>hx.2 (by rw[e];exact HM.out.fm)));clear hW2 hk2 k0 k1 z1 BW SW KV;have mK:∀ k,w.heap.size<=k->¬F k:=fun k hk e=>by have:=(HM.out.lt k e).2;omega
 have hV2:w.heap.size+1+1<V.heap.size:=by rw[jV.out];omega
 have hV1:w.heap.size+1<V.heap.size:=by rw[jV.out];omega
 have R2:Hid (ah W2 (w.heap.size+1) (zeroV false) 139):=hid (R0.out.keeps KA.out ⟨hV1,mK _ (by omega)⟩);obtain⟨z,hz⟩:∃ z:PB,z=0:=⟨_,rfl⟩;have gy:=fZ false;rw[<-hz]at gy;have Q2:Hid (ah W2 (w.heap.size+1+1) (aw ⟨z,z,false⟩) 139):=hid (by rw[gy];exact Q0.out.keeps KA.out ⟨hV2,mK _ (by omega)⟩);have hzb:z ||| dP n=dP n:=by rw[hz];exact BitVec.zero_or
 have HZB:=hid hzb;have GX:=hid mK;clear hz gy hzb mK R0 Q0;go_wp2_with fail
 refine(xY (bW z) (w.heap.size+1+1) 0 n hn W2 (fe.fst Q2.out) (Q2.out.frozen _)).mono ?_;rintro e w3 ⟨⟨u,rfl⟩,hx⟩;have kk:aa (fun x=>x<W2.heap.size/\x≠w.heap.size+1+1) W2 w3:=(((aa.refl (· ≠w.heap.size+1+1) W2).setCell (p:=⟨w.heap.size+1+1,_,none⟩) (fun h=>h rfl) _).mono fun x hx=>hx.2).tr (hx.mono fun x hx=>hx.1);have hq:ah w3 (w.heap.size+1+1) (aw ⟨z ||| dP n,z,false⟩) 139:=by rw[<-Na z z false hn];exact(Q2.out.set _ _).keeps hx Q2.out.lt
 have KA2:Hid (aa (fun x=>x<w.heap.size/\¬F x) V W2):=hid (KA.out.mono fun x hx=>⟨by have:=hx.1;omega,hx.2⟩);have BM2:=BM;have hW2:V.heap.size<=W2.heap.size:=KA.out.size;have Q3:Hid (ah w3 (w.heap.size+1+1) (aw ⟨z ||| dP n,z,false⟩) 139):=hid hq;have R3:=hid (R2.out.keeps kk ⟨R2.out.lt,by omega⟩);have BM3:=hid (BM2.out.keeps kk ⟨BM2.out.lt,by omega⟩);have Pt:∀ x,x=w.heap.size+1+1->∀ (v:Value),(v.ownBlock=(Value.slice sa n sc).ownBlock\/v.ownBlock=(Value.slice fa n fc).ownBlock\/∀ x,v.ownBlock=some x->V.heap.size<=x)->v.ownBlock≠some x:=fun x hx v hv e=>by
  rcases hv with h | h | h
  ·have:=(O1.out.lt x (by rw[<-h,e])).2;omega
  ·have:=(P1.out.lt x (by rw[<-h,e])).2;omega
  ·have:=h x e;omega
 have S3:=hid (ag S2.out kk fun x hx=>⟨(S2.out.lt x hx).2,fun e=>Pt x e _ (SWo.out.elim .inl fun h=>.inr (.inr h)) hx⟩);have F3:=hid (ag F2.out kk fun x hx=>⟨(F2.out.lt x hx).2,fun e=>Pt x e _ (FW.out.2.elim (fun h=>.inr (.inl h)) fun h=>.inr (.inr h)) hx⟩);have SN:Hid (aa (fun x=>x<w.heap.size/\¬F x) V w3):=hid ((KA2.out).tr (kk.mono fun x hx=>⟨by have:=hx.1;omega,by have:=hx.1;omega⟩));clear hx kk Pt hq;clear Q2 R2 BM2 BM S2 F2 KA2 KA;have hw3:V.heap.size<=w3.heap.size:=SN.out.size;go_wp2_with fail
 refine(xY (bW z) (w.heap.size+1+1) 7 n hn w3 (fe.ct Q3.out) (Q3.out.frozen _)).mono ?_;rintro e w4 ⟨⟨u,rfl⟩,hx⟩;have kk:aa (fun x=>x<w3.heap.size/\x≠w.heap.size+1+1) w3 w4:=(((aa.refl (· ≠w.heap.size+1+1) w3).setCell (p:=⟨w.heap.size+1+1,_,none⟩) (fun h=>h rfl) _).mono fun x hx=>hx.2).tr (hx.mono fun x hx=>hx.1);have hq:ah w4 (w.heap.size+1+1) (aw ⟨z ||| dP n,z ||| dP n,false⟩) 139:=by rw[<-Nb (z ||| dP n) z false hn];exact(Q3.out.set _ _).keeps hx Q3.out.lt
 have Q4:Hid (ah w4 (w.heap.size+1+1) (aw ⟨z ||| dP n,z ||| dP n,false⟩) 139):=hid hq;have R4:=hid (R3.out.keeps kk ⟨R3.out.lt,by omega⟩);have BM4:=hid (BM3.out.keeps kk ⟨BM3.out.lt,by omega⟩);have Pt:∀ x,x=w.heap.size+1+1->∀ (v:Value),(v.ownBlock=(Value.slice sa n sc).ownBlock\/v.ownBlock=(Value.slice fa n fc).ownBlock\/∀ x,v.ownBlock=some x->V.heap.size<=x)->v.ownBlock≠some x:=fun x hx v hv e=>by
  rcases hv with h | h | h
  ·have:=(O1.out.lt x (by rw[<-h,e])).2;omega
  ·have:=(P1.out.lt x (by rw[<-h,e])).2;omega
  ·have:=h x e;omega
 have S4:=hid (ag S3.out kk fun x hx=>⟨(S3.out.lt x hx).2,fun e=>Pt x e _ (SWo.out.elim .inl fun h=>.inr (.inr h)) hx⟩);have F4:=hid (ag F3.out kk fun x hx=>⟨(F3.out.lt x hx).2,fun e=>Pt x e _ (FW.out.2.elim (fun h=>.inr (.inl h)) fun h=>.inr (.inr h)) hx⟩);have KA4:Hid (aa (fun x=>x<w.heap.size/\¬F x) V w4):=hid ((SN.out).tr (kk.mono fun x hx=>⟨by have:=hx.1;omega,by have:=hx.1;omega⟩));clear hx kk Pt hq;clear Q3 R3 BM3 S3 F3 SN;rw[HZB.out]at Q4;go_wp2_with (first | (refine aN rfl 139 (.tmp 4) rfl (w.heap.size+1+1) rfl (aw ⟨dP n,dP n,false⟩) _ Q4.out.range Tryz.underlying139 rfl (aY _) ?_) | (refine wpList_store_row rfl 139 (.tmp 3) (.tmp 38) rfl (w.heap.size+1) (aw ⟨dP n,dP n,false⟩) rfl rfl 139 (zeroV false) R4.out (aY _) rfl (dI _) ?_;refine Hid.out ?_));refine hid ?_;obtain⟨V3,cD⟩:∃ W,W=w4.setRow (w.heap.size+1) (aw ⟨dP n,dP n,false⟩):=⟨_,rfl⟩;rw[<-cD];have R9:Hid (ah V3 (w.heap.size+1) (aw ⟨dP n,dP n,false⟩) 139):=by rw[cD];exact hid R4.out.setRow
 have K9:aa (· ≠w.heap.size+1) w4 V3:=by rw[cD];exact bh _ _ _
 clear cD;go_wp2;obtain⟨m0,m1,m2,m3,m4,m5,m6,m7,m8,m9,m10,m11,m12,m13,m14⟩:=R9.out.part;dsimp only at m0 m1 m2 m3 m4 m5 m6 m7 m8 m9 m10 m11 m12 m13 m14;refine bodyPost_ret (v:=.agg (aw ⟨dP n,dP n,false⟩)) (by simp[results,Tryz.results127,aw,go_sem,m0,m1,m2,m3,m4,m5,m6,m7,m8,m9,m10,m11,m12,m13,m14]) rfl ⟨rfl,?_,?_⟩
 ·have Pt:∀ x,x=w.heap.size+1->∀ (v:Value),(v.ownBlock=(Value.slice sa n sc).ownBlock\/v.ownBlock=(Value.slice fa n fc).ownBlock\/∀ x,v.ownBlock=some x->V.heap.size<=x)->v.ownBlock≠some x:=fun x hx v hv e=>by
   rcases hv with h | h | h
   ·have:=(O1.out.lt x (by rw[<-h,e])).2;omega
   ·have:=(P1.out.lt x (by rw[<-h,e])).2;omega
   ·have:=h x e;omega
  have S9:=ag S4.out K9 fun x hx e=>Pt x e _ (SWo.out.elim .inl fun h=>.inr (.inr h)) hx
  have F9:=ag F4.out K9 fun x hx e=>Pt x e _ (FW.out.2.elim (fun h=>.inr (.inl h)) fun h=>.inr (.inr h)) hx
  have B9:=BM4.out.keeps K9 (by omega);have hs:=K9.size;have SF:=KA4.out.size;have es:aC (m.aB++ [s])=aC m.aB++(encS s).toList:=by rw[et];simp[aC]
  have ef:dD (m.bQ++ [0])=dD m.bQ++fq.toList:=by rw[zy,Fu]
  have ls:(m.aB++ [s]).length=n+1:=by rw[List.length_append, <-qR.out];rfl
  have lf:(m.bQ++ [(0:PB)]).length=n+1:=by rw[List.length_append,GR.out, <-qR.out];rfl
  refine⟨fun x=>F x\/(Value.slice ta (n+1) tc).ownBlock=some x\/(Value.slice f1 (n+1) f2).ownBlock=some x,⟨.inl HM.out.fm,fun x hx=>?_,_,_,B9,?_,fun x hx=>.inr (.inl hx),?_,fun x hx=>.inr (.inr hx)⟩,fun x hx=>.inl hx,fun x hx=>?_⟩
  ·rcases hx with h | h | h
   ·have:=HM.out.lt x h;exact⟨this.1,by omega⟩
   ·exact S9.lt x h
   ·exact F9.lt x h
  ·rw[ls,es];exact S9
  ·rw[lf,ef];exact F9
  ·rcases hx with h | h | h
   ·exact .inl h
   ·rcases SWo.out with h2 | h2
    ·exact .inl (S3.out x (by rw[<-h2];exact h))
    ·exact .inr (by have:=h2 x h;omega)
   ·rcases FW.out.2 with h2 | h2
    ·exact .inl (S5.out x (by rw[<-h2];exact h))
    ·exact .inr (by have:=h2 x h;omega)
 ·exact((E0.out.keeps.mono fun x hx=>hx.1).tr KA4.out).tr (K9.mono fun x hx=>by have:=hx.1;omega)
def iE (base M:Nat) (F:Nat->Prop) (w:World) (m:GM) (p:GP) (e:Ending) (w':World):Prop:=
 e=.returned (.agg (aw p))/\(∃ F',eJ base M F' w' m/\(∀ x,F x->F' x)/\∀ x,F' x->F x\/w.heap.size<=x)/\aa (fun x=>x<w.heap.size/\¬F x) w w'/\w.heap.size<w'.heap.size
def Fw (n0:Nat) (t:RX):Prop:=∀ (base M:Nat) (F:Nat->Prop) (m:GM) (w:World) (v:Value),n0<=base->eJ base M F w m->aF (· <n0) w v t->m.ok->m.bQ.length=m.aB.length->m.aB.length+t.cnt<=448->
 Calls Tryz.prog 77 #[.pointer (some ⟨M,0,none⟩),v] w (iE base M F w (t.cN m).1 (t.cN m).2)
theorem QP (n0 base M:Nat) (F:Nat->Prop) (m:GM) (k:Nat) (s:BS) (mn mx:Int) (t:RX) (l:List RX) (p:Option Addr) (n c:Nat) (X:Nat) (w:World) (dp:n0<=base) (h:eJ base M F w m) (hr:aF (· <n0) w (.agg (ai k s mn mx (.slice p n c))) (.nd k s mn mx (t::l))) (ht:Fw n0 t) (hX:w.cell? ⟨X,0,none⟩=some (.pointer (some ⟨M,0,none⟩))) (Ci:¬F X) (ok:m.ok) (hm:m.bQ.length=m.aB.length) (hn:m.aB.length+t.cnt<=448): Calls Tryz.prog 134 #[.agg (ai k s mn mx (.slice p n c)),.pointer (some ⟨X,0,none⟩)] w (iE base M F w (t.cN m).1 (t.cN m).2):=by
 obtain⟨b,off,p',c',rfl,hb,sA,lH,⟨e0,e1,e2,e3,e4,e5,e6,e7⟩,hrt⟩:=hr.elem (i:=0) (t:=t) rfl;have hlen:n=l.length+1:=by obtain⟨p2,c2,e⟩:=hr.form;simp[ai,RX.subs,RX.kind,RX.set,RX.mn,RX.mx]at e;exact e.2.1
 have ja:0<n:=by omega
 have HM:=hid h;have QQ:=hid hrt;have HT:=hid ht;have kN:=hid ok;have GR:=hid hm;have HX:=hid hX;have U5:=hid Ci;have Jn:X<w.heap.size:=World.block_lt_of_cell? _ _ hX;have SJ:M<w.heap.size:=(h.lt M h.fm).2;simp only[Nat.zero_mul,Nat.add_zero]at e0 e1 e2 e3 e4 e5 e6 e7;have E:=hid (And.intro e0 (And.intro e1 (And.intro e2 (And.intro e3 (And.intro e4 (And.intro e5 (And.intro e6 e7)))))));clear h hr hrt ht ok hm hX Ci hlen e0 e1 e2 e3 e4 e5 e6 e7;obtain⟨m2,p2,sB⟩:∃ m2 p2,t.cN m=(m2,p2):=⟨_,_,rfl⟩;rw[sB];dsimp only;have HMP:=hid sB;clear sB;unfold ai;go_enter Tryz.func134,Tryz.ntmps134;go_upto_region 1 with fail
 refine ax ?_;intro V hV;have N0:Hid (ah V w.heap.size #[.int .u8 k,.int .u64 (wd s 0).toNat,.int .u64 (wd s 1).toNat,.int .u64 (wd s 2).toNat,.int .u64 (wd s 3).toNat,.int .i64 mn,.int .i64 mx,.slice (some ⟨b,off,none⟩) n c] 62):=by rw[hV];exact hid ((ah.new _ _ _).alloc _)
 have R0:Hid (ah V (w.heap.size+1) (zeroV false) 139):=by rw[hV];exact hid (ah.at (ah.new _ _ _) (by simp))
 have E0:Hid (Ext w V):=by rw[hV];exact hid (((Ext.refl w).alloc _).alloc _)
 have jV:Hid (V.heap.size=w.heap.size+1+1):=hid (by rw[hV];simp);clear hV;have Pr:V.cell? ⟨X,0,none⟩=some (.pointer (some ⟨M,0,none⟩)):=(E0.out.keeps.cell (p:=⟨X,0,none⟩) Jn).trans HX.out;have ec:∀ (o:Nat) (u:Value),w.cell? ⟨b,o,none⟩=some u->V.cell? ⟨b,o,none⟩=some u:=fun o u h=>(E0.out.keeps.cell (p:=⟨b,o,none⟩) sA).trans h
 obtain⟨e0,e1,e2,e3,e4,e5,e6,e7⟩:=E.out;replace e0:=ec _ _ e0;replace e1:=ec _ _ e1;replace e2:=ec _ _ e2;replace e3:=ec _ _ e3;replace e4:=ec _ _ e4;replace e5:=ec _ _ e5;replace e6:=ec _ _ e6;replace e7:=ec _ _ e7;have n7:V.cell? ⟨w.heap.size,7,none⟩=some (.slice (some ⟨b,off,none⟩) n c):=N0.out.cell 7;have SP:b<V.heap.size:=by rw[jV.out];omega
 have hXv:X<V.heap.size:=by rw[jV.out];omega
 clear ec E;refine aA false (fun _=>False) (by kernel_rfl) 5 [0,0,2,6,14,31,63] (fun i=>i==5 || i==6) (by kernel_rfl) (fun _=>aR.any _) ?_;intro C hC hne;have HC:=hid hC;have f0:=au hC (p:=⟨b,off,none⟩) SP (fun h=>h) e0;have f1:=au hC (p:=⟨b,off+1,none⟩) SP (fun h=>h) e1;have f2:=au hC (p:=⟨b,off+2,none⟩) SP (fun h=>h) e2;have f3:=au hC (p:=⟨b,off+3,none⟩) SP (fun h=>h) e3;have f4:=au hC (p:=⟨b,off+4,none⟩) SP (fun h=>h) e4;have f5:=au hC (p:=⟨b,off+5,none⟩) SP (fun h=>h) e5;have f6:=au hC (p:=⟨b,off+6,none⟩) SP (fun h=>h) e6;have f7:=au hC (p:=⟨b,off+7,none⟩) SP (fun h=>h) e7;have fX:=au hC (p:=⟨X,0,none⟩) hXv (fun h=>h) Pr;have fN:=au hC (p:=⟨w.heap.size,7,none⟩) N0.out.lt (fun h=>h) n7;clear hC e0 e1 e2 e3 e4 e5 e6 e7 Pr n7
 repeat (refine ae (fun K hK=>?_);first | (refine bp rfl ?_;try go_simp;refine hK _ _ ?_;clear hK K) | (refine aX rfl rfl ?_;unfold aq;go_simp;refine hK _ _ ?_;clear hK K))
 refine aV (fun W hW hH=>?_);have iU:=(HC.out W).1 hW;have MW:Hid (eJ base M F W m):=hid ((HM.out.keeps E0.out.keeps fun x hx=>(HM.out.lt x hx).2).keeps (aa.aj iU.below fun _ h=>h:aa (· <V.heap.size) V W) fun x hx=>by have:=(HM.out.lt x hx).2;rw[jV.out];omega);have IW:Hid (aF (· <n0) W (.agg (ai t.kind t.set t.mn t.mx (.slice p' t.subs.length c'))) t):=hid ((QQ.out.keeps E0.out.keeps fun x hx=>by have:=(HM.out.lt _ HM.out.fm).1;omega).keeps (aa.aj iU.below fun _ h=>h:aa (· <V.heap.size) V W) fun x hx=>by have:=(HM.out.lt _ HM.out.fm).1;rw[jV.out];omega);have RW:=hid (R0.out.below iU.below R0.out.lt);have KW:Hid (aa (· <w.heap.size) w W):=hid (E0.out.keeps.tr (aa.aj iU.below fun x hx=>by rw[jV.out];omega:aa (· <w.heap.size) V W));have DC:w.heap.size+1+1<=W.heap.size:=by rw[<-jV.out];exact iU.below.size
 clear iU hW hH HC hne f0 f1 f2 f3 f4 f5 f6 f7 fX fN;have CM:Hid (Calls Tryz.prog 77 #[.pointer (some ⟨M,0,none⟩),.agg (ai t.kind t.set t.mn t.mx (.slice p' t.subs.length c'))] W (iE base M F W (t.cN m).1 (t.cN m).2)):=hid (HT.out base M F m W _ dp MW.out IW.out kN.out GR.out hn);rw[HMP.out]at CM;dsimp only at CM;clear MW IW R0;go_wp2_with fail
 refine CM.out.mono ?_;rintro e w3 ⟨rfl,hF',hx,hsz⟩;have mK:∀ k,w.heap.size<=k->¬F k:=fun k hk e=>by have:=(HM.out.lt k e).2;omega
 have R3:Hid (ah w3 (w.heap.size+1) (zeroV false) 139):=hid (RW.out.keeps hx ⟨by omega,mK _ (by omega)⟩);have Nf:=hid hF';have HK:=hid hx;clear hx hF' CM;go_wp2_with (first | (refine wpList_store_row rfl 139 (.tmp 3) (.tmp 9) rfl (w.heap.size+1) (aw p2) rfl rfl 139 (zeroV false) R3.out (aY _) rfl (dI _) ?_;refine Hid.out ?_));refine hid ?_;obtain⟨V3,cD⟩:∃ W,W=w3.setRow (w.heap.size+1) (aw p2):=⟨_,rfl⟩;rw[<-cD];have R9:Hid (ah V3 (w.heap.size+1) (aw p2) 139):=by rw[cD];exact hid R3.out.setRow
 have K9:aa (· ≠w.heap.size+1) w3 V3:=by rw[cD];exact bh _ _ _
 clear cD;go_wp2;obtain⟨m0,m1,m2,m3,m4,m5,m6,m7,m8,m9,m10,m11,m12,m13,m14⟩:=R9.out.part;refine bodyPost_ret (v:=.agg (aw p2)) (by simp[results,Tryz.results134,aw,go_sem,m0,m1,m2,m3,m4,m5,m6,m7,m8,m9,m10,m11,m12,m13,m14]) rfl ⟨rfl,?_,?_,?_⟩
 ·obtain⟨F',h1,h2,h3⟩:=Nf.out
  refine⟨F',⟨h1.fm,fun x hx=>⟨(h1.lt x hx).1,Nat.lt_of_lt_of_le (h1.lt x hx).2 K9.size⟩,?_⟩,h2,fun x hx=>(h3 x hx).imp id fun h=>by omega⟩;exact(h1.keeps K9 fun x hx e=>by rcases h3 x hx with h | h;exact mK _ (by omega) h;omega).row
 ·exact(KW.out.mono fun x hx=>hx.1).tr ((HK.out.mono fun x hx=>⟨by have:=hx.1;omega,hx.2⟩).tr (K9.mono fun x hx=>by have:=hx.1;omega))
 ·have:=K9.size;omega
end Go.Proofs.YtalombmiochpmaaGreatDoor
namespace Go.Proofs.YtalombmiochpmaaGreatDoor
open Go Go.RowKit
theorem Cj:∀ (a b:List RX) (st:GM×GP),RX.eY (a++b) st=RX.eY b (RX.eY a st)
 | [],_,_=>by rw[List.nil_append,RX.eY]
 | t::a,b,st=>by rw[List.cons_append,RX.eY,RX.eY];exact Cj a b _
theorem Ck:∀ (a b:List RX) (st:GM×GP),RX.gJ (a++b) st=RX.gJ b (RX.gJ a st)
 | [],_,_=>by rw[List.nil_append,RX.gJ]
 | t::a,b,st=>by rw[List.cons_append,RX.gJ,RX.gJ];exact Ck a b _
theorem uT:∀ (a b:List RX),RX.fA (a++b)=RX.fA a+RX.fA b
 | [],_=>by rw[List.nil_append,RX.fA,Nat.zero_add]
 | t::a,b=>by rw[List.cons_append,RX.fA,RX.fA,uT a b,Nat.add_assoc]
theorem ye (l:List RX) (k:Nat):RX.fA (l.take k)<=RX.fA l:=by have h:=uT (l.take k) (l.drop k);rw[List.take_append_drop]at h;omega
theorem zA {α:Type} {l:List α} {k:Nat} {t:α} (h:l[k]? =some t):l.take (k+1)=l.take k++ [t]:=by rw[List.take_add_one,h];rfl
theorem yf {l:List RX} {k:Nat} {t:RX} (h:l[k]? =some t):RX.fA (l.take (k+1))=RX.fA (l.take k)+t.cnt:=by rw[zA h,uT,RX.fA,RX.fA,Nat.add_zero]
theorem Jo {l:List RX} {k:Nat} {t:RX} (h:l[k]? =some t) (st:GM×GP):RX.eY (l.take (k+1)) st=((t.cN (RX.eY (l.take k) st).1).1,⟨(RX.eY (l.take k) st).2.fst ||| (t.cN (RX.eY (l.take k) st).1).2.fst,(RX.eY (l.take k) st).2.ct ||| (t.cN (RX.eY (l.take k) st).1).2.ct,(RX.eY (l.take k) st).2.emp || (t.cN (RX.eY (l.take k) st).1).2.emp⟩):=by rw[zA h,Cj,RX.eY,RX.eY]
theorem Jp {l:List RX} {k:Nat} {t:RX} (h:l[k]? =some t) (st:GM×GP):RX.gJ (l.take (k+1)) st=bZ (t.cN (RX.gJ (l.take k) st).1).1 (RX.gJ (l.take k) st).2 (t.cN (RX.gJ (l.take k) st).1).2:=by rw[zA h,Ck,RX.gJ,RX.gJ]
theorem Ng {l:List RX} (hl:∀ t∈l,t.full=true) {m:GM} (hm:m.ok) (e:Bool) (k:Nat):gM m (RX.eY (l.take k) (m,⟨0,0,e⟩)) (RX.fA (l.take k)):=by have h:=zu (l.take k) (fun t ht m hm=>l4 t (hl t (List.mem_of_mem_take ht)) m hm) m (m,⟨0,0,e⟩) 0 ⟨hm,rfl,⟨fun p hp=>by simp at hp,fun p hp=>by simp at hp⟩⟩;rw[Nat.zero_add]at h;exact h
theorem Nh {l:List RX} (hl:∀ t∈l,t.full=true) {m:GM} (hm:m.ok) (e:Bool) (k:Nat):gM m (RX.gJ (l.take k) (m,⟨0,0,e⟩)) (RX.fA (l.take k)):=by have h:=zt (l.take k) (fun t ht m hm=>l4 t (hl t (List.mem_of_mem_take ht)) m hm) m (m,⟨0,0,e⟩) 0 ⟨hm,rfl,⟨fun p hp=>by simp at hp,fun p hp=>by simp at hp⟩⟩;rw[Nat.zero_add]at h;exact h
end Go.Proofs.YtalombmiochpmaaGreatDoor
namespace Go.Proofs.YtalombmiochpmaaGreatDoor
open Go Go.RowKit Go.Shelf Go.Maps
def QR (base M:Nat) (F:Nat->Prop) (st:GM×GP) (O:Nat) (V W:World):Prop:=
 (∃ F',eJ base M F' W st.1/\(∀ x,F x->F' x)/\∀ x,F' x->F x\/V.heap.size<=x)/\ah W O (aw st.2) 139/\aa (fun x=>x<V.heap.size/\¬F x/\x≠O) V W
theorem Ni (n0 base M:Nat) (F:Nat->Prop) (m:GM) (k:Nat) (s:BS) (mn mx:Int) (l:List RX) (p:Option Addr) (n c:Nat) (X:Nat) (w:World) (dp:n0<=base) (h:eJ base M F w m) (hr:aF (· <n0) w (.agg (ai k s mn mx (.slice p n c))) (.nd k s mn mx l)) (ht:∀ t∈l,Fw n0 t) (hf:∀ t∈l,t.full=true) (hX:w.cell? ⟨X,0,none⟩=some (.pointer (some ⟨M,0,none⟩))) (Ci:¬F X) (ok:m.ok) (hm:m.bQ.length=m.aB.length) (hn:m.aB.length+RX.fA l<=448) (hL:l.length<=10000): Calls Tryz.prog 131 #[.agg (ai k s mn mx (.slice p n c)),.pointer (some ⟨X,0,none⟩)] w (iE base M F w (RX.eY l (m,⟨0,0,false⟩)).1 (RX.eY l (m,⟨0,0,false⟩)).2):=by
 have hlen:n=l.length:=by obtain⟨p2,c2,e⟩:=hr.form;simp[ai,RX.subs,RX.kind,RX.set,RX.mn,RX.mx]at e;exact e.2.1
 have hn9:n<=10000:=by omega
 have HM:=hid h;have HR:=hid hr;have HT:=hid ht;have Pu:=hid hf;have kN:=hid ok;have GR:=hid hm;have HX:=hid hX;have U5:=hid Ci;have Zi:=hid hlen;have Jn:X<w.heap.size:=World.block_lt_of_cell? _ _ hX;have SJ:M<w.heap.size:=(h.lt M h.fm).2;have sA:n0<=w.heap.size:=by have:=(h.lt M h.fm).1;omega
 obtain⟨st,hst⟩:∃ st,st=RX.eY l (m,⟨0,0,false⟩):=⟨_,rfl⟩;rw[<-hst];have HST:=hid hst;clear h hr ht hf ok hm hX Ci hlen hst;unfold ai;go_enter Tryz.func131,Tryz.ntmps131;go_upto_region 2 with fail
 refine ax ?_;intro V hV;have N0:Hid (ah V w.heap.size #[.int .u8 k,.int .u64 (wd s 0).toNat,.int .u64 (wd s 1).toNat,.int .u64 (wd s 2).toNat,.int .u64 (wd s 3).toNat,.int .i64 mn,.int .i64 mx,.slice p n c] 62):=by rw[hV];exact hid (((ah.new _ _ _).alloc _).alloc _)
 have R0:Hid (ah V (w.heap.size+1) (zeroV false) 139):=by rw[hV];exact hid ((ah.at (ah.new _ _ _) (by simp)).alloc _)
 have O0:Hid (ah V (w.heap.size+1+1) (zeroV false) 139):=by rw[hV];exact hid (ah.at (ah.new _ _ _) (by simp))
 have E0:Hid (Ext w V):=by rw[hV];exact hid ((((Ext.refl w).alloc _).alloc _).alloc _)
 have jV:Hid (V.heap.size=w.heap.size+1+1+1):=hid (by rw[hV];simp);clear hV;have n7:V.cell? ⟨w.heap.size,7,none⟩=some (.slice p n c):=N0.out.cell 7;have Bv:w.heap.size+1+1<V.heap.size:=by rw[jV.out];omega
 have MV:Hid (eJ base M F V m):=hid (HM.out.keeps E0.out.keeps fun x hx=>(HM.out.lt x hx).2);have Pr:V.cell? ⟨X,0,none⟩=some (.pointer (some ⟨M,0,none⟩)):=(E0.out.keeps.cell (p:=⟨X,0,none⟩) Jn).trans HX.out;have HXV:=hid Pr;clear Pr;go_wp2;clear n7;go_loopw [11] (fun iv W=>∃ k:Nat,k<=n/\iv=.int .i64 k/\QR base M F (RX.eY (l.take k) (m,⟨0,0,false⟩)) (w.heap.size+1+1) V W) (fun iv _=>n-(intOf iv).toNat);case atStart=>
  refine⟨0,by omega,rfl,?_⟩;rw[List.take_zero,RX.eY];exact⟨⟨F,MV.out,fun _ h=>h,fun _ h=>.inl h⟩,by rw[fZ];exact O0.out,aa.refl _ _⟩
 case round=>
  obtain⟨k,hk,rfl,hI⟩:=hrel;obtain⟨wo,rfl⟩:∃ wo:World,wo=wr:=⟨_,rfl⟩;have HI:=hid hI;clear hI;by_cases hlt:k<n
  ·have eT:(k:Int)<n:=by omega
   obtain⟨t,dL⟩:∃ t,l[k]? =some t:=⟨_,List.getElem?_eq_getElem (by have:=Zi.out;omega)⟩;have uU:∀ x,x<n0->¬F x:=fun x hx e=>by have:=(HM.out.lt x e).1;omega
   obtain⟨b,off,p',c',rfl,hb,hbw2,lH,⟨e0,e1,e2,e3,e4,e5,e6,e7⟩,hrt⟩:=HR.out.elem dL;have qu:=hid dL;have KO:Hid (aa (fun x=>x<w.heap.size/\¬F x) w wo):=hid ((E0.out.keeps.mono fun x hx=>hx.1).tr (HI.out.2.2.mono fun x hx=>⟨by have:=hx.1;omega,hx.2,by have:=hx.1;omega⟩));have ec:∀ (o:Nat) (u:Value),w.cell? ⟨b,o,none⟩=some u->wo.cell? ⟨b,o,none⟩=some u:=fun o u h=>(KO.out.cell (p:=⟨b,o,none⟩) ⟨hbw2,uU b hb⟩).trans h
   replace e0:=ec _ _ e0;replace e1:=ec _ _ e1;replace e2:=ec _ _ e2;replace e3:=ec _ _ e3;replace e4:=ec _ _ e4;replace e5:=ec _ _ e5;replace e6:=ec _ _ e6;replace e7:=ec _ _ e7;have Pv:wo.cell? ⟨X,0,none⟩=some (.pointer (some ⟨M,0,none⟩)):=(KO.out.cell (p:=⟨X,0,none⟩) ⟨Jn,U5.out⟩).trans HX.out;have Zj:=hid Pv;have Pj:b<wo.heap.size:=World.block_lt_of_cell? _ _ e0;have QQ:Hid (aF (· <n0) wo (.agg (ai t.kind t.set t.mn t.mx (.slice p' t.subs.length c'))) t):=hid (hrt.keeps KO.out fun x hx=>⟨by omega,uU x hx⟩);clear ec dL hrt uU Pv;go_upto_region 5 with fail
   refine ax ?_;intro W1 hW1;have N1:Hid (ah W1 wo.heap.size (ai t.kind t.set t.mn t.mx (.slice p' t.subs.length c')) 62):=by rw[hW1];exact hid (ah.new _ _ _)
   have E1:Hid (Ext wo W1):=by rw[hW1];exact hid ((Ext.refl wo).alloc _)
   clear hW1 e0 e1 e2 e3 e4 e5 e6 e7;have e0:W1.cell? ⟨wo.heap.size,0,none⟩=some (.int .u8 t.kind):=N1.out.cell 0;have e1:W1.cell? ⟨wo.heap.size,1,none⟩=some (.int .u64 (wd t.set 0).toNat):=N1.out.cell 1;have e2:W1.cell? ⟨wo.heap.size,2,none⟩=some (.int .u64 (wd t.set 1).toNat):=N1.out.cell 2;have e3:W1.cell? ⟨wo.heap.size,3,none⟩=some (.int .u64 (wd t.set 2).toNat):=N1.out.cell 3;have e4:W1.cell? ⟨wo.heap.size,4,none⟩=some (.int .u64 (wd t.set 3).toNat):=N1.out.cell 4;have e5:W1.cell? ⟨wo.heap.size,5,none⟩=some (.int .i64 t.mn):=N1.out.cell 5;have e6:W1.cell? ⟨wo.heap.size,6,none⟩=some (.int .i64 t.mx):=N1.out.cell 6;have e7:W1.cell? ⟨wo.heap.size,7,none⟩=some (.slice p' t.subs.length c'):=N1.out.cell 7;have Pv:W1.cell? ⟨X,0,none⟩=some (.pointer (some ⟨M,0,none⟩)):=(E1.out.keeps.cell (p:=⟨X,0,none⟩) (World.block_lt_of_cell? _ _ Zj.out)).trans Zj.out;obtain⟨⟨F',tV,Jq,hF2⟩,hO,Cm⟩:=HI.out;have bn:=Ng Pu.out kN.out false k;have hcs:=yf qu.out;have Ql:=ye l (k+1);have my:=Jo qu.out (m,(⟨0,0,false⟩:GP));have CM:Hid (Calls Tryz.prog 77 #[.pointer (some ⟨M,0,none⟩),.agg (ai t.kind t.set t.mn t.mx (.slice p' t.subs.length c'))] W1 (iE base M F' W1 (t.cN (RX.eY (l.take k) (m,⟨0,0,false⟩)).1).1 (t.cN (RX.eY (l.take k) (m,⟨0,0,false⟩)).1).2)):=hid (HT.out t (List.mem_of_getElem? qu.out) base M F' _ W1 _ dp (tV.keeps E1.out.keeps fun x hx=>(tV.lt x hx).2) (QQ.out.keeps E1.out.keeps fun x hx=>by have:=KO.out.size;omega) bn.ok bn.ok.len (by rw[bn.len];omega));clear bn hcs Ql;obtain⟨sk,hsk⟩:∃ sk,sk=RX.eY (l.take k) (m,(⟨0,0,false⟩:GP)):=⟨_,rfl⟩;rw[<-hsk]at CM hO tV my;obtain⟨m2,p2,sB⟩:∃ m2 p2,t.cN sk.1=(m2,p2):=⟨_,_,rfl⟩;rw[sB]at CM my;dsimp only at CM my;have QS:=hid my;have Nj:¬F' (w.heap.size+1+1):=fun e=>by rcases hF2 _ e with h | h;exact absurd (HM.out.lt _ h).2 (by omega);omega
   have O1:=hid (hO.ext E1.out);have SQ:=hid Jq;have Dy:=hid hF2;have Jr:=hid Cm;have rX:=hid Nj;clear my sB hsk hO tV Jq hF2 Cm Nj HI;go_wp2_with fail
   refine CM.out.mono ?_;rintro e w2 ⟨rfl,hF'',hx,hsz⟩;have O2:=hid (O1.out.keeps hx ⟨O1.out.lt,rX.out⟩);have adz:=hid hF'';have QT:=hid hx;clear hF'' hx CM e0 e1 e2 e3 e4 e5 e6 e7 Pv;unfold aw;go_upto_region 6 with fail
   refine ax ?_;intro W3 hW3;have X3:Hid (ah W3 w2.heap.size (aw p2) 139):=by rw[hW3];exact hid (ah.new _ _ _)
   have E3:Hid (Ext w2 W3):=by rw[hW3];exact hid ((Ext.refl w2).alloc _)
   have O3:=hid (O2.out.ext E3.out);have hO2:w.heap.size+1+1<w2.heap.size:=O2.out.lt;clear hW3 O1 O2;obtain⟨a0,a1,a2,a3,a4,a5,a6,a7,a8,a9,iQ,iR,a12,iT,gT⟩:=X3.out.part;obtain⟨o0,o1,o2,o3,o4,o5,o6,o7,o8,o9,oA,oB,oC,oD,og⟩:=O3.out.part;obtain⟨z0,z1,z2,z3,z4,z5,z6,z7,z8,z9,z10,z11,z12,z13,z14⟩:=O3.out.mf
   try dsimp only at o0 o1 o2 o3 o4 o5 o6 o7 o8 o9 oA oB oC oD og
   go_wp2_with fail
   clear a0 a1 a2 a3 a4 a5 a6 a7 a8 a9 iQ iR a12 iT gT o0 o1 o2 o3 o4 o5 o6 o7 o8 o9 oA oB oC oD og z0 z1 z2 z3 z4 z5 z6 z7 z8 z9 z10 z11 z12 z13 z14;refine(iD (bW sk.2.fst) (bW p2.fst) (w.heap.size+1+1) 0 W3 (fe.fst O3.out) (fun i _=>O3.out.frozen _)).mono ?_;rintro e w4 ⟨⟨u,rfl⟩,hx⟩;have O4:Hid (ah w4 (w.heap.size+1+1) (aw ⟨sk.2.fst ||| p2.fst,sk.2.ct,sk.2.emp⟩) 139):=hid ((nV O3.out (sk.2.fst ||| p2.fst) (fun i _=>(uL sk.2.fst p2.fst i).symm)).keeps hx O3.out.lt);have K4:Hid (aa (fun x=>x<W3.heap.size/\x≠w.heap.size+1+1) W3 w4):=hid (((cg _ _ _ _ _:aa (· ≠w.heap.size+1+1) W3 _).mono fun x hx=>hx.2).tr (hx.mono fun x hx=>hx.1));have X4:=hid (X3.out.keeps K4.out ⟨X3.out.lt,by omega⟩);clear hx;obtain⟨a0,a1,a2,a3,a4,a5,a6,a7,a8,a9,iQ,iR,a12,iT,gT⟩:=X4.out.part;obtain⟨o0,o1,o2,o3,o4,o5,o6,o7,o8,o9,oA,oB,oC,oD,og⟩:=O4.out.part;obtain⟨z0,z1,z2,z3,z4,z5,z6,z7,z8,z9,z10,z11,z12,z13,z14⟩:=O4.out.mf
   try dsimp only at o0 o1 o2 o3 o4 o5 o6 o7 o8 o9 oA oB oC oD og
   go_wp2_with fail
   clear a0 a1 a2 a3 a4 a5 a6 a7 a8 a9 iQ iR a12 iT gT o0 o1 o2 o3 o4 o5 o6 o7 o8 o9 oA oB oC oD og z0 z1 z2 z3 z4 z5 z6 z7 z8 z9 z10 z11 z12 z13 z14;refine(iD (bW sk.2.ct) (bW p2.ct) (w.heap.size+1+1) 7 w4 (fe.ct (a:=⟨sk.2.fst ||| p2.fst,sk.2.ct,sk.2.emp⟩) O4.out) (fun i _=>O4.out.frozen _)).mono ?_;rintro e w5 ⟨⟨u,rfl⟩,hx⟩;have O5:Hid (ah w5 (w.heap.size+1+1) (aw ⟨sk.2.fst ||| p2.fst,sk.2.ct ||| p2.ct,sk.2.emp⟩) 139):=hid ((nW O4.out (sk.2.ct ||| p2.ct) (fun i _=>(uL sk.2.ct p2.ct i).symm)).keeps hx O4.out.lt);have K5:Hid (aa (fun x=>x<W3.heap.size/\x≠w.heap.size+1+1) W3 w5):=hid (K4.out.tr (((cg _ _ _ _ _:aa (· ≠w.heap.size+1+1) w4 _).mono fun x hx=>hx.2).tr (hx.mono fun x hx=>by have:=K4.out.size;exact Nat.lt_of_lt_of_le hx.1 this)));have X5:=hid (X3.out.keeps K5.out ⟨X3.out.lt,by omega⟩);clear hx;obtain⟨a0,a1,a2,a3,a4,a5,a6,a7,a8,a9,iQ,iR,a12,iT,gT⟩:=X5.out.part;obtain⟨o0,o1,o2,o3,o4,o5,o6,o7,o8,o9,oA,oB,oC,oD,og⟩:=O5.out.part;obtain⟨z0,z1,z2,z3,z4,z5,z6,z7,z8,z9,z10,z11,z12,z13,z14⟩:=O5.out.mf
   try dsimp only at o0 o1 o2 o3 o4 o5 o6 o7 o8 o9 oA oB oC oD og
   obtain⟨eb,Fx⟩:∃ eb,eb=sk.2.emp:=⟨_,rfl⟩;rw[<-Fx]at og;have U6:=hid Fx;clear Fx;cases eb;all_goals
    go_wp2;go_roundw;case rel=>
     refine⟨k+1,by omega,by go_num,?_⟩;rw[QS.out];obtain⟨F'',g1,g2,g3⟩:=adz.out;have h1:=E1.out.keeps.size;have h2:=Jr.out.size;have h3:=E3.out.keeps.size;have K6:=K5.out.setCell (p:=⟨w.heap.size+1+1,14,none⟩) (fun h=>h.2 rfl) (.bool (sk.2.emp || p2.emp));have O6:=O5.out.set 14 (.bool (sk.2.emp || p2.emp));have adA:¬F'' (w.heap.size+1+1):=fun e=>by rcases g3 _ e with h | h;exact rX.out h;omega
     rw[<-U6.out]at K6 O6 ⊢;simp only[Bool.false_or,Bool.true_or]at K6 O6 ⊢;refine⟨⟨F'',(g1.keeps E3.out.keeps fun x hx=>(g1.lt x hx).2).keeps K6 fun x hx=>⟨by have:=(g1.lt x hx).2;omega,fun e=>adA (e▸hx)⟩,fun x h=>g2 x (SQ.out x h),fun x h=>by rcases g3 x h with h | h;exact Dy.out x h;exact .inr (by omega)⟩,O6,?_⟩;exact Jr.out.tr ((E1.out.keeps.mono fun x hx=>by have:=hx.1;omega).tr ((QT.out.mono fun x hx=>⟨by have:=hx.1;omega,fun e=>by rcases Dy.out x e with h | h;exact hx.2.1 h;have:=hx.1;omega⟩).tr ((E3.out.keeps.mono fun x hx=>by have:=hx.1;omega).tr (K6.mono fun x hx=>⟨by have:=hx.1;omega,hx.2.2⟩))))
    case measure=>simp[intOf];omega
  ·obtain rfl:k=n:=by omega
   have GK:¬ ((k:Int)<k):=by omega
   obtain⟨hF',hO,hK⟩:=HI.out;rw[Zi.out,List.take_length, <-HST.out]at hF' hO;have Nf:=hid hF';have O3:=hid hO;have HK:=hid hK;have R3:Hid (ah wo (w.heap.size+1) (zeroV false) 139):=hid (R0.out.keeps hK ⟨R0.out.lt,fun e=>by have:=(HM.out.lt _ e).2;omega,by omega⟩);clear hF' hO hK HI;go_wp2_with (first | (refine aN rfl 139 (.tmp 4) rfl (w.heap.size+1+1) rfl (aw st.2) _ O3.out.range Tryz.underlying139 rfl (aY _) ?_) | (refine wpList_store_row rfl 139 (.tmp 3) (.tmp 34) rfl (w.heap.size+1) (aw st.2) rfl rfl 139 (zeroV false) R3.out (aY _) rfl (dI _) ?_;refine Hid.out ?_));refine hid ?_;obtain⟨V3,cD⟩:∃ W,W=wo.setRow (w.heap.size+1) (aw st.2):=⟨_,rfl⟩;rw[<-cD];have R9:Hid (ah V3 (w.heap.size+1) (aw st.2) 139):=by rw[cD];exact hid R3.out.setRow
   have K9:aa (· ≠w.heap.size+1) wo V3:=by rw[cD];exact bh _ _ _
   clear cD;go_wp2;obtain⟨m0,m1,m2,m3,m4,m5,m6,m7,m8,m9,m10,m11,m12,m13,m14⟩:=R9.out.part;refine bodyPost_ret (v:=.agg (aw st.2)) (by simp[results,Tryz.results131,aw,go_sem,m0,m1,m2,m3,m4,m5,m6,m7,m8,m9,m10,m11,m12,m13,m14]) rfl ⟨rfl,?_,?_,?_⟩
   ·obtain⟨F',h1,h2,h3⟩:=Nf.out
    exact⟨F',h1.keeps K9 fun x hx e=>by(rcases h3 x hx with h | h; · exact absurd (HM.out.lt x h).2 (by omega));omega,h2,fun x hx=>(h3 x hx).imp id fun h=>by omega⟩
   ·exact(E0.out.keeps.mono fun x hx=>hx.1).tr ((HK.out.mono fun x hx=>⟨by have:=hx.1;omega,hx.2,by have:=hx.1;omega⟩).tr (K9.mono fun x hx=>by have:=hx.1;omega))
   ·have:=K9.size;have:=HK.out.size;omega
end Go.Proofs.YtalombmiochpmaaGreatDoor
