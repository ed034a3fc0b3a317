/- The maker of automata of positions: an alternative. -/
import Derived.Test.YtalombmiochpmaaGreatDoorOR20
set_option maxRecDepth 100000
set_option maxHeartbeats 16000000
open Go.Lib (hid)
namespace Go.Proofs.YtalombmiochpmaaGreatDoor
section
open Go Go.RowKit Go.Shelf Go.Maps
theorem Tryz.Tt:(Tryz.prog.info? 137).map (fun i=>(i.zero,i.size,i.bytes))=some (some (.agg #[.int .u64 0,.int .u64 0,.int .u64 0,.int .u64 0,.int .u64 0,.int .u64 0,.int .u64 0]),7,56):=by kernel_rfl
def ir:Array Value:= #[.int .u64 0,.int .u64 0,.int .u64 0,.int .u64 0,.int .u64 0,.int .u64 0,.int .u64 0]
theorem Li:ey [0]=ir.toList:=by
 have e:cM (bW (0:PB))=ir:=by unfold cM ir;simp only[MU];rfl
 unfold ey;rw[List.flatMap_cons,e];rfl
def McD (base n mb:Nat) (sv fv:Value) (S0 F0:List Value) (j:Nat) (W:World):Prop:=j∈ [5,9,13,16,19]->ah W mb #[sv,fv] 135/\(j=9->W.ownsRow base 59 4 sv n S0)/\(j=16->W.ownsRow base 137 7 fv n F0)
theorem McD.alloc {base n mb:Nat} {sv fv:Value} {S0 F0:List Value} {j:Nat} {W:World} (h:McD base n mb sv fv S0 F0 j W) (o:Obj):McD base n mb sv fv S0 F0 j (W.alloc o):=fun e=>⟨(h e).1.alloc _,fun e2=>((h e).2.1 e2).alloc _,fun e2=>((h e).2.2 e2).alloc _⟩
theorem Lj (base M:Nat) (F:Nat->Prop) (m:GM) (s:BS) (mn mx:Int) (a:Value) (X:Nat) (w:World) (h:gM base M F w m) (hX:w.cell? ⟨X,0,none⟩=some (.pointer (some ⟨M,0,none⟩))) (Iq:¬F X) (hm:m.cN.length=m.aM.length) (hn:m.aM.length<448): Calls Tryz.prog 127 #[.agg (au 2 s mn mx a),.pointer (some ⟨X,0,none⟩)] w fun e w'=>e=.returned (.agg (ax ⟨eZ m.aM.length,eZ m.aM.length,false⟩))/\(∃ F',gM base M F' w' ⟨m.aM++ [s],m.cN++ [0]⟩/\(∀ x,F x->F' x)/\∀ x,F' x->F x\/w.heap.size<=x)/\aa (fun x=>x<w.heap.size/\¬F x) w w':=by
 obtain⟨iS,hiS,NT,NU,NV⟩:=info_parts Tryz.BU;obtain⟨iB,Qp,wY,tJ,yK⟩:=info_parts Tryz.Tt;obtain⟨sv,fv,h1,h2,h3,h4,h5⟩:=h.row;rw[hm]at h4;obtain⟨n,oV⟩:∃ n,n=m.aM.length:=⟨_,rfl⟩;rw[<-oV]at h2 h4 hn ⊢;obtain⟨sa,sc,rfl⟩:=ownsRow_form h2;obtain⟨fa,fc,rfl⟩:=ownsRow_form h4;have HM:=hid h;have B1:=hid h1;have O1:=hid h2;have P1:=hid h4;have S3:=hid h3;have S5:=hid h5;have vu:=hid oV;have MP:=hid hm;have YF:M<w.heap.size:=h1.lt;have OZ:X<w.heap.size:=World.block_lt_of_cell? _ _ hX;have hXM:X≠M:=fun e=>Iq (by rw[e];exact h.fm)
 have rK:base<=w.heap.size:=Nat.le_of_lt (Nat.lt_of_le_of_lt (h.lt M h.fm).1 YF);have HX:=hid hX;have HXF:=hid Iq;have c0:w.cell? ⟨M,0,none⟩=some (.slice sa n sc):=h1.cell 0;have c1:w.cell? ⟨M,1,none⟩=some (.slice fa n fc):=h1.cell 1;clear h h1 h2 h3 h4 h5 hm oV hX Iq;have hX:=HX.out;unfold au;go_enter Tryz.func127,Tryz.ntmps127;go_upto_region 2 with fail
 refine aw ?_;intro V hV;have N0:Hid (ah V w.heap.size #[.int .u8 2,.int .u64 (wd s 0).toNat,.int .u64 (wd s 1).toNat,.int .u64 (wd s 2).toNat,.int .u64 (wd s 3).toNat,.int .i64 mn,.int .i64 mx,a] 62):=by rw[hV];exact hid (((ah.new _ _ _).alloc _).alloc _)
 have R0:Hid (ah V (w.heap.size+1) (zeroV false) 139):=by rw[hV];exact hid ((ah.at (ah.new _ _ _) (by simp)).alloc _)
 have Q0:Hid (ah V (w.heap.size+1+1) (zeroV false) 139):=by rw[hV];exact hid (ah.at (ah.new _ _ _) (by simp))
 have E0:Hid (Ext w V):=by rw[hV];exact hid ((((Ext.refl w).alloc _).alloc _).alloc _)
 have hsz:V.heap.size=w.heap.size+1+1+1:=by rw[hV];simp
 clear hV c0 c1 hX;have BV:=hid (B1.out.ext E0.out);have OV:=hid (aq O1.out E0.out.below);have PV:=hid (aq P1.out E0.out.below);have nB:=hid hsz;have Vf:Hid (V.cell? ⟨X,0,none⟩=some (.pointer (some ⟨M,0,none⟩))):=hid ((E0.out.keeps.cell (p:=⟨X,0,none⟩) OZ).trans HX.out);have c0:V.cell? ⟨M,0,none⟩=some (.slice sa n sc):=BV.out.cell 0;have c1:V.cell? ⟨M,1,none⟩=some (.slice fa n fc):=BV.out.cell 1;have hX:=Vf.out;clear hsz;go_upto_region 3 with fail
 refine RegQ.aY (sT (.slice fa n fc) V.heap.size base n M F (aN m.aM++(encS s).toList) (ey m.cN++ir.toList) (encS s) ir) sT.drew (fun _ _ _ h k=>h.trans k) (by kernel_rfl) 20 [0,0,0,4,12,28,0,64,192,508,0,1024,3072,7168,0,16384,65532,131069,262141,524285,1048575,2097151,4194303] (fun i=>i==5 || i==8 || i==9 || i==13 || i==15 || i==16 || i==19 || i==22) (by kernel_rfl) (fun i=>if i=5 then aH.gU _ (.slice sa n sc)else if i=8 then tS.box _ _ _ _ _ _ _ _ _ _ else if i=9 then tS.aeY _ _ _ _ _ _ _ _ _ _ (.slice sa n sc)else if i=13 then aH.gU _ (.slice fa n fc)else if i=15 then tS.aeX _ _ _ _ _ _ _ _ _ _ else if i=16 then tS.aeZ _ _ _ _ _ _ _ _ _ _ else if i=19 then tS.sto _ _ _ _ _ _ _ _ _ _ (.slice sa n sc)else aH.any _) (McD base n M (.slice sa n sc) (.slice fa n fc) (aN m.aM) (ey m.cN)) (fun _ _ _=>⟨BV.out,fun _=>OV.out,fun _=>PV.out⟩) ?_;intro C hC hne;have HC:=hid hC;have hVw:w.heap.size<=V.heap.size:=by rw[nB.out];omega
 have hXv:X<V.heap.size:=by rw[nB.out];omega
 have fX:∀ W: {W//C W},W.1.cell? ⟨X,0,none⟩=some (.pointer (some ⟨M,0,none⟩)):=fun W=>(((hC W.1).1 W.2).keep.cell (p:=⟨X,0,none⟩) ⟨hXv,hXv,HXF.out⟩).trans hX
 have hnV:¬F w.heap.size:=fun e=>by have:=(HM.out.lt _ e).2;omega
 have g1:∀ W: {W//C W},W.1.cell? ⟨w.heap.size,1,none⟩=some (.int .u64 (wd s 0).toNat):=fun W=>(((hC W.1).1 W.2).keep.cell (p:=⟨w.heap.size,1,none⟩) ⟨N0.out.lt,N0.out.lt,hnV⟩).trans (N0.out.cell 1)
 have g2:∀ W: {W//C W},W.1.cell? ⟨w.heap.size,2,none⟩=some (.int .u64 (wd s 1).toNat):=fun W=>(((hC W.1).1 W.2).keep.cell (p:=⟨w.heap.size,2,none⟩) ⟨N0.out.lt,N0.out.lt,hnV⟩).trans (N0.out.cell 2)
 have g3:∀ W: {W//C W},W.1.cell? ⟨w.heap.size,3,none⟩=some (.int .u64 (wd s 2).toNat):=fun W=>(((hC W.1).1 W.2).keep.cell (p:=⟨w.heap.size,3,none⟩) ⟨N0.out.lt,N0.out.lt,hnV⟩).trans (N0.out.cell 3)
 have g4:∀ W: {W//C W},W.1.cell? ⟨w.heap.size,4,none⟩=some (.int .u64 (wd s 3).toNat):=fun W=>(((hC W.1).1 W.2).keep.cell (p:=⟨w.heap.size,4,none⟩) ⟨N0.out.lt,N0.out.lt,hnV⟩).trans (N0.out.cell 4)
 clear hC c0 c1 hX
 repeat (refine RegQ.ae (fun K hK=>?_);first | (refine RegQ.aR rfl ?_;try go_simp;refine hK _ _ ?_;clear hK K) | (refine RegQ.aO rfl rfl ?_;unfold ai;go_simp;refine hK _ _ ?_;clear hK K))
 refine RegQ.ae (fun K hK=>?_);refine RegQ.bg rfl rfl (aH.gU _ (.slice sa n sc)) rfl (fun W hW hD hN=>?_) (fun v hv=>?_)
 ·have hD:=(hD (by decide)).1.cell 0
  have hD:W.cell? ⟨M,0,none⟩=some (.slice sa n sc):=hD;clear hW hN hK K;go_simp;exact⟨⟨sT.below (Below.refl _ _),fun j=>by intros;assumption⟩,rfl,trivial⟩
 replace hv:v=_:=hv;subst hv;go_simp;refine hK _ _ ?_;clear hK K
 repeat (refine RegQ.ae (fun K hK=>?_);first | (refine RegQ.aR rfl ?_;try go_simp;refine hK _ _ ?_;clear hK K) | (refine RegQ.aO rfl rfl ?_;unfold ai;go_simp;refine hK _ _ ?_;clear hK K))
 refine RegQ.ae (fun K hK=>?_);refine RegQ.bg rfl rfl (tS.box (.slice fa n fc) V.heap.size base n M F (aN m.aM++(encS s).toList) (ey m.cN++ir.toList) (encS s) ir) rfl (fun W hW hD hN=>?_) (fun v hv=>?_)
 ·have hMz:=((HC.out W).1 hW).size
  clear hW hN hK K;go_simp;exact⟨⟨sT.below ((Ext.refl _).alloc _).below,fun j _ _ h=>h.alloc _⟩,⟨_,by omega,rfl⟩,fun b hb=>by cases hb;exact ah.new _ _ _⟩
 obtain⟨bx,GN,rfl⟩:=hv;go_simp;refine hK _ _ ?_;clear hK K;refine RegQ.ae (fun K hK=>?_);refine RegQ.bg rfl rfl (tS.aeY (.slice fa n fc) V.heap.size base n M F (aN m.aM++(encS s).toList) (ey m.cN++ir.toList) (encS s) ir (.slice sa n sc)) rfl (fun W hW hD hN=>?_) (fun v hv=>?_)
 ·have hMz:=((HC.out W).1 hW).size
  have rK:ah W bx (encS s) 59:=hN.at 0 rfl (by kernel_rfl) bx rfl;obtain⟨JB,hDo,_⟩:=hD (by decide);have HBW:=hid rK;have Tu:=hid JB;have pW:=hid (hDo rfl);clear hW hN hK K rK JB hDo hD;refine nO (.tmp 16) (.tmp 19) 25 rfl base 59 iS _ 4 32 Tryz.underlying25 hiS NT NU NV rfl (by decide) (.slice sa n sc) n (aN m.aM) rfl pW.out ⟨bx,0,none⟩ 1 1 (encS s).toList rfl (bU HBW.out) rfl (by intro u hu;simp[encS]at hu;rcases hu with rfl | rfl | rfl | rfl<;>rfl) (by unfold maxLen;omega) (by omega) (by omega) (by decide) ?_;intro v' w2 ho hg lY;refine⟨⟨sT.apS pW.out (fun x e=>⟨by rw[nB.out];have:=(O1.out.lt x e).2;omega,S3.out x e⟩) Tu.out ho hg (lY.imp (fun h=>h.1) id),fun j hj _ h e=>⟨(h e).1.grown hg (fun e2=>dA Tu.out pW.out (by decide) M e2.symm rfl),fun e2=>absurd e2 hj,fun e2=>((h e).2.2 e2).kept hg (ownBlock_ne (by decide) ((h e).2.2 e2) pW.out)⟩⟩,ownsRow_form ho,ho,?_⟩;rcases lY with⟨_,h⟩ | ⟨g,cap,h1,h2,_⟩
  ·exact .inr fun x hx=>by rw[h]at hx;cases hx;omega
  ·exact .inl (by rw[h2,h1];rfl)
 obtain⟨s1,s2,rfl⟩:=hv;go_simp;refine hK _ _ ?_;clear hK K
 repeat (refine RegQ.ae (fun K hK=>?_);first | (refine RegQ.aR rfl ?_;try go_simp;refine hK _ _ ?_;clear hK K) | (refine RegQ.aO rfl rfl ?_;unfold ai;go_simp;refine hK _ _ ?_;clear hK K))
 refine RegQ.ae (fun K hK=>?_);refine RegQ.bg rfl rfl (aH.gU _ (.slice fa n fc)) rfl (fun W hW hD hN=>?_) (fun v hv=>?_)
 ·have hD:=(hD (by decide)).1.cell 1
  have hD:W.cell? ⟨M,1,none⟩=some (.slice fa n fc):=hD;clear hW hN hK K;go_simp;exact⟨⟨sT.below (Below.refl _ _),fun j=>by intros;assumption⟩,rfl,trivial⟩
 replace hv:v=_:=hv;subst hv;go_simp;refine hK _ _ ?_;clear hK K
 repeat (refine RegQ.ae (fun K hK=>?_);first | (refine RegQ.aR rfl ?_;try go_simp;refine hK _ _ ?_;clear hK K) | (refine RegQ.aO rfl rfl ?_;unfold ai;go_simp;refine hK _ _ ?_;clear hK K))
 refine RegQ.ae (fun K hK=>?_);refine RegQ.bg rfl rfl (tS.aeX (.slice fa n fc) V.heap.size base n M F (aN m.aM++(encS s).toList) (ey m.cN++ir.toList) (encS s) ir) rfl (fun W hW hD hN=>?_) (fun v hv=>?_)
 ·have hMz:=((HC.out W).1 hW).size
  clear hW hN hK K;go_simp;exact⟨⟨sT.below ((Ext.refl _).alloc _).below,fun j _ _ h=>h.alloc _⟩,⟨_,by omega,rfl⟩,fun b hb=>by cases hb;exact ah.new _ _ _⟩
 obtain⟨by_,arI,rfl⟩:=hv;go_simp;refine hK _ _ ?_;clear hK K;refine RegQ.ae (fun K hK=>?_);refine RegQ.bg rfl rfl (tS.aeZ (.slice fa n fc) V.heap.size base n M F (aN m.aM++(encS s).toList) (ey m.cN++ir.toList) (encS s) ir) rfl (fun W hW hD hN=>?_) (fun v hv=>?_)
 ·have hMz:=((HC.out W).1 hW).size
  have rK:ah W by_ ir 137:=hN.at 0 rfl (by kernel_rfl) by_ rfl;obtain⟨JB,_,hDo⟩:=hD (by decide);have HBW:=hid rK;have Tu:=hid JB;have pW:=hid (hDo rfl);clear hW hN hK K rK JB hDo hD;refine nO (.tmp 24) (.tmp 26) 133 rfl base 137 iB _ 7 56 Tryz.underlying133 Qp wY tJ yK rfl (by decide) (.slice fa n fc) n (ey m.cN) rfl pW.out ⟨by_,0,none⟩ 1 1 ir.toList rfl (bU HBW.out) rfl (by intro u hu;simp[ir]at hu;subst hu;rfl) (by unfold maxLen;omega) (by omega) (by omega) (by decide) ?_;intro v' w2 ho hg lY;refine⟨⟨sT.apF pW.out (fun x e=>⟨by rw[nB.out];have:=(P1.out.lt x e).2;omega,S5.out x e⟩) Tu.out ho hg (lY.imp (fun h=>h.1) id),fun j hj _ h e=>⟨(h e).1.grown hg (fun e2=>dA Tu.out pW.out (by decide) M e2.symm rfl),fun e2=>((h e).2.1 e2).kept hg (ownBlock_ne (by decide) ((h e).2.1 e2) pW.out),fun e2=>absurd e2 hj⟩⟩,ownsRow_form ho,ho,?_⟩;rcases lY with⟨_,h⟩ | ⟨g,cap,h1,h2,_⟩
  ·exact .inr fun x hx=>by rw[h]at hx;cases hx;omega
  ·exact .inl (by rw[h2,h1];rfl)
 obtain⟨f1,f2,rfl⟩:=hv;go_simp;refine hK _ _ ?_;clear hK K
 repeat (refine RegQ.ae (fun K hK=>?_);first | (refine RegQ.aR rfl ?_;try go_simp;refine hK _ _ ?_;clear hK K) | (refine RegQ.aO rfl rfl ?_;unfold ai;go_simp;refine hK _ _ ?_;clear hK K))
 refine RegQ.ae (fun K hK=>?_);refine RegQ.bg rfl rfl (tS.sto (.slice fa n fc) V.heap.size base n M F (aN m.aM++(encS s).toList) (ey m.cN++ir.toList) (encS s) ir (.slice sa n sc)) rfl (fun W hW hD hN=>?_) (fun v hv=>?_)
 ·have hrow:W.ownsRow base 59 4 (.slice s1 (n+1) s2) (n+1) (aN m.aM++(encS s).toList)/\((Value.slice s1 (n+1) s2).ownBlock=(Value.slice sa n sc).ownBlock\/∀ x,(Value.slice s1 (n+1) s2).ownBlock=some x->V.heap.size<=x):=hN.at 3 rfl (by kernel_rfl)
  obtain⟨JB,_⟩:=hD (by decide);have Tu:=hid JB;have gY:=hid hrow;have hc0:W.cell? ⟨M,0,none⟩=some (.slice sa n sc):=Tu.out.cell 0;have hz0:=Tu.out.frozen 0;have hFM:=HM.out.fm;clear hW hN hK K hrow JB hD;go_simp;refine⟨⟨sT.store _ Tu.out ⟨_,_,rfl⟩ hFM (by omega),fun j hj hb h e=>?_⟩,trivial,_,_,Tu.out.set 0 _,?_,gY.out.2⟩
  ·exfalso
   simp at e;rcases e with rfl | rfl | rfl | rfl | rfl
   ·revert hb;decide
   ·revert hb;decide
   ·revert hb;decide
   ·revert hb;decide
   ·exact hj rfl
  ·exact aj gY.out.1 ((aa.refl (· ≠M) W).setCell (p:=⟨M,0,none⟩) (fun h=>h rfl) _) fun x hx=>dA Tu.out gY.out.1 (by decide) x hx
 go_simp;refine hK _ _ ?_;clear hK K;refine RegQ.bh (fun W hW hH=>?_);have lH:=(HC.out W).1 hW;obtain⟨ta,tc,hb1,hrow,lY⟩:∃ a c,ah W M #[.slice a (n+1) c,.slice fa n fc] 135/\W.ownsRow base 59 4 (.slice a (n+1) c) (n+1) (aN m.aM++(encS s).toList)/\((Value.slice a (n+1) c).ownBlock=(Value.slice sa n sc).ownBlock\/∀ x,(Value.slice a (n+1) c).ownBlock=some x->V.heap.size<=x):=hH _ (List.mem_of_getElem? (show _=some _ from rfl:_[0]? =some _));have FW:Hid (W.ownsRow base 137 7 (.slice f1 (n+1) f2) (n+1) (ey m.cN++ir.toList)/\((Value.slice f1 (n+1) f2).ownBlock=(Value.slice fa n fc).ownBlock\/∀ x,(Value.slice f1 (n+1) f2).ownBlock=some x->V.heap.size<=x)):=hid (hH _ (List.mem_of_getElem? (show _=some _ from rfl:_[1]? =some _)));have BW:=hid hb1;have SW:=hid hrow;have SWo:=hid lY;have KV:=hid lH.keep;have hWs:V.heap.size<=W.heap.size:=lH.size;clear lH hW hH HC hne fX g1 g2 g3 g4 hb1 hrow lY;have k0:W.cell? ⟨M,0,none⟩=some (.slice ta (n+1) tc):=BW.out.cell 0;have k1:W.cell? ⟨M,1,none⟩=some (.slice fa n fc):=BW.out.cell 1;have z1:=BW.out.frozen 1;go_upto_region 4 with fail
 refine aw ?_;intro W2 hW2;have hk2:aa (· ≠M) W W2:=by rw[hW2];exact(aa.refl (· ≠M) W).setCell (p:=⟨M,1,none⟩) (fun h=>h rfl) _
 have BM:Hid (ah W2 M #[.slice ta (n+1) tc,.slice f1 (n+1) f2] 135):=hid (by rw[hW2];exact BW.out.set 1 _);have S2:=hid (aj SW.out hk2 fun x hx=>dA BW.out SW.out (by decide) x hx);have F2:=hid (aj FW.out.1 hk2 fun x hx=>dA BW.out FW.out.1 (by decide) x hx);have KA:Hid (aa (fun x=>x<V.heap.size/\¬F x) V W2):=hid ((KV.out.mono fun x hx=>⟨hx.1,hx.1,hx.2⟩).tr (hk2.mono fun x hx e=>hx.2 (by rw[e];exact HM.out.fm)));clear hW2 hk2 k0 k1 z1 BW SW KV;have qY:∀ k,w.heap.size<=k->¬F k:=fun k hk e=>by have:=(HM.out.lt k e).2;omega
 have hV2:w.heap.size+1+1<V.heap.size:=by rw[nB.out];omega
 have hV1:w.heap.size+1<V.heap.size:=by rw[nB.out];omega
 have R2:Hid (ah W2 (w.heap.size+1) (zeroV false) 139):=hid (R0.out.keeps KA.out ⟨hV1,qY _ (by omega)⟩);obtain⟨z,hz⟩:∃ z:PB,z=0:=⟨_,rfl⟩;have jH:=jq false;rw[<-hz]at jH;have Q2:Hid (ah W2 (w.heap.size+1+1) (ax ⟨z,z,false⟩) 139):=hid (by rw[jH];exact Q0.out.keeps KA.out ⟨hV2,qY _ (by omega)⟩);have hzb:z ||| eZ n=eZ n:=by rw[hz];exact BitVec.zero_or
 have HZB:=hid hzb;have MR:=hid qY;clear hz jH hzb qY R0 Q0;go_wp2_with fail
 refine(Dg (bW z) (w.heap.size+1+1) 0 n hn W2 (ij.fst Q2.out) (Q2.out.frozen _)).mono ?_;rintro e w3 ⟨⟨u,rfl⟩,hx⟩;have kk:aa (fun x=>x<W2.heap.size/\x≠w.heap.size+1+1) W2 w3:=(((aa.refl (· ≠w.heap.size+1+1) W2).setCell (p:=⟨w.heap.size+1+1,_,none⟩) (fun h=>h rfl) _).mono fun x hx=>hx.2).tr (hx.mono fun x hx=>hx.1);have hq:ah w3 (w.heap.size+1+1) (ax ⟨z ||| eZ n,z,false⟩) 139:=by rw[<-Tr z z false hn];exact(Q2.out.set _ _).keeps hx Q2.out.lt
 have KA2:Hid (aa (fun x=>x<w.heap.size/\¬F x) V W2):=hid (KA.out.mono fun x hx=>⟨by have:=hx.1;omega,hx.2⟩);have BM2:=BM;have hW2:V.heap.size<=W2.heap.size:=KA.out.size;have Q3:Hid (ah w3 (w.heap.size+1+1) (ax ⟨z ||| eZ n,z,false⟩) 139):=hid hq;have R3:=hid (R2.out.keeps kk ⟨R2.out.lt,by omega⟩);have BM3:=hid (BM2.out.keeps kk ⟨BM2.out.lt,by omega⟩);have Vg:∀ x,x=w.heap.size+1+1->∀ (v:Value),(v.ownBlock=(Value.slice sa n sc).ownBlock\/v.ownBlock=(Value.slice fa n fc).ownBlock\/∀ x,v.ownBlock=some x->V.heap.size<=x)->v.ownBlock≠some x:=fun x hx v hv e=>by
  rcases hv with h | h | h
  ·have:=(O1.out.lt x (by rw[<-h,e])).2;omega
  ·have:=(P1.out.lt x (by rw[<-h,e])).2;omega
  ·have:=h x e;omega
 have S3:=hid (aj S2.out kk fun x hx=>⟨(S2.out.lt x hx).2,fun e=>Vg x e _ (SWo.out.elim .inl fun h=>.inr (.inr h)) hx⟩);have F3:=hid (aj F2.out kk fun x hx=>⟨(F2.out.lt x hx).2,fun e=>Vg x e _ (FW.out.2.elim (fun h=>.inr (.inl h)) fun h=>.inr (.inr h)) hx⟩);have YH:Hid (aa (fun x=>x<w.heap.size/\¬F x) V w3):=hid ((KA2.out).tr (kk.mono fun x hx=>⟨by have:=hx.1;omega,by have:=hx.1;omega⟩));clear hx kk Vg hq;clear Q2 R2 BM2 BM S2 F2 KA2 KA;have hw3:V.heap.size<=w3.heap.size:=YH.out.size;go_wp2_with fail
 refine(Dg (bW z) (w.heap.size+1+1) 7 n hn w3 (ij.dh Q3.out) (Q3.out.frozen _)).mono ?_;rintro e w4 ⟨⟨u,rfl⟩,hx⟩;have kk:aa (fun x=>x<w3.heap.size/\x≠w.heap.size+1+1) w3 w4:=(((aa.refl (· ≠w.heap.size+1+1) w3).setCell (p:=⟨w.heap.size+1+1,_,none⟩) (fun h=>h rfl) _).mono fun x hx=>hx.2).tr (hx.mono fun x hx=>hx.1);have hq:ah w4 (w.heap.size+1+1) (ax ⟨z ||| eZ n,z ||| eZ n,false⟩) 139:=by rw[<-Ts (z ||| eZ n) z false hn];exact(Q3.out.set _ _).keeps hx Q3.out.lt
 have Q4:Hid (ah w4 (w.heap.size+1+1) (ax ⟨z ||| eZ n,z ||| eZ n,false⟩) 139):=hid hq;have R4:=hid (R3.out.keeps kk ⟨R3.out.lt,by omega⟩);have BM4:=hid (BM3.out.keeps kk ⟨BM3.out.lt,by omega⟩);have Vg:∀ x,x=w.heap.size+1+1->∀ (v:Value),(v.ownBlock=(Value.slice sa n sc).ownBlock\/v.ownBlock=(Value.slice fa n fc).ownBlock\/∀ x,v.ownBlock=some x->V.heap.size<=x)->v.ownBlock≠some x:=fun x hx v hv e=>by
  rcases hv with h | h | h
  ·have:=(O1.out.lt x (by rw[<-h,e])).2;omega
  ·have:=(P1.out.lt x (by rw[<-h,e])).2;omega
  ·have:=h x e;omega
 have S4:=hid (aj S3.out kk fun x hx=>⟨(S3.out.lt x hx).2,fun e=>Vg x e _ (SWo.out.elim .inl fun h=>.inr (.inr h)) hx⟩);have F4:=hid (aj F3.out kk fun x hx=>⟨(F3.out.lt x hx).2,fun e=>Vg x e _ (FW.out.2.elim (fun h=>.inr (.inl h)) fun h=>.inr (.inr h)) hx⟩);have KA4:Hid (aa (fun x=>x<w.heap.size/\¬F x) V w4):=hid ((YH.out).tr (kk.mono fun x hx=>⟨by have:=hx.1;omega,by have:=hx.1;omega⟩));clear hx kk Vg hq;clear Q3 R3 BM3 S3 F3 YH;rw[HZB.out]at Q4;go_wp2_with (first | (refine bD rfl 139 (.tmp 4) rfl (w.heap.size+1+1) rfl (ax ⟨eZ n,eZ n,false⟩) _ Q4.out.range Tryz.underlying139 rfl (bJ _) ?_) | (refine wpList_store_row rfl 139 (.tmp 3) (.tmp 38) rfl (w.heap.size+1) (ax ⟨eZ n,eZ n,false⟩) rfl rfl 139 (zeroV false) R4.out (bJ _) rfl (eM _) ?_;refine Hid.out ?_));refine hid ?_;obtain⟨V3,di⟩:∃ W,W=w4.setRow (w.heap.size+1) (ax ⟨eZ n,eZ n,false⟩):=⟨_,rfl⟩;rw[<-di];have R9:Hid (ah V3 (w.heap.size+1) (ax ⟨eZ n,eZ n,false⟩) 139):=by rw[di];exact hid R4.out.setRow
 have K9:aa (· ≠w.heap.size+1) w4 V3:=by rw[di];exact bP _ _ _
 clear di;go_wp2;obtain⟨m0,m1,m2,m3,m4,m5,m6,m7,m8,m9,m10,m11,m12,m13,m14⟩:=R9.out.part;dsimp only at m0 m1 m2 m3 m4 m5 m6 m7 m8 m9 m10 m11 m12 m13 m14;refine bodyPost_ret (v:=.agg (ax ⟨eZ n,eZ n,false⟩)) (by simp[results,Tryz.results127,ax,go_sem,m0,m1,m2,m3,m4,m5,m6,m7,m8,m9,m10,m11,m12,m13,m14]) rfl ⟨rfl,?_,?_⟩
 ·have Vg:∀ x,x=w.heap.size+1->∀ (v:Value),(v.ownBlock=(Value.slice sa n sc).ownBlock\/v.ownBlock=(Value.slice fa n fc).ownBlock\/∀ x,v.ownBlock=some x->V.heap.size<=x)->v.ownBlock≠some x:=fun x hx v hv e=>by
   rcases hv with h | h | h
   ·have:=(O1.out.lt x (by rw[<-h,e])).2;omega
   ·have:=(P1.out.lt x (by rw[<-h,e])).2;omega
   ·have:=h x e;omega
  have S9:=aj S4.out K9 fun x hx e=>Vg x e _ (SWo.out.elim .inl fun h=>.inr (.inr h)) hx
  have F9:=aj F4.out K9 fun x hx e=>Vg x e _ (FW.out.2.elim (fun h=>.inr (.inl h)) fun h=>.inr (.inr h)) hx
  have B9:=BM4.out.keeps K9 (by omega);have hs:=K9.size;have Qq:=KA4.out.size;have es:aN (m.aM++ [s])=aN m.aM++(encS s).toList:=by rw[fS];simp[aN]
  have ef:ey (m.cN++ [0])=ey m.cN++ir.toList:=by rw[Fc,Li]
  have ls:(m.aM++ [s]).length=n+1:=by rw[List.length_append, <-vu.out];rfl
  have lf:(m.cN++ [(0:PB)]).length=n+1:=by rw[List.length_append,MP.out, <-vu.out];rfl
  refine⟨fun x=>F x\/(Value.slice ta (n+1) tc).ownBlock=some x\/(Value.slice f1 (n+1) f2).ownBlock=some x,⟨.inl HM.out.fm,fun x hx=>?_,_,_,B9,?_,fun x hx=>.inr (.inl hx),?_,fun x hx=>.inr (.inr hx)⟩,fun x hx=>.inl hx,fun x hx=>?_⟩
  ·rcases hx with h | h | h
   ·have:=HM.out.lt x h;exact⟨this.1,by omega⟩
   ·exact S9.lt x h
   ·exact F9.lt x h
  ·rw[ls,es];exact S9
  ·rw[lf,ef];exact F9
  ·rcases hx with h | h | h
   ·exact .inl h
   ·rcases SWo.out with h2 | h2
    ·exact .inl (S3.out x (by rw[<-h2];exact h))
    ·exact .inr (by have:=h2 x h;omega)
   ·rcases FW.out.2 with h2 | h2
    ·exact .inl (S5.out x (by rw[<-h2];exact h))
    ·exact .inr (by have:=h2 x h;omega)
 ·exact((E0.out.keeps.mono fun x hx=>hx.1).tr KA4.out).tr (K9.mono fun x hx=>by have:=hx.1;omega)
def kO (base M:Nat) (F:Nat->Prop) (w:World) (m:GM) (p:GP) (e:Ending) (w':World):Prop:=
 e=.returned (.agg (ax p))/\(∃ F',gM base M F' w' m/\(∀ x,F x->F' x)/\∀ x,F' x->F x\/w.heap.size<=x)/\aa (fun x=>x<w.heap.size/\¬F x) w w'/\w.heap.size<w'.heap.size
def Lk (n0:Nat) (t:RX):Prop:=∀ (base M:Nat) (F:Nat->Prop) (m:GM) (w:World) (v:Value),n0<=base->gM base M F w m->aL (· <n0) w v t->m.ok->m.cN.length=m.aM.length->m.aM.length+t.cnt<=448->
 Calls Tryz.prog 77 #[.pointer (some ⟨M,0,none⟩),v] w (kO base M F w (t.dL m).1 (t.dL m).2)
theorem WT (n0 base M:Nat) (F:Nat->Prop) (m:GM) (k:Nat) (s:BS) (mn mx:Int) (t:RX) (l:List RX) (p:Option Addr) (n c:Nat) (X:Nat) (w:World) (dD:n0<=base) (h:gM base M F w m) (hr:aL (· <n0) w (.agg (au k s mn mx (.slice p n c))) (.nd k s mn mx (t::l))) (ht:Lk n0 t) (hX:w.cell? ⟨X,0,none⟩=some (.pointer (some ⟨M,0,none⟩))) (Iq:¬F X) (ok:m.ok) (hm:m.cN.length=m.aM.length) (hn:m.aM.length+t.cnt<=448): Calls Tryz.prog 134 #[.agg (au k s mn mx (.slice p n c)),.pointer (some ⟨X,0,none⟩)] w (kO base M F w (t.dL m).1 (t.dL m).2):=by
 obtain⟨b,off,p',c',rfl,hb,rK,lZ,⟨e0,e1,e2,e3,e4,e5,e6,e7⟩,hrt⟩:=hr.elem (i:=0) (t:=t) rfl;have hlen:n=l.length+1:=by obtain⟨p2,c2,e⟩:=hr.form;simp[au,RX.subs,RX.kind,RX.set,RX.mn,RX.mx]at e;exact e.2.1
 have gR:0<n:=by omega
 have HM:=hid h;have WU:=hid hrt;have HT:=hid ht;have oD:=hid ok;have MP:=hid hm;have HX:=hid hX;have HXF:=hid Iq;have OZ:X<w.heap.size:=World.block_lt_of_cell? _ _ hX;have YF:M<w.heap.size:=(h.lt M h.fm).2;simp only[Nat.zero_mul,Nat.add_zero]at e0 e1 e2 e3 e4 e5 e6 e7;have E:=hid (And.intro e0 (And.intro e1 (And.intro e2 (And.intro e3 (And.intro e4 (And.intro e5 (And.intro e6 e7)))))));clear h hr hrt ht ok hm hX Iq hlen e0 e1 e2 e3 e4 e5 e6 e7;obtain⟨m2,p2,wZ⟩:∃ m2 p2,t.dL m=(m2,p2):=⟨_,_,rfl⟩;rw[wZ];dsimp only;have HMP:=hid wZ;clear wZ;unfold au;go_enter Tryz.func134,Tryz.ntmps134;go_upto_region 1 with fail
 refine aw ?_;intro V hV;have N0:Hid (ah V w.heap.size #[.int .u8 k,.int .u64 (wd s 0).toNat,.int .u64 (wd s 1).toNat,.int .u64 (wd s 2).toNat,.int .u64 (wd s 3).toNat,.int .i64 mn,.int .i64 mx,.slice (some ⟨b,off,none⟩) n c] 62):=by rw[hV];exact hid ((ah.new _ _ _).alloc _)
 have R0:Hid (ah V (w.heap.size+1) (zeroV false) 139):=by rw[hV];exact hid (ah.at (ah.new _ _ _) (by simp))
 have E0:Hid (Ext w V):=by rw[hV];exact hid (((Ext.refl w).alloc _).alloc _)
 have nB:Hid (V.heap.size=w.heap.size+1+1):=hid (by rw[hV];simp);clear hV;have Vf:V.cell? ⟨X,0,none⟩=some (.pointer (some ⟨M,0,none⟩)):=(E0.out.keeps.cell (p:=⟨X,0,none⟩) OZ).trans HX.out;have ec:∀ (o:Nat) (u:Value),w.cell? ⟨b,o,none⟩=some u->V.cell? ⟨b,o,none⟩=some u:=fun o u h=>(E0.out.keeps.cell (p:=⟨b,o,none⟩) rK).trans h
 obtain⟨e0,e1,e2,e3,e4,e5,e6,e7⟩:=E.out;replace e0:=ec _ _ e0;replace e1:=ec _ _ e1;replace e2:=ec _ _ e2;replace e3:=ec _ _ e3;replace e4:=ec _ _ e4;replace e5:=ec _ _ e5;replace e6:=ec _ _ e6;replace e7:=ec _ _ e7;have n7:V.cell? ⟨w.heap.size,7,none⟩=some (.slice (some ⟨b,off,none⟩) n c):=N0.out.cell 7;have YI:b<V.heap.size:=by rw[nB.out];omega
 have hXv:X<V.heap.size:=by rw[nB.out];omega
 clear ec E;refine aD false (fun _=>False) (by kernel_rfl) 5 [0,0,2,6,14,31,63] (fun i=>i==5 || i==6) (by kernel_rfl) (fun _=>aH.any _) ?_;intro C hC hne;have HC:=hid hC;have f0:=ak hC (p:=⟨b,off,none⟩) YI (fun h=>h) e0;have f1:=ak hC (p:=⟨b,off+1,none⟩) YI (fun h=>h) e1;have f2:=ak hC (p:=⟨b,off+2,none⟩) YI (fun h=>h) e2;have f3:=ak hC (p:=⟨b,off+3,none⟩) YI (fun h=>h) e3;have f4:=ak hC (p:=⟨b,off+4,none⟩) YI (fun h=>h) e4;have f5:=ak hC (p:=⟨b,off+5,none⟩) YI (fun h=>h) e5;have f6:=ak hC (p:=⟨b,off+6,none⟩) YI (fun h=>h) e6;have f7:=ak hC (p:=⟨b,off+7,none⟩) YI (fun h=>h) e7;have fX:=ak hC (p:=⟨X,0,none⟩) hXv (fun h=>h) Vf;have fN:=ak hC (p:=⟨w.heap.size,7,none⟩) N0.out.lt (fun h=>h) n7;clear hC e0 e1 e2 e3 e4 e5 e6 e7 Vf n7
 repeat (refine ae (fun K hK=>?_);first | (refine aR rfl ?_;try go_simp;refine hK _ _ ?_;clear hK K) | (refine aO rfl rfl ?_;unfold ai;go_simp;refine hK _ _ ?_;clear hK K))
 refine bh (fun W hW hH=>?_);have lH:=(HC.out W).1 hW;have MW:Hid (gM base M F W m):=hid ((HM.out.keeps E0.out.keeps fun x hx=>(HM.out.lt x hx).2).keeps (aa.ag lH.below fun _ h=>h:aa (· <V.heap.size) V W) fun x hx=>by have:=(HM.out.lt x hx).2;rw[nB.out];omega);have IW:Hid (aL (· <n0) W (.agg (au t.kind t.set t.mn t.mx (.slice p' t.subs.length c'))) t):=hid ((WU.out.keeps E0.out.keeps fun x hx=>by have:=(HM.out.lt _ HM.out.fm).1;omega).keeps (aa.ag lH.below fun _ h=>h:aa (· <V.heap.size) V W) fun x hx=>by have:=(HM.out.lt _ HM.out.fm).1;rw[nB.out];omega);have RW:=hid (R0.out.below lH.below R0.out.lt);have KW:Hid (aa (· <w.heap.size) w W):=hid (E0.out.keeps.tr (aa.ag lH.below fun x hx=>by rw[nB.out];omega:aa (· <w.heap.size) V W));have xI:w.heap.size+1+1<=W.heap.size:=by rw[<-nB.out];exact lH.below.size
 clear lH hW hH HC hne f0 f1 f2 f3 f4 f5 f6 f7 fX fN;have CM:Hid (Calls Tryz.prog 77 #[.pointer (some ⟨M,0,none⟩),.agg (au t.kind t.set t.mn t.mx (.slice p' t.subs.length c'))] W (kO base M F W (t.dL m).1 (t.dL m).2)):=hid (HT.out base M F m W _ dD MW.out IW.out oD.out MP.out hn);rw[HMP.out]at CM;dsimp only at CM;clear MW IW R0;go_wp2_with fail
 refine CM.out.mono ?_;rintro e w3 ⟨rfl,hF',hx,hsz⟩;have qY:∀ k,w.heap.size<=k->¬F k:=fun k hk e=>by have:=(HM.out.lt k e).2;omega
 have R3:Hid (ah w3 (w.heap.size+1) (zeroV false) 139):=hid (RW.out.keeps hx ⟨by omega,qY _ (by omega)⟩);have Tv:=hid hF';have HK:=hid hx;clear hx hF' CM;go_wp2_with (first | (refine wpList_store_row rfl 139 (.tmp 3) (.tmp 9) rfl (w.heap.size+1) (ax p2) rfl rfl 139 (zeroV false) R3.out (bJ _) rfl (eM _) ?_;refine Hid.out ?_));refine hid ?_;obtain⟨V3,di⟩:∃ W,W=w3.setRow (w.heap.size+1) (ax p2):=⟨_,rfl⟩;rw[<-di];have R9:Hid (ah V3 (w.heap.size+1) (ax p2) 139):=by rw[di];exact hid R3.out.setRow
 have K9:aa (· ≠w.heap.size+1) w3 V3:=by rw[di];exact bP _ _ _
 clear di;go_wp2;obtain⟨m0,m1,m2,m3,m4,m5,m6,m7,m8,m9,m10,m11,m12,m13,m14⟩:=R9.out.part;refine bodyPost_ret (v:=.agg (ax p2)) (by simp[results,Tryz.results134,ax,go_sem,m0,m1,m2,m3,m4,m5,m6,m7,m8,m9,m10,m11,m12,m13,m14]) rfl ⟨rfl,?_,?_,?_⟩
 ·obtain⟨F',h1,h2,h3⟩:=Tv.out
  refine⟨F',⟨h1.fm,fun x hx=>⟨(h1.lt x hx).1,Nat.lt_of_lt_of_le (h1.lt x hx).2 K9.size⟩,?_⟩,h2,fun x hx=>(h3 x hx).imp id fun h=>by omega⟩;exact(h1.keeps K9 fun x hx e=>by rcases h3 x hx with h | h;exact qY _ (by omega) h;omega).row
 ·exact(KW.out.mono fun x hx=>hx.1).tr ((HK.out.mono fun x hx=>⟨by have:=hx.1;omega,hx.2⟩).tr (K9.mono fun x hx=>by have:=hx.1;omega))
 ·have:=K9.size;omega
end
section
open Go Go.RowKit
theorem Ir:∀ (a b:List RX) (st:GM×GP),RX.ic (a++b) st=RX.ic b (RX.ic a st)
 | [],_,_=>by rw[List.nil_append,RX.ic]
 | t::a,b,st=>by rw[List.cons_append,RX.ic,RX.ic];exact Ir a b _
theorem Iu:∀ (a b:List RX) (st:GM×GP),RX.jI (a++b) st=RX.jI b (RX.jI a st)
 | [],_,_=>by rw[List.nil_append,RX.jI]
 | t::a,b,st=>by rw[List.cons_append,RX.jI,RX.jI];exact Iu a b _
theorem zq:∀ (a b:List RX),RX.iC (a++b)=RX.iC a+RX.iC b
 | [],_=>by rw[List.nil_append,RX.iC,Nat.zero_add]
 | t::a,b=>by rw[List.cons_append,RX.iC,RX.iC,zq a b,Nat.add_assoc]
theorem Dk (l:List RX) (k:Nat):RX.iC (l.take k)<=RX.iC l:=by have h:=zq (l.take k) (l.drop k);rw[List.take_append_drop]at h;omega
theorem Ff {α:Type} {l:List α} {k:Nat} {t:α} (h:l[k]? =some t):l.take (k+1)=l.take k++ [t]:=by rw[List.take_add_one,h];rfl
theorem Dl {l:List RX} {k:Nat} {t:RX} (h:l[k]? =some t):RX.iC (l.take (k+1))=RX.iC (l.take k)+t.cnt:=by rw[Ff h,zq,RX.iC,RX.iC,Nat.add_zero]
theorem Pb {l:List RX} {k:Nat} {t:RX} (h:l[k]? =some t) (st:GM×GP):RX.ic (l.take (k+1)) st=((t.dL (RX.ic (l.take k) st).1).1,⟨(RX.ic (l.take k) st).2.fst ||| (t.dL (RX.ic (l.take k) st).1).2.fst,(RX.ic (l.take k) st).2.dh ||| (t.dL (RX.ic (l.take k) st).1).2.dh,(RX.ic (l.take k) st).2.emp || (t.dL (RX.ic (l.take k) st).1).2.emp⟩):=by rw[Ff h,Ir,RX.ic,RX.ic]
theorem Pc {l:List RX} {k:Nat} {t:RX} (h:l[k]? =some t) (st:GM×GP):RX.jI (l.take (k+1)) st=cV (t.dL (RX.jI (l.take k) st).1).1 (RX.jI (l.take k) st).2 (t.dL (RX.jI (l.take k) st).1).2:=by rw[Ff h,Iu,RX.jI,RX.jI]
theorem Tw {l:List RX} (hl:∀ t∈l,t.full=true) {m:GM} (hm:m.ok) (e:Bool) (k:Nat):jP m (RX.ic (l.take k) (m,⟨0,0,e⟩)) (RX.iC (l.take k)):=by have h:=EX (l.take k) (fun t ht m hm=>qh t (hl t (List.mem_of_mem_take ht)) m hm) m (m,⟨0,0,e⟩) 0 ⟨hm,rfl,⟨fun p hp=>by simp at hp,fun p hp=>by simp at hp⟩⟩;rw[Nat.zero_add]at h;exact h
theorem Tx {l:List RX} (hl:∀ t∈l,t.full=true) {m:GM} (hm:m.ok) (e:Bool) (k:Nat):jP m (RX.jI (l.take k) (m,⟨0,0,e⟩)) (RX.iC (l.take k)):=by have h:=EW (l.take k) (fun t ht m hm=>qh t (hl t (List.mem_of_mem_take ht)) m hm) m (m,⟨0,0,e⟩) 0 ⟨hm,rfl,⟨fun p hp=>by simp at hp,fun p hp=>by simp at hp⟩⟩;rw[Nat.zero_add]at h;exact h
end
section
open Go Go.RowKit Go.Shelf Go.Maps
def WV (base M:Nat) (F:Nat->Prop) (st:GM×GP) (O:Nat) (V W:World):Prop:=
 (∃ F',gM base M F' W st.1/\(∀ x,F x->F' x)/\∀ x,F' x->F x\/V.heap.size<=x)/\ah W O (ax st.2) 139/\aa (fun x=>x<V.heap.size/\¬F x/\x≠O) V W
theorem Ty (n0 base M:Nat) (F:Nat->Prop) (m:GM) (k:Nat) (s:BS) (mn mx:Int) (l:List RX) (p:Option Addr) (n c:Nat) (X:Nat) (w:World) (dD:n0<=base) (h:gM base M F w m) (hr:aL (· <n0) w (.agg (au k s mn mx (.slice p n c))) (.nd k s mn mx l)) (ht:∀ t∈l,Lk n0 t) (hf:∀ t∈l,t.full=true) (hX:w.cell? ⟨X,0,none⟩=some (.pointer (some ⟨M,0,none⟩))) (Iq:¬F X) (ok:m.ok) (hm:m.cN.length=m.aM.length) (hn:m.aM.length+RX.iC l<=448) (hL:l.length<=10000): Calls Tryz.prog 131 #[.agg (au k s mn mx (.slice p n c)),.pointer (some ⟨X,0,none⟩)] w (kO base M F w (RX.ic l (m,⟨0,0,false⟩)).1 (RX.ic l (m,⟨0,0,false⟩)).2):=by
 have hlen:n=l.length:=by obtain⟨p2,c2,e⟩:=hr.form;simp[au,RX.subs,RX.kind,RX.set,RX.mn,RX.mx]at e;exact e.2.1
 have hn9:n<=10000:=by omega
 have HM:=hid h;have HR:=hid hr;have HT:=hid ht;have Vh:=hid hf;have oD:=hid ok;have MP:=hid hm;have HX:=hid hX;have HXF:=hid Iq;have HLN:=hid hlen;have OZ:X<w.heap.size:=World.block_lt_of_cell? _ _ hX;have YF:M<w.heap.size:=(h.lt M h.fm).2;have rK:n0<=w.heap.size:=by have:=(h.lt M h.fm).1;omega
 obtain⟨st,hst⟩:∃ st,st=RX.ic l (m,⟨0,0,false⟩):=⟨_,rfl⟩;rw[<-hst];have HST:=hid hst;clear h hr ht hf ok hm hX Iq hlen hst;unfold au;go_enter Tryz.func131,Tryz.ntmps131;go_upto_region 2 with fail
 refine aw ?_;intro V hV;have N0:Hid (ah V w.heap.size #[.int .u8 k,.int .u64 (wd s 0).toNat,.int .u64 (wd s 1).toNat,.int .u64 (wd s 2).toNat,.int .u64 (wd s 3).toNat,.int .i64 mn,.int .i64 mx,.slice p n c] 62):=by rw[hV];exact hid (((ah.new _ _ _).alloc _).alloc _)
 have R0:Hid (ah V (w.heap.size+1) (zeroV false) 139):=by rw[hV];exact hid ((ah.at (ah.new _ _ _) (by simp)).alloc _)
 have O0:Hid (ah V (w.heap.size+1+1) (zeroV false) 139):=by rw[hV];exact hid (ah.at (ah.new _ _ _) (by simp))
 have E0:Hid (Ext w V):=by rw[hV];exact hid ((((Ext.refl w).alloc _).alloc _).alloc _)
 have nB:Hid (V.heap.size=w.heap.size+1+1+1):=hid (by rw[hV];simp);clear hV;have n7:V.cell? ⟨w.heap.size,7,none⟩=some (.slice p n c):=N0.out.cell 7;have H7:w.heap.size+1+1<V.heap.size:=by rw[nB.out];omega
 have MV:Hid (gM base M F V m):=hid (HM.out.keeps E0.out.keeps fun x hx=>(HM.out.lt x hx).2);have Vf:V.cell? ⟨X,0,none⟩=some (.pointer (some ⟨M,0,none⟩)):=(E0.out.keeps.cell (p:=⟨X,0,none⟩) OZ).trans HX.out;have HXV:=hid Vf;clear Vf;go_wp2;clear n7;go_loopw [11] (fun iv W=>∃ k:Nat,k<=n/\iv=.int .i64 k/\WV base M F (RX.ic (l.take k) (m,⟨0,0,false⟩)) (w.heap.size+1+1) V W) (fun iv _=>n-(intOf iv).toNat);case atStart=>
  refine⟨0,by omega,rfl,?_⟩;rw[List.take_zero,RX.ic];exact⟨⟨F,MV.out,fun _ h=>h,fun _ h=>.inl h⟩,by rw[jq];exact O0.out,aa.refl _ _⟩
 case round=>
  obtain⟨k,hk,rfl,hI⟩:=hrel;obtain⟨wo,rfl⟩:∃ wo:World,wo=wr:=⟨_,rfl⟩;have HI:=hid hI;clear hI;by_cases hlt:k<n
  ·have gz:(k:Int)<n:=by omega
   obtain⟨t,eH⟩:∃ t,l[k]? =some t:=⟨_,List.getElem?_eq_getElem (by have:=HLN.out;omega)⟩;have zr:∀ x,x<n0->¬F x:=fun x hx e=>by have:=(HM.out.lt x e).1;omega
   obtain⟨b,off,p',c',rfl,hb,hbw2,lZ,⟨e0,e1,e2,e3,e4,e5,e6,e7⟩,hrt⟩:=HR.out.elem eH;have kq:=hid eH;have KO:Hid (aa (fun x=>x<w.heap.size/\¬F x) w wo):=hid ((E0.out.keeps.mono fun x hx=>hx.1).tr (HI.out.2.2.mono fun x hx=>⟨by have:=hx.1;omega,hx.2,by have:=hx.1;omega⟩));have ec:∀ (o:Nat) (u:Value),w.cell? ⟨b,o,none⟩=some u->wo.cell? ⟨b,o,none⟩=some u:=fun o u h=>(KO.out.cell (p:=⟨b,o,none⟩) ⟨hbw2,zr b hb⟩).trans h
   replace e0:=ec _ _ e0;replace e1:=ec _ _ e1;replace e2:=ec _ _ e2;replace e3:=ec _ _ e3;replace e4:=ec _ _ e4;replace e5:=ec _ _ e5;replace e6:=ec _ _ e6;replace e7:=ec _ _ e7;have Vi:wo.cell? ⟨X,0,none⟩=some (.pointer (some ⟨M,0,none⟩)):=(KO.out.cell (p:=⟨X,0,none⟩) ⟨OZ,HXF.out⟩).trans HX.out;have HXo:=hid Vi;have U9:b<wo.heap.size:=World.block_lt_of_cell? _ _ e0;have WU:Hid (aL (· <n0) wo (.agg (au t.kind t.set t.mn t.mx (.slice p' t.subs.length c'))) t):=hid (hrt.keeps KO.out fun x hx=>⟨by omega,zr x hx⟩);clear ec eH hrt zr Vi;go_upto_region 5 with fail
   refine aw ?_;intro W1 hW1;have N1:Hid (ah W1 wo.heap.size (au t.kind t.set t.mn t.mx (.slice p' t.subs.length c')) 62):=by rw[hW1];exact hid (ah.new _ _ _)
   have E1:Hid (Ext wo W1):=by rw[hW1];exact hid ((Ext.refl wo).alloc _)
   clear hW1 e0 e1 e2 e3 e4 e5 e6 e7;have e0:W1.cell? ⟨wo.heap.size,0,none⟩=some (.int .u8 t.kind):=N1.out.cell 0;have e1:W1.cell? ⟨wo.heap.size,1,none⟩=some (.int .u64 (wd t.set 0).toNat):=N1.out.cell 1;have e2:W1.cell? ⟨wo.heap.size,2,none⟩=some (.int .u64 (wd t.set 1).toNat):=N1.out.cell 2;have e3:W1.cell? ⟨wo.heap.size,3,none⟩=some (.int .u64 (wd t.set 2).toNat):=N1.out.cell 3;have e4:W1.cell? ⟨wo.heap.size,4,none⟩=some (.int .u64 (wd t.set 3).toNat):=N1.out.cell 4;have e5:W1.cell? ⟨wo.heap.size,5,none⟩=some (.int .i64 t.mn):=N1.out.cell 5;have e6:W1.cell? ⟨wo.heap.size,6,none⟩=some (.int .i64 t.mx):=N1.out.cell 6;have e7:W1.cell? ⟨wo.heap.size,7,none⟩=some (.slice p' t.subs.length c'):=N1.out.cell 7;have Vi:W1.cell? ⟨X,0,none⟩=some (.pointer (some ⟨M,0,none⟩)):=(E1.out.keeps.cell (p:=⟨X,0,none⟩) (World.block_lt_of_cell? _ _ HXo.out)).trans HXo.out;obtain⟨⟨F',yD,Pd,hF2⟩,hO,Iw⟩:=HI.out;have bQ:=Tw Vh.out oD.out false k;have hcs:=Dl kq.out;have Wn:=Dk l (k+1);have qL:=Pb kq.out (m,(⟨0,0,false⟩:GP));have CM:Hid (Calls Tryz.prog 77 #[.pointer (some ⟨M,0,none⟩),.agg (au t.kind t.set t.mn t.mx (.slice p' t.subs.length c'))] W1 (kO base M F' W1 (t.dL (RX.ic (l.take k) (m,⟨0,0,false⟩)).1).1 (t.dL (RX.ic (l.take k) (m,⟨0,0,false⟩)).1).2)):=hid (HT.out t (List.mem_of_getElem? kq.out) base M F' _ W1 _ dD (yD.keeps E1.out.keeps fun x hx=>(yD.lt x hx).2) (WU.out.keeps E1.out.keeps fun x hx=>by have:=KO.out.size;omega) bQ.ok bQ.ok.len (by rw[bQ.len];omega));clear bQ hcs Wn;obtain⟨sk,hsk⟩:∃ sk,sk=RX.ic (l.take k) (m,(⟨0,0,false⟩:GP)):=⟨_,rfl⟩;rw[<-hsk]at CM hO yD qL;obtain⟨m2,p2,wZ⟩:∃ m2 p2,t.dL sk.1=(m2,p2):=⟨_,_,rfl⟩;rw[wZ]at CM qL;dsimp only at CM qL;have WW:=hid qL;have Tz:¬F' (w.heap.size+1+1):=fun e=>by rcases hF2 _ e with h | h;exact absurd (HM.out.lt _ h).2 (by omega);omega
   have O1:=hid (hO.ext E1.out);have YJ:=hid Pd;have JD:=hid hF2;have Pe:=hid Iw;have wF:=hid Tz;clear qL wZ hsk hO yD Pd hF2 Iw Tz HI;go_wp2_with fail
   refine CM.out.mono ?_;rintro e w2 ⟨rfl,hF'',hx,hsz⟩;have O2:=hid (O1.out.keeps hx ⟨O1.out.lt,wF.out⟩);have aj6:=hid hF'';have WX:=hid hx;clear hF'' hx CM e0 e1 e2 e3 e4 e5 e6 e7 Vi;unfold ax;go_upto_region 6 with fail
   refine aw ?_;intro W3 hW3;have X3:Hid (ah W3 w2.heap.size (ax p2) 139):=by rw[hW3];exact hid (ah.new _ _ _)
   have E3:Hid (Ext w2 W3):=by rw[hW3];exact hid ((Ext.refl w2).alloc _)
   have O3:=hid (O2.out.ext E3.out);have hO2:w.heap.size+1+1<w2.heap.size:=O2.out.lt;clear hW3 O1 O2;obtain⟨a0,a1,a2,a3,a4,a5,a6,a7,a8,a9,lD,lF,a12,lG,jZ⟩:=X3.out.part;obtain⟨o0,o1,o2,o3,o4,o5,o6,o7,o8,o9,sP,sQ,sR,sS,sA⟩:=O3.out.part;obtain⟨z0,z1,z2,z3,z4,z5,z6,z7,z8,z9,z10,z11,z12,z13,z14⟩:=O3.out.qp
   try dsimp only at o0 o1 o2 o3 o4 o5 o6 o7 o8 o9 sP sQ sR sS sA
   go_wp2_with fail
   clear a0 a1 a2 a3 a4 a5 a6 a7 a8 a9 lD lF a12 lG jZ o0 o1 o2 o3 o4 o5 o6 o7 o8 o9 sP sQ sR sS sA z0 z1 z2 z3 z4 z5 z6 z7 z8 z9 z10 z11 z12 z13 z14;refine(kN (bW sk.2.fst) (bW p2.fst) (w.heap.size+1+1) 0 W3 (ij.fst O3.out) (fun i _=>O3.out.frozen _)).mono ?_;rintro e w4 ⟨⟨u,rfl⟩,hx⟩;have O4:Hid (ah w4 (w.heap.size+1+1) (ax ⟨sk.2.fst ||| p2.fst,sk.2.dh,sk.2.emp⟩) 139):=hid ((sf O3.out (sk.2.fst ||| p2.fst) (fun i _=>(zh sk.2.fst p2.fst i).symm)).keeps hx O3.out.lt);have K4:Hid (aa (fun x=>x<W3.heap.size/\x≠w.heap.size+1+1) W3 w4):=hid (((cX _ _ _ _ _:aa (· ≠w.heap.size+1+1) W3 _).mono fun x hx=>hx.2).tr (hx.mono fun x hx=>hx.1));have X4:=hid (X3.out.keeps K4.out ⟨X3.out.lt,by omega⟩);clear hx;obtain⟨a0,a1,a2,a3,a4,a5,a6,a7,a8,a9,lD,lF,a12,lG,jZ⟩:=X4.out.part;obtain⟨o0,o1,o2,o3,o4,o5,o6,o7,o8,o9,sP,sQ,sR,sS,sA⟩:=O4.out.part;obtain⟨z0,z1,z2,z3,z4,z5,z6,z7,z8,z9,z10,z11,z12,z13,z14⟩:=O4.out.qp
   try dsimp only at o0 o1 o2 o3 o4 o5 o6 o7 o8 o9 sP sQ sR sS sA
   go_wp2_with fail
   clear a0 a1 a2 a3 a4 a5 a6 a7 a8 a9 lD lF a12 lG jZ o0 o1 o2 o3 o4 o5 o6 o7 o8 o9 sP sQ sR sS sA z0 z1 z2 z3 z4 z5 z6 z7 z8 z9 z10 z11 z12 z13 z14;refine(kN (bW sk.2.dh) (bW p2.dh) (w.heap.size+1+1) 7 w4 (ij.dh (a:=⟨sk.2.fst ||| p2.fst,sk.2.dh,sk.2.emp⟩) O4.out) (fun i _=>O4.out.frozen _)).mono ?_;rintro e w5 ⟨⟨u,rfl⟩,hx⟩;have O5:Hid (ah w5 (w.heap.size+1+1) (ax ⟨sk.2.fst ||| p2.fst,sk.2.dh ||| p2.dh,sk.2.emp⟩) 139):=hid ((si O4.out (sk.2.dh ||| p2.dh) (fun i _=>(zh sk.2.dh p2.dh i).symm)).keeps hx O4.out.lt);have K5:Hid (aa (fun x=>x<W3.heap.size/\x≠w.heap.size+1+1) W3 w5):=hid (K4.out.tr (((cX _ _ _ _ _:aa (· ≠w.heap.size+1+1) w4 _).mono fun x hx=>hx.2).tr (hx.mono fun x hx=>by have:=K4.out.size;exact Nat.lt_of_lt_of_le hx.1 this)));have X5:=hid (X3.out.keeps K5.out ⟨X3.out.lt,by omega⟩);clear hx;obtain⟨a0,a1,a2,a3,a4,a5,a6,a7,a8,a9,lD,lF,a12,lG,jZ⟩:=X5.out.part;obtain⟨o0,o1,o2,o3,o4,o5,o6,o7,o8,o9,sP,sQ,sR,sS,sA⟩:=O5.out.part;obtain⟨z0,z1,z2,z3,z4,z5,z6,z7,z8,z9,z10,z11,z12,z13,z14⟩:=O5.out.qp
   try dsimp only at o0 o1 o2 o3 o4 o5 o6 o7 o8 o9 sP sQ sR sS sA
   obtain⟨eb,Ll⟩:∃ eb,eb=sk.2.emp:=⟨_,rfl⟩;rw[<-Ll]at sA;have HEB:=hid Ll;clear Ll;cases eb;all_goals
    go_wp2;go_roundw;case rel=>
     refine⟨k+1,by omega,by go_num,?_⟩;rw[WW.out];obtain⟨F'',g1,g2,g3⟩:=aj6.out;have h1:=E1.out.keeps.size;have h2:=Pe.out.size;have h3:=E3.out.keeps.size;have K6:=K5.out.setCell (p:=⟨w.heap.size+1+1,14,none⟩) (fun h=>h.2 rfl) (.bool (sk.2.emp || p2.emp));have O6:=O5.out.set 14 (.bool (sk.2.emp || p2.emp));have aj7:¬F'' (w.heap.size+1+1):=fun e=>by rcases g3 _ e with h | h;exact wF.out h;omega
     rw[<-HEB.out]at K6 O6 ⊢;simp only[Bool.false_or,Bool.true_or]at K6 O6 ⊢;refine⟨⟨F'',(g1.keeps E3.out.keeps fun x hx=>(g1.lt x hx).2).keeps K6 fun x hx=>⟨by have:=(g1.lt x hx).2;omega,fun e=>aj7 (e▸hx)⟩,fun x h=>g2 x (YJ.out x h),fun x h=>by rcases g3 x h with h | h;exact JD.out x h;exact .inr (by omega)⟩,O6,?_⟩;exact Pe.out.tr ((E1.out.keeps.mono fun x hx=>by have:=hx.1;omega).tr ((WX.out.mono fun x hx=>⟨by have:=hx.1;omega,fun e=>by rcases JD.out x e with h | h;exact hx.2.1 h;have:=hx.1;omega⟩).tr ((E3.out.keeps.mono fun x hx=>by have:=hx.1;omega).tr (K6.mono fun x hx=>⟨by have:=hx.1;omega,hx.2.2⟩))))
    case measure=>simp[intOf];omega
  ·obtain rfl:k=n:=by omega
   have KD:¬ ((k:Int)<k):=by omega
   obtain⟨hF',hO,hK⟩:=HI.out;rw[HLN.out,List.take_length, <-HST.out]at hF' hO;have Tv:=hid hF';have O3:=hid hO;have HK:=hid hK;have R3:Hid (ah wo (w.heap.size+1) (zeroV false) 139):=hid (R0.out.keeps hK ⟨R0.out.lt,fun e=>by have:=(HM.out.lt _ e).2;omega,by omega⟩);clear hF' hO hK HI;go_wp2_with (first | (refine bD rfl 139 (.tmp 4) rfl (w.heap.size+1+1) rfl (ax st.2) _ O3.out.range Tryz.underlying139 rfl (bJ _) ?_) | (refine wpList_store_row rfl 139 (.tmp 3) (.tmp 34) rfl (w.heap.size+1) (ax st.2) rfl rfl 139 (zeroV false) R3.out (bJ _) rfl (eM _) ?_;refine Hid.out ?_));refine hid ?_;obtain⟨V3,di⟩:∃ W,W=wo.setRow (w.heap.size+1) (ax st.2):=⟨_,rfl⟩;rw[<-di];have R9:Hid (ah V3 (w.heap.size+1) (ax st.2) 139):=by rw[di];exact hid R3.out.setRow
   have K9:aa (· ≠w.heap.size+1) wo V3:=by rw[di];exact bP _ _ _
   clear di;go_wp2;obtain⟨m0,m1,m2,m3,m4,m5,m6,m7,m8,m9,m10,m11,m12,m13,m14⟩:=R9.out.part;refine bodyPost_ret (v:=.agg (ax st.2)) (by simp[results,Tryz.results131,ax,go_sem,m0,m1,m2,m3,m4,m5,m6,m7,m8,m9,m10,m11,m12,m13,m14]) rfl ⟨rfl,?_,?_,?_⟩
   ·obtain⟨F',h1,h2,h3⟩:=Tv.out
    exact⟨F',h1.keeps K9 fun x hx e=>by(rcases h3 x hx with h | h; · exact absurd (HM.out.lt x h).2 (by omega));omega,h2,fun x hx=>(h3 x hx).imp id fun h=>by omega⟩
   ·exact(E0.out.keeps.mono fun x hx=>hx.1).tr ((HK.out.mono fun x hx=>⟨by have:=hx.1;omega,hx.2,by have:=hx.1;omega⟩).tr (K9.mono fun x hx=>by have:=hx.1;omega))
   ·have:=K9.size;have:=HK.out.size;omega
end
end Go.Proofs.YtalombmiochpmaaGreatDoor
