/- The maker of automata of positions: a class. -/
import Derived.Test.YtbiboekhakbnpaaGreatDoorOF18
set_option maxRecDepth 100000
set_option maxHeartbeats 16000000
open Go.Lib (hid)
namespace Go.Proofs.YtbiboekhakbnpaaGreatDoor
open Go Go.RowKit Go.Shelf Go.Maps
theorem Tryz.Mw:(Tryz.prog.info? 129).map (fun i=>(i.zero,i.size,i.bytes))=some (some (.agg #[.int .u64 0,.int .u64 0,.int .u64 0,.int .u64 0,.int .u64 0,.int .u64 0,.int .u64 0]),7,56):=by kernel_rfl
def eU:Array Value:= #[.int .u64 0,.int .u64 0,.int .u64 0,.int .u64 0,.int .u64 0,.int .u64 0,.int .u64 0]
theorem Fh:dr [0]=eU.toList:=by
 have e:bK (bW (0:PB))=eU:=by unfold bK eU;simp only[GU];rfl
 unfold dr;rw[List.flatMap_cons,e];rfl
def McD (base n mb:Nat) (sv fv:Value) (S0 F0:List Value) (j:Nat) (W:World):Prop:=j∈ [5,9,13,16,19]->ak W mb #[sv,fv] 127/\(j=9->W.ownsRow base 70 4 sv n S0)/\(j=16->W.ownsRow base 129 7 fv n F0)
theorem McD.alloc {base n mb:Nat} {sv fv:Value} {S0 F0:List Value} {j:Nat} {W:World} (h:McD base n mb sv fv S0 F0 j W) (o:Obj):McD base n mb sv fv S0 F0 j (W.alloc o):=fun e=>⟨(h e).1.alloc _,fun e2=>((h e).2.1 e2).alloc _,fun e2=>((h e).2.2 e2).alloc _⟩
theorem Fi (base M:Nat) (F:Nat->Prop) (m:GM) (s:BS) (mn mx:Int) (a:Value) (X:Nat) (w:World) (h:eD base M F w m) (hX:w.cell? ⟨X,0,none⟩=some (.pointer (some ⟨M,0,none⟩))) (BR:¬F X) (hm:m.bJ.length=m.az.length) (hn:m.az.length<448): Calls Tryz.prog 141 #[.agg (aj 2 s mn mx a),.pointer (some ⟨X,0,none⟩)] w fun e w'=>e=.returned (.agg (aq ⟨dK m.az.length,dK m.az.length,false⟩))/\(∃ F',eD base M F' w' ⟨m.az++ [s],m.bJ++ [0]⟩/\(∀ x,F x->F' x)/\∀ x,F' x->F x\/w.heap.size<=x)/\aa (fun x=>x<w.heap.size/\¬F x) w w':=by
 obtain⟨iS,Ur,Fj,Fk,Ja⟩:=info_parts Tryz.Az;obtain⟨iB,hiB,Us,Ut,Uu⟩:=info_parts Tryz.Mw;obtain⟨sv,fv,h1,h2,h3,h4,h5⟩:=h.row;rw[hm]at h4;obtain⟨n,gM⟩:∃ n,n=m.az.length:=⟨_,rfl⟩;rw[<-gM]at h2 h4 hn ⊢;obtain⟨sa,sc,rfl⟩:=ownsRow_form h2;obtain⟨fa,fc,rfl⟩:=ownsRow_form h4;have HM:=hid h;have B1:=hid h1;have O1:=hid h2;have P1:=hid h4;have S3:=hid h3;have S5:=hid h5;have lU:=hid gM;have GI:=hid hm;have Sl:M<w.heap.size:=h1.lt;have Jb:X<w.heap.size:=World.block_lt_of_cell? _ _ hX;have hXM:X≠M:=fun e=>BR (by rw[e];exact h.fm)
 have ny:base<=w.heap.size:=Nat.le_of_lt (Nat.lt_of_le_of_lt (h.lt M h.fm).1 Sl);have HX:=hid hX;have Uv:=hid BR;have c0:w.cell? ⟨M,0,none⟩=some (.slice sa n sc):=h1.cell 0;have c1:w.cell? ⟨M,1,none⟩=some (.slice fa n fc):=h1.cell 1;clear h h1 h2 h3 h4 h5 hm gM hX BR;have hX:=HX.out;unfold aj;go_enter Tryz.func141,Tryz.ntmps141;go_upto_region 2 with fail
 refine au ?_;intro V hV;have N0:Hid (ak V w.heap.size #[.int .u8 2,.int .u64 (wd s 0).toNat,.int .u64 (wd s 1).toNat,.int .u64 (wd s 2).toNat,.int .u64 (wd s 3).toNat,.int .i64 mn,.int .i64 mx,a] 86):=by rw[hV];exact hid (((ak.new _ _ _).alloc _).alloc _)
 have R0:Hid (ak V (w.heap.size+1) (zeroV false) 131):=by rw[hV];exact hid ((ak.at (ak.new _ _ _) (by simp)).alloc _)
 have Q0:Hid (ak V (w.heap.size+1+1) (zeroV false) 131):=by rw[hV];exact hid (ak.at (ak.new _ _ _) (by simp))
 have E0:Hid (Ext w V):=by rw[hV];exact hid ((((Ext.refl w).alloc _).alloc _).alloc _)
 have hsz:V.heap.size=w.heap.size+1+1+1:=by rw[hV];simp
 clear hV c0 c1 hX;have BV:=hid (B1.out.ext E0.out);have OV:=hid (ag O1.out E0.out.below);have PV:=hid (ag P1.out E0.out.below);have jZ:=hid hsz;have OS:Hid (V.cell? ⟨X,0,none⟩=some (.pointer (some ⟨M,0,none⟩))):=hid ((E0.out.keeps.cell (p:=⟨X,0,none⟩) Jb).trans HX.out);have c0:V.cell? ⟨M,0,none⟩=some (.slice sa n sc):=BV.out.cell 0;have c1:V.cell? ⟨M,1,none⟩=some (.slice fa n fc):=BV.out.cell 1;have hX:=OS.out;clear hsz;go_upto_region 3 with fail
 refine RegQ.aU (oD (.slice fa n fc) V.heap.size base n M F (aD m.az++(encS s).toList) (dr m.bJ++eU.toList) (encS s) eU) oD.drew (fun _ _ _ h k=>h.trans k) (by kernel_rfl) 20 [0,0,0,4,12,28,0,64,192,508,0,1024,3072,7168,0,16384,65532,131069,262141,524285,1048575,2097151,4194303] (fun i=>i==5 || i==8 || i==9 || i==13 || i==15 || i==16 || i==19 || i==22) (by kernel_rfl) (fun i=>if i=5 then aO.vo _ (.slice sa n sc)else if i=8 then pK.box _ _ _ _ _ _ _ _ _ _ else if i=9 then pK.Yw _ _ _ _ _ _ _ _ _ _ (.slice sa n sc)else if i=13 then aO.vo _ (.slice fa n fc)else if i=15 then pK.Yv _ _ _ _ _ _ _ _ _ _ else if i=16 then pK.Yx _ _ _ _ _ _ _ _ _ _ else if i=19 then pK.Ws _ _ _ _ _ _ _ _ _ _ (.slice sa n sc)else aO.any _) (McD base n M (.slice sa n sc) (.slice fa n fc) (aD m.az) (dr m.bJ)) (fun _ _ _=>⟨BV.out,fun _=>OV.out,fun _=>PV.out⟩) ?_;intro C hC hne;have HC:=hid hC;have hVw:w.heap.size<=V.heap.size:=by rw[jZ.out];omega
 have hXv:X<V.heap.size:=by rw[jZ.out];omega
 have fX:∀ W: {W//C W},W.1.cell? ⟨X,0,none⟩=some (.pointer (some ⟨M,0,none⟩)):=fun W=>(((hC W.1).1 W.2).keep.cell (p:=⟨X,0,none⟩) ⟨hXv,hXv,Uv.out⟩).trans hX
 have hnV:¬F w.heap.size:=fun e=>by have:=(HM.out.lt _ e).2;omega
 have g1:∀ W: {W//C W},W.1.cell? ⟨w.heap.size,1,none⟩=some (.int .u64 (wd s 0).toNat):=fun W=>(((hC W.1).1 W.2).keep.cell (p:=⟨w.heap.size,1,none⟩) ⟨N0.out.lt,N0.out.lt,hnV⟩).trans (N0.out.cell 1)
 have g2:∀ W: {W//C W},W.1.cell? ⟨w.heap.size,2,none⟩=some (.int .u64 (wd s 1).toNat):=fun W=>(((hC W.1).1 W.2).keep.cell (p:=⟨w.heap.size,2,none⟩) ⟨N0.out.lt,N0.out.lt,hnV⟩).trans (N0.out.cell 2)
 have g3:∀ W: {W//C W},W.1.cell? ⟨w.heap.size,3,none⟩=some (.int .u64 (wd s 2).toNat):=fun W=>(((hC W.1).1 W.2).keep.cell (p:=⟨w.heap.size,3,none⟩) ⟨N0.out.lt,N0.out.lt,hnV⟩).trans (N0.out.cell 3)
 have g4:∀ W: {W//C W},W.1.cell? ⟨w.heap.size,4,none⟩=some (.int .u64 (wd s 3).toNat):=fun W=>(((hC W.1).1 W.2).keep.cell (p:=⟨w.heap.size,4,none⟩) ⟨N0.out.lt,N0.out.lt,hnV⟩).trans (N0.out.cell 4)
 clear hC c0 c1 hX
 repeat (refine RegQ.ai (fun K hK=>?_);first | (refine RegQ.br rfl ?_;try go_simp;refine hK _ _ ?_;clear hK K) | (refine RegQ.aZ rfl rfl ?_;unfold ar;go_simp;refine hK _ _ ?_;clear hK K))
 refine RegQ.ai (fun K hK=>?_);refine RegQ.bA rfl rfl (aO.vo _ (.slice sa n sc)) rfl (fun W hW hD hN=>?_) (fun v hv=>?_)
 ·have hD:=(hD (by decide)).1.cell 0
  have hD:W.cell? ⟨M,0,none⟩=some (.slice sa n sc):=hD;clear hW hN hK K;go_simp;exact⟨⟨oD.below (Below.refl _ _),fun j=>by intros;assumption⟩,rfl,trivial⟩
 replace hv:v=_:=hv;subst hv;go_simp;refine hK _ _ ?_;clear hK K
 repeat (refine RegQ.ai (fun K hK=>?_);first | (refine RegQ.br rfl ?_;try go_simp;refine hK _ _ ?_;clear hK K) | (refine RegQ.aZ rfl rfl ?_;unfold ar;go_simp;refine hK _ _ ?_;clear hK K))
 refine RegQ.ai (fun K hK=>?_);refine RegQ.bA rfl rfl (pK.box (.slice fa n fc) V.heap.size base n M F (aD m.az++(encS s).toList) (dr m.bJ++eU.toList) (encS s) eU) rfl (fun W hW hD hN=>?_) (fun v hv=>?_)
 ·have Yy:=((HC.out W).1 hW).size
  clear hW hN hK K;go_simp;exact⟨⟨oD.below ((Ext.refl _).alloc _).below,fun j _ _ h=>h.alloc _⟩,⟨_,by omega,rfl⟩,fun b hb=>by cases hb;exact ak.new _ _ _⟩
 obtain⟨bx,vu,rfl⟩:=hv;go_simp;refine hK _ _ ?_;clear hK K;refine RegQ.ai (fun K hK=>?_);refine RegQ.bA rfl rfl (pK.Yw (.slice fa n fc) V.heap.size base n M F (aD m.az++(encS s).toList) (dr m.bJ++eU.toList) (encS s) eU (.slice sa n sc)) rfl (fun W hW hD hN=>?_) (fun v hv=>?_)
 ·have Yy:=((HC.out W).1 hW).size
  have ny:ak W bx (encS s) 70:=hN.at 0 rfl (by kernel_rfl) bx rfl;obtain⟨Dy,Yz,_⟩:=hD (by decide);have YA:=hid ny;have Mx:=hid Dy;have zQ:=hid (Yz rfl);clear hW hN hK K ny Dy Yz hD;refine kp (.tmp 16) (.tmp 19) 28 rfl base 70 iS _ 4 32 Tryz.underlying28 Ur Fj Fk Ja rfl (by decide) (.slice sa n sc) n (aD m.az) rfl zQ.out ⟨bx,0,none⟩ 1 1 (encS s).toList rfl (bZ YA.out) rfl (by intro u hu;simp[encS]at hu;rcases hu with rfl | rfl | rfl | rfl<;>rfl) (by unfold maxLen;omega) (by omega) (by omega) (by decide) ?_;intro v' w2 ho hg jo;refine⟨⟨oD.apS zQ.out (fun x e=>⟨by rw[jZ.out];have:=(O1.out.lt x e).2;omega,S3.out x e⟩) Mx.out ho hg (jo.imp (fun h=>h.1) id),fun j hj _ h e=>⟨(h e).1.grown hg (fun e2=>bI Mx.out zQ.out (by decide) M e2.symm rfl),fun e2=>absurd e2 hj,fun e2=>((h e).2.2 e2).kept hg (ownBlock_ne (by decide) ((h e).2.2 e2) zQ.out)⟩⟩,ownsRow_form ho,ho,?_⟩;rcases jo with⟨_,h⟩ | ⟨g,cap,h1,h2,_⟩
  ·exact .inr fun x hx=>by rw[h]at hx;cases hx;omega
  ·exact .inl (by rw[h2,h1];rfl)
 obtain⟨s1,s2,rfl⟩:=hv;go_simp;refine hK _ _ ?_;clear hK K
 repeat (refine RegQ.ai (fun K hK=>?_);first | (refine RegQ.br rfl ?_;try go_simp;refine hK _ _ ?_;clear hK K) | (refine RegQ.aZ rfl rfl ?_;unfold ar;go_simp;refine hK _ _ ?_;clear hK K))
 refine RegQ.ai (fun K hK=>?_);refine RegQ.bA rfl rfl (aO.vo _ (.slice fa n fc)) rfl (fun W hW hD hN=>?_) (fun v hv=>?_)
 ·have hD:=(hD (by decide)).1.cell 1
  have hD:W.cell? ⟨M,1,none⟩=some (.slice fa n fc):=hD;clear hW hN hK K;go_simp;exact⟨⟨oD.below (Below.refl _ _),fun j=>by intros;assumption⟩,rfl,trivial⟩
 replace hv:v=_:=hv;subst hv;go_simp;refine hK _ _ ?_;clear hK K
 repeat (refine RegQ.ai (fun K hK=>?_);first | (refine RegQ.br rfl ?_;try go_simp;refine hK _ _ ?_;clear hK K) | (refine RegQ.aZ rfl rfl ?_;unfold ar;go_simp;refine hK _ _ ?_;clear hK K))
 refine RegQ.ai (fun K hK=>?_);refine RegQ.bA rfl rfl (pK.Yv (.slice fa n fc) V.heap.size base n M F (aD m.az++(encS s).toList) (dr m.bJ++eU.toList) (encS s) eU) rfl (fun W hW hD hN=>?_) (fun v hv=>?_)
 ·have Yy:=((HC.out W).1 hW).size
  clear hW hN hK K;go_simp;exact⟨⟨oD.below ((Ext.refl _).alloc _).below,fun j _ _ h=>h.alloc _⟩,⟨_,by omega,rfl⟩,fun b hb=>by cases hb;exact ak.new _ _ _⟩
 obtain⟨by_,ajK,rfl⟩:=hv;go_simp;refine hK _ _ ?_;clear hK K;refine RegQ.ai (fun K hK=>?_);refine RegQ.bA rfl rfl (pK.Yx (.slice fa n fc) V.heap.size base n M F (aD m.az++(encS s).toList) (dr m.bJ++eU.toList) (encS s) eU) rfl (fun W hW hD hN=>?_) (fun v hv=>?_)
 ·have Yy:=((HC.out W).1 hW).size
  have ny:ak W by_ eU 129:=hN.at 0 rfl (by kernel_rfl) by_ rfl;obtain⟨Dy,_,Yz⟩:=hD (by decide);have YA:=hid ny;have Mx:=hid Dy;have zQ:=hid (Yz rfl);clear hW hN hK K ny Dy Yz hD;refine kp (.tmp 24) (.tmp 26) 125 rfl base 129 iB _ 7 56 Tryz.underlying125 hiB Us Ut Uu rfl (by decide) (.slice fa n fc) n (dr m.bJ) rfl zQ.out ⟨by_,0,none⟩ 1 1 eU.toList rfl (bZ YA.out) rfl (by intro u hu;simp[eU]at hu;subst hu;rfl) (by unfold maxLen;omega) (by omega) (by omega) (by decide) ?_;intro v' w2 ho hg jo;refine⟨⟨oD.apF zQ.out (fun x e=>⟨by rw[jZ.out];have:=(P1.out.lt x e).2;omega,S5.out x e⟩) Mx.out ho hg (jo.imp (fun h=>h.1) id),fun j hj _ h e=>⟨(h e).1.grown hg (fun e2=>bI Mx.out zQ.out (by decide) M e2.symm rfl),fun e2=>((h e).2.1 e2).kept hg (ownBlock_ne (by decide) ((h e).2.1 e2) zQ.out),fun e2=>absurd e2 hj⟩⟩,ownsRow_form ho,ho,?_⟩;rcases jo with⟨_,h⟩ | ⟨g,cap,h1,h2,_⟩
  ·exact .inr fun x hx=>by rw[h]at hx;cases hx;omega
  ·exact .inl (by rw[h2,h1];rfl)
 obtain⟨f1,f2,rfl⟩:=hv;go_simp;refine hK _ _ ?_;clear hK K
 repeat (refine RegQ.ai (fun K hK=>?_);first | (refine RegQ.br rfl ?_;try go_simp;refine hK _ _ ?_;clear hK K) | (refine RegQ.aZ rfl rfl ?_;unfold ar;go_simp;refine hK _ _ ?_;clear hK K))
 refine RegQ.ai (fun K hK=>?_);refine RegQ.bA rfl rfl (pK.Ws (.slice fa n fc) V.heap.size base n M F (aD m.az++(encS s).toList) (dr m.bJ++eU.toList) (encS s) eU (.slice sa n sc)) rfl (fun W hW hD hN=>?_) (fun v hv=>?_)
 ·have hrow:W.ownsRow base 70 4 (.slice s1 (n+1) s2) (n+1) (aD m.az++(encS s).toList)/\((Value.slice s1 (n+1) s2).ownBlock=(Value.slice sa n sc).ownBlock\/∀ x,(Value.slice s1 (n+1) s2).ownBlock=some x->V.heap.size<=x):=hN.at 3 rfl (by kernel_rfl)
  obtain⟨Dy,_⟩:=hD (by decide);have Mx:=hid Dy;have eE:=hid hrow;have hc0:W.cell? ⟨M,0,none⟩=some (.slice sa n sc):=Mx.out.cell 0;have hz0:=Mx.out.frozen 0;have hFM:=HM.out.fm;clear hW hN hK K hrow Dy hD;go_simp;refine⟨⟨oD.store _ Mx.out ⟨_,_,rfl⟩ hFM (by omega),fun j hj hb h e=>?_⟩,trivial,_,_,Mx.out.set 0 _,?_,eE.out.2⟩
  ·exfalso
   simp at e;rcases e with rfl | rfl | rfl | rfl | rfl
   ·revert hb;decide
   ·revert hb;decide
   ·revert hb;decide
   ·revert hb;decide
   ·exact hj rfl
  ·exact ae eE.out.1 ((aa.refl (· ≠M) W).setCell (p:=⟨M,0,none⟩) (fun h=>h rfl) _) fun x hx=>bI Mx.out eE.out.1 (by decide) x hx
 go_simp;refine hK _ _ ?_;clear hK K;refine RegQ.aY (fun W hW hH=>?_);have ie:=(HC.out W).1 hW;obtain⟨ta,tc,hb1,hrow,jo⟩:∃ a c,ak W M #[.slice a (n+1) c,.slice fa n fc] 127/\W.ownsRow base 70 4 (.slice a (n+1) c) (n+1) (aD m.az++(encS s).toList)/\((Value.slice a (n+1) c).ownBlock=(Value.slice sa n sc).ownBlock\/∀ x,(Value.slice a (n+1) c).ownBlock=some x->V.heap.size<=x):=hH _ (List.mem_of_getElem? (show _=some _ from rfl:_[0]? =some _));have FW:Hid (W.ownsRow base 129 7 (.slice f1 (n+1) f2) (n+1) (dr m.bJ++eU.toList)/\((Value.slice f1 (n+1) f2).ownBlock=(Value.slice fa n fc).ownBlock\/∀ x,(Value.slice f1 (n+1) f2).ownBlock=some x->V.heap.size<=x)):=hid (hH _ (List.mem_of_getElem? (show _=some _ from rfl:_[1]? =some _)));have BW:=hid hb1;have SW:=hid hrow;have SWo:=hid jo;have KV:=hid ie.keep;have hWs:V.heap.size<=W.heap.size:=ie.size;clear ie hW hH HC hne fX g1 g2 g3 g4 hb1 hrow jo;have k0:W.cell? ⟨M,0,none⟩=some (.slice ta (n+1) tc):=BW.out.cell 0;have k1:W.cell? ⟨M,1,none⟩=some (.slice fa n fc):=BW.out.cell 1;have z1:=BW.out.frozen 1;go_upto_region 4 with fail
 refine au ?_;intro W2 hW2;have hk2:aa (· ≠M) W W2:=by rw[hW2];exact(aa.refl (· ≠M) W).setCell (p:=⟨M,1,none⟩) (fun h=>h rfl) _
 have BM:Hid (ak W2 M #[.slice ta (n+1) tc,.slice f1 (n+1) f2] 127):=hid (by rw[hW2];exact BW.out.set 1 _);have S2:=hid (ae SW.out hk2 fun x hx=>bI BW.out SW.out (by decide) x hx);have F2:=hid (ae FW.out.1 hk2 fun x hx=>bI BW.out FW.out.1 (by decide) x hx);have KA:Hid (aa (fun x=>x<V.heap.size/\¬F x) V W2):=hid ((KV.out.mono fun x hx=>⟨hx.1,hx.1,hx.2⟩).tr (hk2.mono fun x hx e=>hx.2 (by rw[e];exact HM.out.fm)));clear hW2 hk2 k0 k1 z1 BW SW KV;have mE:∀ k,w.heap.size<=k->¬F k:=fun k hk e=>by have:=(HM.out.lt k e).2;omega
 have hV2:w.heap.size+1+1<V.heap.size:=by rw[jZ.out];omega
 have hV1:w.heap.size+1<V.heap.size:=by rw[jZ.out];omega
 have R2:Hid (ak W2 (w.heap.size+1) (zeroV false) 131):=hid (R0.out.keeps KA.out ⟨hV1,mE _ (by omega)⟩);obtain⟨z,hz⟩:∃ z:PB,z=0:=⟨_,rfl⟩;have qE:=gu false;rw[<-hz]at qE;have Q2:Hid (ak W2 (w.heap.size+1+1) (aq ⟨z,z,false⟩) 131):=hid (by rw[qE];exact Q0.out.keeps KA.out ⟨hV2,mE _ (by omega)⟩);have hzb:z ||| dK n=dK n:=by rw[hz];exact BitVec.zero_or
 have HZB:=hid hzb;have GQ:=hid mE;clear hz qE hzb mE R0 Q0;go_wp2_with fail
 refine(xj (bW z) (w.heap.size+1+1) 0 n hn W2 (eR.fst Q2.out) (Q2.out.frozen _)).mono ?_;rintro e w3 ⟨⟨u,rfl⟩,hx⟩;have kk:aa (fun x=>x<W2.heap.size/\x≠w.heap.size+1+1) W2 w3:=(((aa.refl (· ≠w.heap.size+1+1) W2).setCell (p:=⟨w.heap.size+1+1,_,none⟩) (fun h=>h rfl) _).mono fun x hx=>hx.2).tr (hx.mono fun x hx=>hx.1);have hq:ak w3 (w.heap.size+1+1) (aq ⟨z ||| dK n,z,false⟩) 131:=by rw[<-Mu z z false hn];exact(Q2.out.set _ _).keeps hx Q2.out.lt
 have KA2:Hid (aa (fun x=>x<w.heap.size/\¬F x) V W2):=hid (KA.out.mono fun x hx=>⟨by have:=hx.1;omega,hx.2⟩);have BM2:=BM;have hW2:V.heap.size<=W2.heap.size:=KA.out.size;have Q3:Hid (ak w3 (w.heap.size+1+1) (aq ⟨z ||| dK n,z,false⟩) 131):=hid hq;have R3:=hid (R2.out.keeps kk ⟨R2.out.lt,by omega⟩);have BM3:=hid (BM2.out.keeps kk ⟨BM2.out.lt,by omega⟩);have OU:∀ x,x=w.heap.size+1+1->∀ (v:Value),(v.ownBlock=(Value.slice sa n sc).ownBlock\/v.ownBlock=(Value.slice fa n fc).ownBlock\/∀ x,v.ownBlock=some x->V.heap.size<=x)->v.ownBlock≠some x:=fun x hx v hv e=>by
  rcases hv with h | h | h
  ·have:=(O1.out.lt x (by rw[<-h,e])).2;omega
  ·have:=(P1.out.lt x (by rw[<-h,e])).2;omega
  ·have:=h x e;omega
 have S3:=hid (ae S2.out kk fun x hx=>⟨(S2.out.lt x hx).2,fun e=>OU x e _ (SWo.out.elim .inl fun h=>.inr (.inr h)) hx⟩);have F3:=hid (ae F2.out kk fun x hx=>⟨(F2.out.lt x hx).2,fun e=>OU x e _ (FW.out.2.elim (fun h=>.inr (.inl h)) fun h=>.inr (.inr h)) hx⟩);have Sq:Hid (aa (fun x=>x<w.heap.size/\¬F x) V w3):=hid ((KA2.out).tr (kk.mono fun x hx=>⟨by have:=hx.1;omega,by have:=hx.1;omega⟩));clear hx kk OU hq;clear Q2 R2 BM2 BM S2 F2 KA2 KA;have hw3:V.heap.size<=w3.heap.size:=Sq.out.size;go_wp2_with fail
 refine(xj (bW z) (w.heap.size+1+1) 7 n hn w3 (eR.bV Q3.out) (Q3.out.frozen _)).mono ?_;rintro e w4 ⟨⟨u,rfl⟩,hx⟩;have kk:aa (fun x=>x<w3.heap.size/\x≠w.heap.size+1+1) w3 w4:=(((aa.refl (· ≠w.heap.size+1+1) w3).setCell (p:=⟨w.heap.size+1+1,_,none⟩) (fun h=>h rfl) _).mono fun x hx=>hx.2).tr (hx.mono fun x hx=>hx.1);have hq:ak w4 (w.heap.size+1+1) (aq ⟨z ||| dK n,z ||| dK n,false⟩) 131:=by rw[<-Mv (z ||| dK n) z false hn];exact(Q3.out.set _ _).keeps hx Q3.out.lt
 have Q4:Hid (ak w4 (w.heap.size+1+1) (aq ⟨z ||| dK n,z ||| dK n,false⟩) 131):=hid hq;have R4:=hid (R3.out.keeps kk ⟨R3.out.lt,by omega⟩);have BM4:=hid (BM3.out.keeps kk ⟨BM3.out.lt,by omega⟩);have OU:∀ x,x=w.heap.size+1+1->∀ (v:Value),(v.ownBlock=(Value.slice sa n sc).ownBlock\/v.ownBlock=(Value.slice fa n fc).ownBlock\/∀ x,v.ownBlock=some x->V.heap.size<=x)->v.ownBlock≠some x:=fun x hx v hv e=>by
  rcases hv with h | h | h
  ·have:=(O1.out.lt x (by rw[<-h,e])).2;omega
  ·have:=(P1.out.lt x (by rw[<-h,e])).2;omega
  ·have:=h x e;omega
 have S4:=hid (ae S3.out kk fun x hx=>⟨(S3.out.lt x hx).2,fun e=>OU x e _ (SWo.out.elim .inl fun h=>.inr (.inr h)) hx⟩);have F4:=hid (ae F3.out kk fun x hx=>⟨(F3.out.lt x hx).2,fun e=>OU x e _ (FW.out.2.elim (fun h=>.inr (.inl h)) fun h=>.inr (.inr h)) hx⟩);have KA4:Hid (aa (fun x=>x<w.heap.size/\¬F x) V w4):=hid ((Sq.out).tr (kk.mono fun x hx=>⟨by have:=hx.1;omega,by have:=hx.1;omega⟩));clear hx kk OU hq;clear Q3 R3 BM3 S3 F3 Sq;rw[HZB.out]at Q4;go_wp2_with (first | (refine aK rfl 131 (.tmp 4) rfl (w.heap.size+1+1) rfl (aq ⟨dK n,dK n,false⟩) _ Q4.out.range Tryz.underlying131 rfl (aR _) ?_) | (refine wpList_store_row rfl 131 (.tmp 3) (.tmp 38) rfl (w.heap.size+1) (aq ⟨dK n,dK n,false⟩) rfl rfl 131 (zeroV false) R4.out (aR _) rfl (dE _) ?_;refine Hid.out ?_));refine hid ?_;obtain⟨V3,cg⟩:∃ W,W=w4.setRow (w.heap.size+1) (aq ⟨dK n,dK n,false⟩):=⟨_,rfl⟩;rw[<-cg];have R9:Hid (ak V3 (w.heap.size+1) (aq ⟨dK n,dK n,false⟩) 131):=by rw[cg];exact hid R4.out.setRow
 have K9:aa (· ≠w.heap.size+1) w4 V3:=by rw[cg];exact aV _ _ _
 clear cg;go_wp2;obtain⟨m0,m1,m2,m3,m4,m5,m6,m7,m8,m9,m10,m11,m12,m13,m14⟩:=R9.out.part;dsimp only at m0 m1 m2 m3 m4 m5 m6 m7 m8 m9 m10 m11 m12 m13 m14;refine bodyPost_ret (v:=.agg (aq ⟨dK n,dK n,false⟩)) (by simp[results,Tryz.results141,aq,go_sem,m0,m1,m2,m3,m4,m5,m6,m7,m8,m9,m10,m11,m12,m13,m14]) rfl ⟨rfl,?_,?_⟩
 ·have OU:∀ x,x=w.heap.size+1->∀ (v:Value),(v.ownBlock=(Value.slice sa n sc).ownBlock\/v.ownBlock=(Value.slice fa n fc).ownBlock\/∀ x,v.ownBlock=some x->V.heap.size<=x)->v.ownBlock≠some x:=fun x hx v hv e=>by
   rcases hv with h | h | h
   ·have:=(O1.out.lt x (by rw[<-h,e])).2;omega
   ·have:=(P1.out.lt x (by rw[<-h,e])).2;omega
   ·have:=h x e;omega
  have S9:=ae S4.out K9 fun x hx e=>OU x e _ (SWo.out.elim .inl fun h=>.inr (.inr h)) hx
  have F9:=ae F4.out K9 fun x hx e=>OU x e _ (FW.out.2.elim (fun h=>.inr (.inl h)) fun h=>.inr (.inr h)) hx
  have B9:=BM4.out.keeps K9 (by omega);have hs:=K9.size;have OO:=KA4.out.size;have es:aD (m.az++ [s])=aD m.az++(encS s).toList:=by rw[ft];simp[aD]
  have ef:dr (m.bJ++ [0])=dr m.bJ++eU.toList:=by rw[yM,Fh]
  have ls:(m.az++ [s]).length=n+1:=by rw[List.length_append, <-lU.out];rfl
  have lf:(m.bJ++ [(0:PB)]).length=n+1:=by rw[List.length_append,GI.out, <-lU.out];rfl
  refine⟨fun x=>F x\/(Value.slice ta (n+1) tc).ownBlock=some x\/(Value.slice f1 (n+1) f2).ownBlock=some x,⟨.inl HM.out.fm,fun x hx=>?_,_,_,B9,?_,fun x hx=>.inr (.inl hx),?_,fun x hx=>.inr (.inr hx)⟩,fun x hx=>.inl hx,fun x hx=>?_⟩
  ·rcases hx with h | h | h
   ·have:=HM.out.lt x h;exact⟨this.1,by omega⟩
   ·exact S9.lt x h
   ·exact F9.lt x h
  ·rw[ls,es];exact S9
  ·rw[lf,ef];exact F9
  ·rcases hx with h | h | h
   ·exact .inl h
   ·rcases SWo.out with h2 | h2
    ·exact .inl (S3.out x (by rw[<-h2];exact h))
    ·exact .inr (by have:=h2 x h;omega)
   ·rcases FW.out.2 with h2 | h2
    ·exact .inl (S5.out x (by rw[<-h2];exact h))
    ·exact .inr (by have:=h2 x h;omega)
 ·exact((E0.out.keeps.mono fun x hx=>hx.1).tr KA4.out).tr (K9.mono fun x hx=>by have:=hx.1;omega)
end Go.Proofs.YtbiboekhakbnpaaGreatDoor
