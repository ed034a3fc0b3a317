/- The law's small trees: letters. -/
import Derived.Test.YtalombmiochpmaaGreatDoorOP25
set_option maxRecDepth 100000
set_option maxHeartbeats 16000000
open Go.Lib (hid)
namespace Go.Proofs.YtalombmiochpmaaGreatDoor
open Go Go.RowKit Go.Shelf Go.Maps
attribute [local go_sem] bP
theorem Cu (x:PB):(dc (bW x) 448).length=(dA x).length/\(dc (bW x) 448).map uC=(dA x).map aG:=by rw[<-Jh];refine⟨by simp,?_⟩;rw[List.map_map];rfl
theorem qV (x:PB) (b off:Nat) (w:World) (hb:fe w b off (bW x)):Calls Tryz.prog 78 #[.pointer (some ⟨b,off,none⟩)] w fun e w'=>∃ v,e=.returned v/\w'.ownsRow w.heap.size 3 1 v (dA x).length ((dA x).map aG)/\Below w.heap.size w w':=by have h:=Fp (bW x) b off w hb;rw[(Cu x).1,(Cu x).2]at h;exact h
theorem GM.ok0:(⟨[],[]⟩:GM).ok:=⟨rfl,fun f h=>(by cases h),fun s h=>(by cases h)⟩
theorem eJ.new {base M:Nat} {w:World} (h:ah w M #[.slice none 0 0,.slice none 0 0] 135) (hb:base<=M):eJ base M (· =M) w ⟨[],[]⟩:=
 ⟨rfl,(fun x hx=>by subst hx;exact⟨hb,h.lt⟩),_,_,h,World.ownsRow_nil _ _ _ _,(fun x e=>by cases e),World.ownsRow_nil _ _ _ _,(fun x e=>by cases e)⟩
theorem Jy (v:Value) (t:RX) (w:World) (h:aF (· <w.heap.size) w v t) (hf:t.fine) (hs:t.size<=120) (hp:t.bR<=400): Calls Tryz.prog 46 #[v] w fun e w'=>∃ u,e=.returned (.tuple #[u,.int .i64 0])/\pH w.heap.size w' u t.nf/\Below w.heap.size w w':=by
 obtain⟨iL,zX,kV,kW,kX⟩:=info_parts Tryz.rH;obtain⟨p,c,rfl⟩:=h.form;have uW:=nS t hf;have Zx:=Ce t hf hp;have kK:=l4 t uW ⟨[],[]⟩ GM.ok0;obtain⟨v,hv⟩:∃ v,v=Value.agg (ai t.kind t.set t.mn t.mx (.slice p t.subs.length c)):=⟨_,rfl⟩;rw[<-hv]at h;have CC:Hid (∀ W,Below w.heap.size w W->Calls Tryz.prog 74 #[v] W fun e w'=>e=.returned (.bool true)/\Below W.heap.size W w'):=hid fun W hW=>Cs v t hf (by omega) W ((h.l5 hW).mono fun b hb=>Nat.lt_of_lt_of_le hb hW.size)
 have CS:Hid (∀ W,Below w.heap.size w W->Calls Tryz.prog 75 #[v] W fun e w'=>e=.returned (.int .i64 t.size)/\Below W.heap.size W w'):=hid fun W hW=>FD v t (by omega) W ((h.l5 hW).mono fun b hb=>Nat.lt_of_lt_of_le hb hW.size)
 have CP:Hid (∀ W,Below w.heap.size w W->Calls Tryz.prog 76 #[v] W fun e w'=>e=.returned (.int .i64 t.bR)/\Below W.heap.size W w'):=hid fun W hW=>sK v t (by omega) W ((h.l5 hW).mono fun b hb=>Nat.lt_of_lt_of_le hb hW.size)
 obtain⟨m2,p2,sB⟩:∃ m2 p2,t.cN ⟨[],[]⟩=(m2,p2):=⟨_,_,rfl⟩;have CM:Hid (∀ W M,Below w.heap.size w W->w.heap.size<=M->ah W M #[.slice none 0 0,.slice none 0 0] 135->Calls Tryz.prog 77 #[.pointer (some ⟨M,0,none⟩),v] W (iE w.heap.size M (· =M) W m2 p2)):=hid fun W M hW hM hB=>by
  have:=Ns w.heap.size t hf (by omega) w.heap.size M (· =M) ⟨[],[]⟩ W v (Nat.le_refl _) (eJ.new hB hM) (h.l5 hW) GM.ok0 rfl (by show 0+t.cnt<=448;omega);rw[sB]at this;exact this
 rw[hv]at CC CS CP CM;rw[sB]at kK;have nG:=kK.len;have DD:=kK.ok.len;dsimp only at nG DD;have nG:m2.aB.length=0+t.cnt:=nG;have enf:t.nf=⟨m2.aB,m2.bQ.map dA,dA p2.fst,dA p2.ct,p2.emp⟩:=by unfold RX.nf;rw[sB]
 have Gh:t.kind≠0:=mJ hf;obtain⟨k,hk⟩:∃ k,k=t.kind:=⟨_,rfl⟩;obtain⟨sz,hsz⟩:∃ k,k=t.size:=⟨_,rfl⟩;obtain⟨ps,OS⟩:∃ k,k=t.bR:=⟨_,rfl⟩;obtain⟨nl,vO⟩:∃ k,k=t.subs.length:=⟨_,rfl⟩;rw[enf];rw[<-hk, <-vO]at CC CS CP CM ⊢;rw[<-hk]at Gh;rw[<-hsz]at CS hs;rw[<-OS]at CP hp;obtain⟨n,hn⟩:∃ n,n=m2.aB.length:=⟨_,rfl⟩;rw[<-hn]at DD nG;have Sy:n<=400:=by omega
 obtain⟨st,hst⟩:∃ st,st=t.set:=⟨_,rfl⟩;obtain⟨tn,xM⟩:∃ x,x=t.mn:=⟨_,rfl⟩;obtain⟨tx,Nx⟩:∃ x,x=t.mx:=⟨_,rfl⟩;rw[<-hst, <-xM, <-Nx]at CC CS CP CM ⊢;have HN:=hid hn;have HL3:=hid DD;have HS:=hid hs;have HP:=hid hp;clear kK h hv hf uW Zx sB nG DD enf hk hsz OS vO hn hst xM Nx v;unfold ai at CC CS CP CM ⊢;have hs9:¬ ((120:Int)<sz):=by have:=HS.out;omega
 have hp9:¬ ((400:Int)<ps):=by have:=HP.out;omega
 go_enter Tryz.func46,Tryz.ntmps46
 go_upto_region 1 with fail
 refine ax ?_;intro V hV;have B1:Hid (ah V w.heap.size #[.int .u8 k,.int .u64 (wd st 0).toNat,.int .u64 (wd st 1).toNat,.int .u64 (wd st 2).toNat,.int .u64 (wd st 3).toNat,.int .i64 tn,.int .i64 tx,.slice p nl c] 62):=by rw[hV];exact hid ((ah.new w _ _).alloc _)
 have B2:Hid (ah V (w.heap.size+1) #[.slice none 0 0,.slice none 0 0,.slice none 0 0,.slice none 0 0,.bool false] 97):=by rw[hV];exact hid ((ah.new (w.alloc _) _ _).at (by simp))
 have HX:Hid (Below w.heap.size w V):=by rw[hV];exact hid (((Ext.refl w).alloc _).alloc _).below
 have Bv:V.heap.size=w.heap.size+1+1:=by rw[hV];simp
 have qd:=hid Bv;clear hV Bv;have e0:V.cell? ⟨w.heap.size,0,none⟩=some (.int .u8 k):=B1.out.cell 0;have e1:V.cell? ⟨w.heap.size,1,none⟩=some (.int .u64 (wd st 0).toNat):=B1.out.cell 1;have e2:V.cell? ⟨w.heap.size,2,none⟩=some (.int .u64 (wd st 1).toNat):=B1.out.cell 2;have e3:V.cell? ⟨w.heap.size,3,none⟩=some (.int .u64 (wd st 2).toNat):=B1.out.cell 3;have e4:V.cell? ⟨w.heap.size,4,none⟩=some (.int .u64 (wd st 3).toNat):=B1.out.cell 4;have e5:V.cell? ⟨w.heap.size,5,none⟩=some (.int .i64 tn):=B1.out.cell 5;have e6:V.cell? ⟨w.heap.size,6,none⟩=some (.int .i64 tx):=B1.out.cell 6;have e7:V.cell? ⟨w.heap.size,7,none⟩=some (.slice p nl c):=B1.out.cell 7;have vY:¬ ((k:Int)=0):=by omega
 go_wp2_with fail
 refine(CC.out V HX.out).mono ?_;rintro e V2 ⟨rfl,hx⟩;have B1:=hid (B1.out.below hx B1.out.lt);have B2:=hid (B2.out.below hx B2.out.lt);have HX:=hid (HX.out.trans (hx.mono HX.out.size));have Jz:Hid (w.heap.size+1+1<=V2.heap.size):=hid (by have:=hx.size;have:=qd.out;omega);clear hx e0 e1 e2 e3 e4 e5 e6 e7 qd CC;have e0:V2.cell? ⟨w.heap.size,0,none⟩=some (.int .u8 k):=B1.out.cell 0;have e1:V2.cell? ⟨w.heap.size,1,none⟩=some (.int .u64 (wd st 0).toNat):=B1.out.cell 1;have e2:V2.cell? ⟨w.heap.size,2,none⟩=some (.int .u64 (wd st 1).toNat):=B1.out.cell 2;have e3:V2.cell? ⟨w.heap.size,3,none⟩=some (.int .u64 (wd st 2).toNat):=B1.out.cell 3;have e4:V2.cell? ⟨w.heap.size,4,none⟩=some (.int .u64 (wd st 3).toNat):=B1.out.cell 4;have e5:V2.cell? ⟨w.heap.size,5,none⟩=some (.int .i64 tn):=B1.out.cell 5;have e6:V2.cell? ⟨w.heap.size,6,none⟩=some (.int .i64 tx):=B1.out.cell 6;have e7:V2.cell? ⟨w.heap.size,7,none⟩=some (.slice p nl c):=B1.out.cell 7;go_wp2_with fail
 refine(CS.out V2 HX.out).mono ?_;rintro e V3 ⟨rfl,hx⟩;have B1:=hid (B1.out.below hx B1.out.lt);have B2:=hid (B2.out.below hx B2.out.lt);have HX:=hid (HX.out.trans (hx.mono HX.out.size));have Jz:Hid (w.heap.size+1+1<=V3.heap.size):=hid (by have:=hx.size;have:=Jz.out;omega);clear hx e0 e1 e2 e3 e4 e5 e6 e7 CS;have e0:V3.cell? ⟨w.heap.size,0,none⟩=some (.int .u8 k):=B1.out.cell 0;have e1:V3.cell? ⟨w.heap.size,1,none⟩=some (.int .u64 (wd st 0).toNat):=B1.out.cell 1;have e2:V3.cell? ⟨w.heap.size,2,none⟩=some (.int .u64 (wd st 1).toNat):=B1.out.cell 2;have e3:V3.cell? ⟨w.heap.size,3,none⟩=some (.int .u64 (wd st 2).toNat):=B1.out.cell 3;have e4:V3.cell? ⟨w.heap.size,4,none⟩=some (.int .u64 (wd st 3).toNat):=B1.out.cell 4;have e5:V3.cell? ⟨w.heap.size,5,none⟩=some (.int .i64 tn):=B1.out.cell 5;have e6:V3.cell? ⟨w.heap.size,6,none⟩=some (.int .i64 tx):=B1.out.cell 6;have e7:V3.cell? ⟨w.heap.size,7,none⟩=some (.slice p nl c):=B1.out.cell 7;go_wp2_with fail
 refine(CP.out V3 HX.out).mono ?_;rintro e V4 ⟨rfl,hx⟩;have B1:=hid (B1.out.below hx B1.out.lt);have B2:=hid (B2.out.below hx B2.out.lt);have HX:=hid (HX.out.trans (hx.mono HX.out.size));have Jz:Hid (w.heap.size+1+1<=V4.heap.size):=hid (by have:=hx.size;have:=Jz.out;omega);clear hx e0 e1 e2 e3 e4 e5 e6 e7 CP;go_upto_region 6 with fail
 refine ax ?_;intro V5 WN;have BM:Hid (ah V5 V4.heap.size #[.slice none 0 0,.slice none 0 0] 135):=by rw[WN];exact hid (ah.new _ _ _)
 have E5:Hid (Ext V4 V5):=by rw[WN];exact hid ((Ext.refl _).alloc _)
 clear WN;obtain⟨M,Ym⟩:∃ M,M=V4.heap.size:=⟨_,rfl⟩;rw[<-Ym]at BM ⊢;have B1:=hid (B1.out.ext E5.out);have B2:=hid (B2.out.ext E5.out);have HX:=hid (HX.out.trans (E5.out.below.mono HX.out.size));have hM2:w.heap.size+1+1<=M:=by have:=Jz.out;omega
 have hMl:M<V5.heap.size:=BM.out.lt;have CM:=hid (CM.out V5 M HX.out (by omega) BM.out);clear E5 Jz BM Ym;have e0:V5.cell? ⟨w.heap.size,0,none⟩=some (.int .u8 k):=B1.out.cell 0;have e1:V5.cell? ⟨w.heap.size,1,none⟩=some (.int .u64 (wd st 0).toNat):=B1.out.cell 1;have e2:V5.cell? ⟨w.heap.size,2,none⟩=some (.int .u64 (wd st 1).toNat):=B1.out.cell 2;have e3:V5.cell? ⟨w.heap.size,3,none⟩=some (.int .u64 (wd st 2).toNat):=B1.out.cell 3;have e4:V5.cell? ⟨w.heap.size,4,none⟩=some (.int .u64 (wd st 3).toNat):=B1.out.cell 4;have e5:V5.cell? ⟨w.heap.size,5,none⟩=some (.int .i64 tn):=B1.out.cell 5;have e6:V5.cell? ⟨w.heap.size,6,none⟩=some (.int .i64 tx):=B1.out.cell 6;have e7:V5.cell? ⟨w.heap.size,7,none⟩=some (.slice p nl c):=B1.out.cell 7;go_wp2_with fail
 refine CM.out.mono ?_;rintro e V6 ⟨rfl,⟨F,hF,hFM,hFo⟩,hx,hsz⟩;have B2:=hid (B2.out.keeps hx ⟨B2.out.lt,by omega⟩);have HX:=hid (HX.out.trans (hx.mono fun x (hx:x<w.heap.size)=>⟨by omega,by omega⟩:aa (· <w.heap.size) V5 V6).below);have MF:=hid hF;have FO:=hid hFo;have ZF:M<V6.heap.size:=(hF.lt M hF.fm).2;clear hx hF hFM hFo hsz CM B1 e0 e1 e2 e3 e4 e5 e6 e7;unfold aw;go_upto_region 7 with fail
 refine ax ?_;intro V7 JA;have X7:Hid (ah V7 V6.heap.size (aw p2) 139):=by rw[JA];exact hid (ah.new _ _ _)
 have E7:Hid (Ext V6 V7):=by rw[JA];exact hid ((Ext.refl _).alloc _)
 clear JA;obtain⟨sv,fv,hM,r1,r1F,r2,r2F⟩:=MF.out.row;obtain⟨bq,hbq⟩:∃ b,b=V6.heap.size:=⟨_,rfl⟩;rw[<-hbq]at X7 ⊢;have akh:M<bq:=by omega
 have BM:=hid (hM.ext E7.out);have HX:=hid (HX.out.trans (E7.out.below.mono HX.out.size));have B2:=hid (B2.out.ext E7.out);rw[HL3.out]at r2;rw[<-HN.out]at r1;obtain⟨sa,sc,rfl⟩:=ownsRow_form r1;obtain⟨fa,fc,rfl⟩:=ownsRow_form r2;have R1:=hid (ak r1 E7.out.below);have R2:=hid (ak r2 E7.out.below);have adT:bq<V7.heap.size:=X7.out.lt;clear MF FO hM r1 r2 r1F r2F E7 hbq ZF;obtain⟨n2,kU⟩:∃ n,n=(dA p2.fst).length:=⟨_,rfl⟩;obtain⟨n3,Bq⟩:∃ n,n=(dA p2.ct).length:=⟨_,rfl⟩;obtain⟨X2s,hX2⟩:∃ n,n=(dA p2.fst).map aG:=⟨_,rfl⟩;obtain⟨X3s,hX3⟩:∃ n,n=(dA p2.ct).map aG:=⟨_,rfl⟩;obtain⟨em,WO⟩:∃ n,n=p2.emp:=⟨_,rfl⟩;have L2:Hid (∀ W,Below V7.heap.size V7 W->Calls Tryz.prog 78 #[.pointer (some ⟨bq,0,none⟩)] W fun e w'=>∃ v,e=.returned v/\w'.ownsRow W.heap.size 3 1 v n2 X2s/\Below W.heap.size W w'):=hid fun W hW=>by rw[kU,hX2];exact qV p2.fst bq 0 W (fe.fst (X7.out.below hW X7.out.lt))
 have L3:Hid (∀ W,Below V7.heap.size V7 W->Calls Tryz.prog 78 #[.pointer (some ⟨bq,7,none⟩)] W fun e w'=>∃ v,e=.returned v/\w'.ownsRow W.heap.size 3 1 v n3 X3s/\Below W.heap.size W w'):=hid fun W hW=>by rw[Bq,hX3];exact qV p2.ct bq 7 W (fe.ct (X7.out.below hW X7.out.lt))
 have b0:V7.cell? ⟨M,0,none⟩=some (.slice sa n sc):=BM.out.cell 0;have mL:V7.cell? ⟨bq,14,none⟩=some (.bool em):=by rw[WO];exact X7.out.cell 14
 have pZ:=hid kU;have UL:=hid Bq;have eM:=hid hX2;have nL:=hid hX3;have HEM:=hid WO;clear kU Bq hX2 hX3 WO X7;have adW:M<V7.heap.size:=by omega
 refine aA false (fun _=>False) (by kernel_rfl) 12 [0,1,3,7,0,16,0,112,0,256,1023,0,4095] (fun i=>i==5 || i==7 || i==11 || i==12) (by kernel_rfl) (fun i=>if i=5 then aR.QB V7.heap.size n2 X2s else if i=7 then aR.QB V7.heap.size n3 X3s else if i=11 then aR.UH V7.heap.size #[.slice none 0 0,.slice none 0 0,.slice none 0 0,.slice none 0 0,.bool false] 97 else aR.any _) ?_;intro C hC hne;have HC:=hid hC;have f1:=au hC (p:=⟨M,0,none⟩) adW (fun h=>h) b0;have f2:=au hC (p:=⟨bq,14,none⟩) adT (fun h=>h) mL;clear hC b0 mL
 repeat (refine ae (fun K hK=>?_);first | (refine bp rfl ?_;try go_simp;refine hK _ _ ?_;clear hK K) | (refine aX rfl rfl ?_;unfold aq;go_simp;refine hK _ _ ?_;clear hK K))
 refine ae (fun K hK=>?_);refine bH rfl rfl (aR.QB V7.heap.size n2 X2s) rfl (fun W hW hN=>?_) (fun v hv=>?_)
 ·have hM:=(HC.out W).1 hW
  clear hW;go_simp;refine bC ((L2.out W hM.below).mono ?_);rintro e w2 ⟨u,rfl,ho,hx⟩;exact⟨_,rfl,Move.aj hx,ownsRow_form ho,az ho hM.size⟩
 obtain⟨a5,c5,rfl⟩:=hv;go_simp;refine hK _ _ ?_;clear hK K
 repeat (refine ae (fun K hK=>?_);first | (refine bp rfl ?_;try go_simp;refine hK _ _ ?_;clear hK K) | (refine aX rfl rfl ?_;unfold aq;go_simp;refine hK _ _ ?_;clear hK K))
 refine ae (fun K hK=>?_);refine bH rfl rfl (aR.QB V7.heap.size n3 X3s) rfl (fun W hW hN=>?_) (fun v hv=>?_)
 ·have hM:=(HC.out W).1 hW
  clear hW;go_simp;refine bC ((L3.out W hM.below).mono ?_);rintro e w2 ⟨u,rfl,ho,hx⟩;exact⟨_,rfl,Move.aj hx,ownsRow_form ho,az ho hM.size⟩
 obtain⟨a6,c6,rfl⟩:=hv;go_simp;refine hK _ _ ?_;clear hK K
 repeat (refine ae (fun K hK=>?_);first | (refine bp rfl ?_;try go_simp;refine hK _ _ ?_;clear hK K) | (refine aX rfl rfl ?_;unfold aq;go_simp;refine hK _ _ ?_;clear hK K))
 refine ae (fun K0 hK=>?_);refine bH rfl rfl (aR.UH V7.heap.size #[.slice none 0 0,.slice none 0 0,.slice none 0 0,.slice none 0 0,.bool false] 97) rfl (fun W hW hN=>?_) (fun v hv=>?_)
 ·have hM:=(HC.out W).1 hW
  have DC:=hM.size;clear hW hN hK K0;go_simp;exact⟨Move.aj ((Ext.refl _).alloc _).below,⟨_,rfl⟩,fun b hb=>by cases hb;exact⟨ah.new _ _ _,DC⟩⟩
 obtain⟨bx,rfl⟩:=hv;go_simp;refine hK _ _ ?_;clear hK K0;refine aV (fun W hW hH=>?_);have hM:=(HC.out W).1 hW;have hb8:(aR.UH V7.heap.size #[.slice none 0 0,.slice none 0 0,.slice none 0 0,.slice none 0 0,.bool false] 97).H (.pointer (some ⟨bx,0,none⟩)) W:=hH _ (List.mem_of_getElem? (show _=some _ from rfl:_[0]? =some _));have L6:Hid (W.ownsRow V7.heap.size 3 1 (.slice a6 n3 c6) n3 X3s):=hid (hH _ (List.mem_of_getElem? (show _=some _ from rfl:_[1]? =some _)));have L5:Hid (W.ownsRow V7.heap.size 3 1 (.slice a5 n2 c5) n2 X2s):=hid (hH _ (List.mem_of_getElem? (show _=some _ from rfl:_[2]? =some _)));have BX:=hid (hb8 bx rfl);have XW:=hid hM.below;have YZ:V7.heap.size<=W.heap.size:=hM.size;have L4:=hid (ak R1.out hM.below);have LF:=hid (ak R2.out hM.below);have DM:=hid (BM.out.below hM.below BM.out.lt);clear hM hW hH HC hne f1 f2 hb8 L2 L3 R1 R2 BM;obtain⟨x0,x1,x2,x3,x4⟩:=BX.out.1.five;have z0:=BX.out.1.frozen 0;have z1:=BX.out.1.frozen 1;have z2:=BX.out.1.frozen 2;have z3:=BX.out.1.frozen 3;have z4:=BX.out.1.frozen 4;have Aw:bx≠M:=by have:=BX.out.2;omega
 have D2:=(((((DM.out.other (p:=⟨bx,0,none⟩) Aw (.slice sa n sc)).other (p:=⟨bx,1,none⟩) Aw (.slice none 0 0)).other (p:=⟨bx,2,none⟩) Aw (.slice a5 n2 c5)).other (p:=⟨bx,3,none⟩) Aw (.slice a6 n3 c6)).other (p:=⟨bx,4,none⟩) Aw (.bool em));have k0:=D2.cell 1;simp only[List.getElem?_toArray,List.getElem?_cons_zero,List.getElem?_cons_succ]at k0;clear D2;go_wp2;clear k0;refine ax ?_;intro W2 hW2;have BD:Hid (ah W2 bx #[.slice sa n sc,.slice none 0 0,.slice a5 n2 c5,.slice a6 n3 c6,.bool em] 97):=by rw[hW2];exact hid BX.out.1.YN
 have K2:aa (· ≠bx) W W2:=by rw[hW2];exact uw _ _ _ _ _ _ _
 clear hW2 x0 x1 x2 x3 x4 z0 z1 z2 z3 z4;have hbl:∀ {base:Nat} {e:TypeId} {size n:Nat} {u:Value} {xs:List Value},W.ownsRow base e size u n xs->97≠e->W2.ownsRow base e size u n xs:=fun h he=>ag h K2 fun x hx=>cH BX.out.1 h he x hx
 have M4:=hid (hbl L4.out (by decide));have M5:=hid (hbl L5.out (by decide));have M6:=hid (hbl L6.out (by decide));have MF:=hid (hbl LF.out (by decide));have hVb:V7.heap.size<=bx:=BX.out.2;have E2:=hid ((B2.out.below XW.out B2.out.lt).keeps K2 (by have:=B2.out.lt;show w.heap.size+1≠bx;omega));have X2:Hid (Below w.heap.size w W2):=hid ((HX.out.trans (XW.out.mono HX.out.size)).trans (K2.mono fun x (hx:x<w.heap.size)=>by have:=B2.out.lt;omega:aa (· <w.heap.size) W W2).below);have agt:W.heap.size<=W2.heap.size:=K2.size;have akj:=B2.out.lt;have hb3:bx<W2.heap.size:=BD.out.lt;clear K2 hbl L4 L5 L6 LF BX XW DM B2 HX;go_loopw [53] (fun i wr=>∃ (kk:Nat) (u:Value),kk<=n/\i=.int .i64 kk/\ah wr bx #[.slice sa n sc,u,.slice a5 n2 c5,.slice a6 n3 c6,.bool em] 97/\aH W2.heap.size wr u ((m2.bQ.map dA).take kk)/\aa (fun x=>x<W2.heap.size/\x≠bx) W2 wr) (fun i _=>n-(intOf i).toNat);case atStart=>exact⟨0,_,by omega,rfl,BD.out,aH.nil _ _,aa.refl _ _⟩
 case round=>
  obtain⟨kk,u,hk,rfl,hb,ho,hx⟩:=hrel;obtain⟨w5,rfl⟩:∃ w5:World,w5=wr:=⟨_,rfl⟩;have Jn:Below w.heap.size w w5:=X2.out.trans (hx.mono fun x (js:x<w.heap.size)=>⟨Nat.lt_of_lt_of_le js X2.out.size,by omega⟩:aa (· <w.heap.size) W2 w5).below;by_cases hlt:kk<n
  ·obtain⟨f,hl⟩:∃ l,m2.bQ[kk]? =some l:=⟨_,List.getElem?_eq_getElem (by have:=HL3.out;omega)⟩
   have dL:(m2.bQ.map dA).take (kk+1)=(m2.bQ.map dA).take kk++ [dA f]:=by rw[List.take_add_one,List.getElem?_map,hl];rfl
   have hlen:((m2.bQ.map dA).take kk).length<=1000000:=by rw[List.length_take];omega
   have eT:(kk:Int)<n:=by omega
   have hrow:=ag MF.out hx fun x js=>⟨(MF.out.lt x js).2,cH BD.out MF.out (by decide) x js⟩
   obtain⟨g,cap,efv⟩:∃ g cap,Value.slice fa n fc=.slice (some ⟨g,0,none⟩) n cap:=by
    rcases hrow.2 with⟨_,e2⟩ | ⟨g,cap,cur,e2,_⟩
    ·exfalso;omega
    ·exact⟨g,cap,e2⟩
   injection efv with e1 e2 e3
   subst e1 e3;have jP:g<w5.heap.size:=(hrow.lt g rfl).2;have lH:n<=fc:=by
    rcases hrow.2 with⟨e,_⟩ | ⟨g',c',cur,e4,_,_,h9,_⟩
    ·cases e
    ·cases e4;omega
   have ce:∀ i,i<7->w5.cell? ⟨g,kk*7+i,none⟩=some (.int .u64 (bW f i).toNat):=fun i hi=>by
    have:=hrow.cells (g:=g) rfl _ _ (uM hl hi);rw[Addr.add_mid]at this;simpa using this
   have e0:=ce 0 (by decide);have e1:=ce 1 (by decide);have e2:=ce 2 (by decide);have e3:=ce 3 (by decide);have e4:=ce 4 (by decide);have e5:=ce 5 (by decide);have e6:=ce 6 (by decide);simp only[Nat.add_zero]at e0;obtain⟨us,u1,u2,u3⟩:=ho;obtain⟨ml,pX⟩:∃ m,m=us.length:=⟨_,rfl⟩;have Gw:ml<=1000000:=by omega
   obtain⟨j,hj⟩:∃ j,j=(dA f).length:=⟨_,rfl⟩;rw[<-pX]at u1 u2;have wI:=hid pX;have HJ:=hid hj;obtain⟨ua5,uc5,rfl⟩:=ownsRow_form u2;have U2:=hid u2;have U3:=hid u3;have U1:=hid u1;have HB:=hid hb;have HK:=hid hx;have HT:=hid dL;have hgz:g<w5.heap.size:=jP;clear hl hb hx dL Jn u1 u2 u3 pX hj hlen hrow ce;go_upto_region 11 with fail
   refine ax ?_;intro W6 sQ;have Z6:Hid (ah W6 w5.heap.size (bP (bW f)) 137):=by rw[sQ];exact hid (ah.new _ _ _)
   have E6:Hid (Ext w5 W6):=by rw[sQ];exact hid ((Ext.refl _).alloc _)
   clear sQ e0 e1 e2 e3 e4 e5 e6;have U2:=hid (ak U2.out E6.out.below);have U3:=hid fun i u l hu hl=>ak (U3.out i u l hu hl) E6.out.below
   have HB:=hid (HB.out.ext E6.out);have HK:=hid (HK.out.tr (E6.out.keeps.mono fun x hx=>Nat.lt_of_lt_of_le hx.1 HK.out.size));have CL:Hid (∀ W,Below W6.heap.size W6 W->Calls Tryz.prog 78 #[.pointer (some ⟨w5.heap.size,0,none⟩)] W fun e w'=>∃ v,e=.returned v/\w'.ownsRow W.heap.size 3 1 v j ((dA f).map aG)/\Below W.heap.size W w'):=hid fun W hW=>by rw[HJ.out];exact qV f _ 0 W (fe.MG (Z6.out.below hW Z6.out.lt))
   clear E6 Z6;refine aA false (fun _=>False) (by kernel_rfl) 4 [0,1,0,4,15,31,63] (fun i=>i==2 || i==3 || i==4 || i==6) (by kernel_rfl) (fun i=>if i=2 then aR.row W2.heap.size 3 1 j ((dA f).map aG)else if i=3 then aR.Gy W2.heap.size j ((dA f).map aG)else aR.any _) ?_;intro C hC hne;have HC:=hid hC;have f0:=au hC (p:=⟨bx,1,none⟩) (by have:=HB.out.lt;exact this) (fun h=>h) (HB.out.cell 1);clear hC
   repeat (refine ae (fun K hK=>?_);first | (refine bp rfl ?_;try go_simp;refine hK _ _ ?_;clear hK K) | (refine aX rfl rfl ?_;unfold aq;go_simp;refine hK _ _ ?_;clear hK K))
   refine ae (fun K hK=>?_);refine bH rfl rfl (aR.row W2.heap.size 3 1 j ((dA f).map aG)) rfl (fun W hW hN=>?_) (fun v hv=>?_)
   ·have hM:=(HC.out W).1 hW
    clear hW;go_simp;refine bC ((CL.out W hM.below).mono ?_);rintro e w2 ⟨vp,rfl,ho,hx⟩;exact⟨_,rfl,Move.aj hx,ownsRow_form ho,az ho (Nat.le_trans HK.out.size hM.size)⟩
   obtain⟨a7,c7,rfl⟩:=hv;go_simp;refine hK _ _ ?_;clear hK K;refine ae (fun K hK=>?_);refine bH rfl rfl (aR.Gy W2.heap.size j ((dA f).map aG)) rfl (fun W hW hN=>?_) (fun v hv=>?_)
   ·have hro:W.ownsRow W2.heap.size 3 1 (.slice a7 j c7) j ((dA f).map aG):=hN.at 0 rfl (by kernel_rfl)
    have ZG:=hid hro;clear hW hN hK K hro;go_simp;exact⟨Move.ext ((Ext.refl _).alloc _),⟨_,rfl⟩,fun b hb=>by cases hb;exact⟨_,ah.new _ _ _,ZG.out.alloc _⟩⟩
   obtain⟨bz,rfl⟩:=hv;go_simp;refine hK _ _ ?_;clear hK K;refine aV (fun W hW hH=>?_);have hM:=(HC.out W).1 hW;obtain⟨ux,Vk,hux⟩:∃ ux,ah W bz #[ux] 47/\W.ownsRow W2.heap.size 3 1 ux j ((dA f).map aG):=hH _ (List.mem_cons_self ..) bz rfl;obtain⟨a8,c8,rfl⟩:=ownsRow_form hux;have HBX:=hid Vk;have HUX:=hid hux;have YB:=hid (HB.out.below hM.below HB.out.lt);have YO:=hid (ak U2.out hM.below);have Y3:=hid fun i u l hu hl=>ak (U3.out i u l hu hl) hM.below
   have YK:=hid (HK.out.tr (aa.aj hM.below fun x hx=>Nat.lt_of_lt_of_le hx.1 HK.out.size));have Bv:W2.heap.size<=W.heap.size:=Nat.le_trans HK.out.size hM.size;clear hM hW hH f0 HC HB HK Vk hux U2 U3;go_wp2_with (at_builtin;refine Hid.out ?_);refine hid ?_;refine wpList_append_own_at _ rfl (.tmp 58) (.tmp 60) 26 rfl W2.heap.size 47 iL (.slice none 0 0) 1 24 Tryz.underlying26 zX kV kW kX rfl (by decide) _ _ _ rfl YO.out ⟨bz,0,none⟩ 1 1 [.slice a8 j c8] rfl rfl HBX.out.Sq (by simp[Value.oneCell']) (by unfold maxLen;omega) (by omega) Bv ?_;intro v' w3 hown' hgrow hh hat;have WQ:=hid hown';have HG:=hid hgrow;obtain⟨ua3,uc3,rfl⟩:=ownsRow_form hown';have Vl:∀ x,(Value.slice ua5 ml uc5).ownBlock=some x->W2.heap.size<=x:=(fun x e=>(YO.out.lt x e).1);have ZB:=hid (YB.out.grown hgrow (fun e=>by have:=Vl _ e.symm;omega));have ZK:=hid (YK.out.tr (aa.aU hgrow fun x hx=>⟨Nat.lt_of_lt_of_le hx.1 Bv,fun e=>by have:=Vl x e.symm;omega⟩));have UY:W.heap.size<=w3.heap.size:=hgrow.size;have p1:=ZB.out.cell 1;have q1:=ZB.out.frozen 1;clear hown' hgrow hh hat Vl;go_wp2;go_roundw;case rel=>
    refine⟨kk+1,_,by omega,by go_num,ZB.out.set 1 _,?_,ZK.out.setCell (p:=⟨bx,1,none⟩) (fun h=>h.2 rfl) _⟩;have hs:aH W2.heap.size w3 (.slice ua3 (ml+1) uc3) ((m2.bQ.map dA).take kk++ [dA f]):=aH.snoc (w:=W) (v:=.slice ua5 ml uc5) (us:=us) (u:=.slice a8 j c8) (by rw[<-wI.out];exact U1.out) (by rw[<-wI.out];exact YO.out) (fun i u l hu hl=>Y3.out i u l hu hl) (by rw[<-HJ.out];exact HUX.out) HG.out (by rw[<-wI.out];exact WQ.out);rw[HT.out];exact hs.keeps ((aa.refl (· ≠bx) _).setCell (p:=⟨bx,1,none⟩) (fun h=>h rfl) _) (fun x h1 _ e=>by omega)
   case measure=>simp[intOf];omega
  ·obtain rfl:kk=n:=by omega
   clear hlt hk;have eT:¬ ((kk:Int)<kk):=by omega
   have dL:(m2.bQ.map dA).take kk=m2.bQ.map dA:=by rw[show kk=(m2.bQ.map dA).length by rw[List.length_map,HL3.out]];exact List.take_length
   rw[dL]at ho;obtain⟨ua,uc,ZH⟩:=ho.form;rw[List.length_map,HL3.out]at ZH;subst ZH;have R0:=hid ho;have XA:=hid Jn;have CB:=hid hb;have HK:=hid hx;have C2:=hid (E2.out.keeps hx ⟨E2.out.lt,by omega⟩);clear ho hb hx dL Jn;obtain⟨p0,p1,p2,p3,p4⟩:=CB.out.five;obtain⟨y0,y1,y2,y3,y4⟩:=C2.out.five;have z0:=C2.out.frozen 0;have z1:=C2.out.frozen 1;have z2:=C2.out.frozen 2;have z3:=C2.out.frozen 3;have z4:=C2.out.frozen 4;go_wp2;refine aP ?_;intro W9 cT;have E9:Hid (ah W9 (w.heap.size+1) #[.slice sa kk sc,.slice ua kk uc,.slice a5 n2 c5,.slice a6 n3 c6,.bool em] 97/\aa (· ≠w.heap.size+1) w5 W9):=by rw[cT];exact hid ⟨C2.out.YN,uw _ _ _ _ _ _ _⟩
   clear cT z0 z1 z2 z3 z4 y0 y1 y2 y3 y4 p0 p1 p2 p3 p4;obtain⟨m0,m1,m2',m3,m4⟩:=E9.out.1.five;have key:∀ {base:Nat} {e:TypeId} {size n:Nat} {u:Value} {xs:List Value},w.heap.size<=base->W2.ownsRow base e size u n xs->97≠e->W9.ownsRow w.heap.size e size u n xs:=fun hb h he=>az (ag (ag h HK.out fun x hx=>⟨(h.lt x hx).2,cH BD.out h he x hx⟩) E9.out.2 fun x hx=>cH E2.out h he x hx) hb
   refine bodyPost_ret (v:=.tuple #[.agg #[.slice sa kk sc,.slice ua kk uc,.slice a5 n2 c5,.slice a6 n3 c6,.bool em],.int .i64 0]) (by simp[results,Tryz.results46,go_sem,m0,m1,m2',m3,m4]) rfl ⟨_,rfl,⟨_,_,_,_,by rw[HEM.out],?_,?_,?_,?_⟩,XA.out.trans (E9.out.2.mono fun x (hx:x<w.heap.size)=>by show x≠w.heap.size+1;omega:aa (· <w.heap.size) w5 W9).below⟩
   ·show W9.ownsRow _ _ _ _ m2.aB.length _;rw[<-HN.out];exact key (Nat.le_refl _) M4.out (by decide)
   ·exact(R0.out.keeps E9.out.2 fun x h1 _=>by show x≠w.heap.size+1;omega).base (by omega)
   ·show W9.ownsRow _ _ _ _ (dA p2.fst).length ((dA p2.fst).map aG);rw[<-pZ.out, <-eM.out];exact key (by omega) M5.out (by decide)
   ·show W9.ownsRow _ _ _ _ (dA p2.ct).length ((dA p2.ct).map aG);rw[<-UL.out, <-nL.out];exact key (by omega) M6.out (by decide)
end Go.Proofs.YtalombmiochpmaaGreatDoor
namespace Go.Proofs.YtalombmiochpmaaGreatDoor
open Go Go.RowKit Go.Shelf Go.Maps
attribute [local go_sem] encS
theorem ah.eight {w:World} {b:Nat} {x0 x1 x2 x3 x4 x5 x6 x7:Value} {t:TypeId} (h:ah w b #[x0,x1,x2,x3,x4,x5,x6,x7] t):w.cell? ⟨b,0,none⟩=some x0/\w.cell? ⟨b,1,none⟩=some x1/\w.cell? ⟨b,2,none⟩=some x2/\w.cell? ⟨b,3,none⟩=some x3/\w.cell? ⟨b,4,none⟩=some x4/\w.cell? ⟨b,5,none⟩=some x5/\w.cell? ⟨b,6,none⟩=some x6/\w.cell? ⟨b,7,none⟩=some x7:=
 ⟨h.cell 0,h.cell 1,h.cell 2,h.cell 3,h.cell 4,h.cell 5,h.cell 6,h.cell 7⟩
theorem cJ (k:Nat) (s:BS) (mn mx:Int) (a:Value):(Tryz.prog.info? 62).map (·.size)=some (ai k s mn mx a).size:=by show _=some 8;kernel_rfl
theorem ku (k:Nat) (s:BS) (mn mx:Int) (p:Option Addr) (n c:Nat):(ai k s mn mx (.slice p n c)).all (·.oneCell')=true:=by unfold ai;simp[Value.oneCell']
def eK:Array Value:= #[.int .u8 0,.int .u64 0,.int .u64 0,.int .u64 0,.int .u64 0,.int .i64 0,.int .i64 0,.slice none 0 0]
theorem iG (k:Nat) (mn mx:Int) (a:Value):ai k 0 mn mx a= #[.int .u8 k,.int .u64 0,.int .u64 0,.int .u64 0,.int .u64 0,.int .i64 mn,.int .i64 mx,a]:=by unfold ai;simp only[PR];rfl
theorem aF.one {F:Nat->Prop} {w V:World} {k n c b:Nat} {s:BS} {mn mx:Int} {p:Option Addr} {t:RX} (hF:∀ x,F x->x<w.heap.size) (h:aF F w (.agg (ai k s mn mx (.slice p n c))) t) (hk:Below w.heap.size w V) (hB:ah V b (ai k s mn mx (.slice p n c)) 62) (hb:w.heap.size<=b) (k':Nat) (s':BS) (mn' mx':Int): aF (fun x=>x<V.heap.size/\(F x\/w.heap.size<=x)) V (.agg (ai k' s' mn' mx' (.slice (some ⟨b,0,none⟩) 1 1))) (.nd k' s' mn' mx' [t]):=by
 have h2:aF (fun x=>x<V.heap.size/\(F x\/w.heap.size<=x)) V (.agg (ai k s mn mx (.slice p n c))) t:=(h.keeps (aa.aj hk fun _ h=>h:aa (· <w.heap.size) w V) hF).mono fun x hx=>⟨Nat.lt_of_lt_of_le (hF x hx) hk.size,.inl hx⟩
 refine .mk k' s' mn' mx' [t] _ b 0 1 (fun _=>.agg (ai k s mn mx (.slice p n c))) (fun e=>by cases e) (fun _=>⟨rfl,⟨hB.lt,.inr hb⟩,hB.lt,by simp⟩) (fun i x hi=>?_) (fun i x hi=>?_)
 ·have hl:=(List.getElem?_eq_some_iff.1 hi).1
  obtain rfl:i=0:=by simpa using hl
  refine⟨_,rfl,fun j u hj=>?_⟩;simpa using(hB.cell j).trans hj
 ·have hl:=(List.getElem?_eq_some_iff.1 hi).1
  obtain rfl:i=0:=by simpa using hl
  cases hi
  exact h2
theorem Cv (v:Value) (t:RX) (F:Nat->Prop) (w:World) (hF:∀ x,F x->x<w.heap.size) (h:aF F w v t): Calls Tryz.prog 51 #[v] w fun e w'=>∃ u,e=.returned u/\aF (fun x=>x<w'.heap.size/\(F x\/w.heap.size<=x)) w' u (.nd 6 0 0 0 [t])/\Below w.heap.size w w':=by
 obtain⟨p,c,rfl⟩:=h.form;have H:=hid h;obtain⟨k,hk⟩:∃ k,k=t.kind:=⟨_,rfl⟩;obtain⟨nl,vO⟩:∃ k,k=t.subs.length:=⟨_,rfl⟩;obtain⟨st,hst⟩:∃ st,st=t.set:=⟨_,rfl⟩;obtain⟨tn,xM⟩:∃ x,x=t.mn:=⟨_,rfl⟩;obtain⟨tx,Nx⟩:∃ x,x=t.mx:=⟨_,rfl⟩;rw[<-hk, <-vO, <-hst, <-xM, <-Nx]at H ⊢;clear h hk vO hst xM Nx;unfold ai;go_enter Tryz.func51,Tryz.ntmps51;go_wp2;refine aP ?_;intro V hV;have B2:Hid (ah V (w.heap.size+1+1) (ai k st tn tx (.slice p nl c)) 62):=by rw[hV];exact hid ((ah.new _ _ _).at (by simp))
 have R1:Hid (ah V (w.heap.size+1) #[.int .u8 6,.int .u64 0,.int .u64 0,.int .u64 0,.int .u64 0,.int .i64 0,.int .i64 0,.slice (some ⟨w.heap.size+1+1,0,none⟩) 1 1] 62):=by rw[hV];exact hid (((ah.new _ _ _).at (by simp)).alloc _)
 have X1:Hid (Below w.heap.size w V):=by rw[hV];exact hid ((((Ext.refl w).alloc _).alloc _).alloc _).below
 clear hV;obtain⟨m0,m1,m2,m3,m4,m5,m6,m7⟩:=R1.out.eight;refine bodyPost_ret (v:=.agg #[.int .u8 6,.int .u64 0,.int .u64 0,.int .u64 0,.int .u64 0,.int .i64 0,.int .i64 0,.slice (some ⟨w.heap.size+1+1,0,none⟩) 1 1]) (by simp[results,Tryz.results51,go_sem,m0,m1,m2,m3,m4,m5,m6,m7]) rfl ⟨_,rfl,?_,X1.out⟩;have e:=aF.one hF H.out X1.out B2.out (by omega) 6 0 0 0;rw[iG]at e;exact e
theorem JB (v:Value) (t:RX) (mn mx:Int) (F:Nat->Prop) (w:World) (hF:∀ x,F x->x<w.heap.size) (h:aF F w v t): Calls Tryz.prog 52 #[v,.int .i64 mn,.int .i64 mx] w fun e w'=>∃ u,e=.returned u/\aF (fun x=>x<w'.heap.size/\(F x\/w.heap.size<=x)) w' u (.nd 5 0 mn mx [t])/\Below w.heap.size w w':=by
 obtain⟨p,c,rfl⟩:=h.form;have H:=hid h;obtain⟨k,hk⟩:∃ k,k=t.kind:=⟨_,rfl⟩;obtain⟨nl,vO⟩:∃ k,k=t.subs.length:=⟨_,rfl⟩;obtain⟨st,hst⟩:∃ st,st=t.set:=⟨_,rfl⟩;obtain⟨tn,xM⟩:∃ x,x=t.mn:=⟨_,rfl⟩;obtain⟨tx,Nx⟩:∃ x,x=t.mx:=⟨_,rfl⟩;rw[<-hk, <-vO, <-hst, <-xM, <-Nx]at H ⊢;clear h hk vO hst xM Nx;unfold ai;go_enter Tryz.func52,Tryz.ntmps52;go_wp2;refine aP ?_;intro V hV;have B2:Hid (ah V (w.heap.size+1+1) (ai k st tn tx (.slice p nl c)) 62):=by rw[hV];exact hid ((ah.new _ _ _).at (by simp))
 have R1:Hid (ah V (w.heap.size+1) #[.int .u8 5,.int .u64 0,.int .u64 0,.int .u64 0,.int .u64 0,.int .i64 mn,.int .i64 mx,.slice (some ⟨w.heap.size+1+1,0,none⟩) 1 1] 62):=by rw[hV];exact hid (((ah.new _ _ _).at (by simp)).alloc _)
 have X1:Hid (Below w.heap.size w V):=by rw[hV];exact hid ((((Ext.refl w).alloc _).alloc _).alloc _).below
 clear hV;obtain⟨m0,m1,m2,m3,m4,m5,m6,m7⟩:=R1.out.eight;refine bodyPost_ret (v:=.agg #[.int .u8 5,.int .u64 0,.int .u64 0,.int .u64 0,.int .u64 0,.int .i64 mn,.int .i64 mx,.slice (some ⟨w.heap.size+1+1,0,none⟩) 1 1]) (by simp[results,Tryz.results52,go_sem,m0,m1,m2,m3,m4,m5,m6,m7]) rfl ⟨_,rfl,?_,X1.out⟩;have e:=aF.one hF H.out X1.out B2.out (by omega) 5 0 mn mx;rw[iG]at e;exact e
end Go.Proofs.YtalombmiochpmaaGreatDoor
namespace Go.Proofs.YtalombmiochpmaaGreatDoor
open Go Go.RowKit Go.Shelf Go.Maps
attribute [local go_sem] encS
theorem mh (s:ByteArray) (l:List Nat) (fk:s.data.toList.map (·.toNat)=l) (hn:l.length<=1000000) (w:World): Calls Tryz.prog 48 #[.string s] w fun e w'=>e=.returned (.agg (ai 2 (kR fun c=>l.contains c) 0 0 (.slice none 0 0)))/\Below w.heap.size w w':=by
 obtain⟨u,hu⟩:∃ u,u=kR fun c=>l.contains c:=⟨_,rfl⟩
 rw[<-hu];have HU:=hid hu;have hsz:s.size=l.length:=by rw[<-fk];simp
 have HCE:Hid (∀ i x:Nat,l[i]? =some x->∃ h:i<s.size,(s[i]'h).toNat=x):=hid fun i x h=>by
  have hi:i<s.size:=by rw[hsz];exact(List.getElem?_eq_some_iff.1 h).1
  refine⟨hi,?_⟩;have hi2:i<s.data.toList.length:=by simpa using hi
  rw[<-fk,List.getElem?_map,List.getElem?_eq_getElem hi2]at h;have:=Option.some.inj h;rw[<-this,Array.getElem_toList];rfl
 have HL:Hid (∀ c∈l,c<256):=hid fun c hc=>by
  rw[<-fk]at hc;obtain⟨b,_,rfl⟩:=List.mem_map.1 hc;exact b.toNat_lt
 have jV:=hid hsz;have akp:((s.size:Nat):Int)=l.length:=by omega
 clear hu fk hsz;go_enter Tryz.func48,Tryz.ntmps48;go_wp2;refine ax ?_;intro V hV;have R0:Hid (ah V w.heap.size eK 62):=by rw[hV];exact hid ((ah.new _ _ _).alloc _)
 have B0:Hid (ah V (w.heap.size+1) (encS 0) 59):=by rw[hV,en];exact hid ((ah.new _ _ _).at (by simp))
 have X0:Hid (Below w.heap.size w V):=by rw[hV];exact hid (((Ext.refl w).alloc _).alloc _).below
 clear hV;go_loopw [7] (fun i wr=>∃ (k:Nat) (s':BS),k<=l.length/\i=.int .i64 k/\(∀ c,c<256->s'.getLsbD c=(l.take k).contains c)/\ah wr (w.heap.size+1) (encS s') 59/\ah wr w.heap.size eK 62/\Below w.heap.size w wr) (fun i _=>l.length-(intOf i).toNat);case atStart=>exact⟨0,0,by omega,rfl,fun c hc=>by simp,B0.out,R0.out,X0.out⟩
 case round=>
  obtain⟨k,s',hk,rfl,hs,hB,hR,hx⟩:=hrel;obtain⟨wo,rfl⟩:∃ wo:World,wo=wr:=⟨_,rfl⟩;have HS:=hid hs;clear hs;by_cases hlt:k<l.length
  ·obtain⟨c,kH⟩:∃ c,l[k]? =some c:=⟨l[k],List.getElem?_eq_getElem hlt⟩
   have ie:c<256:=HL.out c (List.mem_of_getElem? kH);obtain⟨TB,hsc⟩:=HCE.out k c kH;have hw:(encS s')[c/64]? =some (.int .u64 (wd s' (c/64)).toNat):=eI s' (by omega);have hc1:wo.cell? ⟨w.heap.size+1,c/64,none⟩=some (.int .u64 (wd s' (c/64)).toNat):=(hB.cell _).trans hw;have hf:=hB.frozen (c/64);have dL:l.take (k+1)=l.take k++ [c]:=by rw[List.take_add_one,kH];rfl
   have HT:=hid dL;have HB:=hid hB;have HR:=hid hR;have HX:=hid hx;have eT:(k:Int)<l.length:=by omega
   have hkz:(k:Int)<s.size:=by omega
   clear hB hR hx hw dL kH;obtain⟨z,hz⟩:∃ z:Nat,z=c/64:=⟨_,rfl⟩;obtain⟨y,hy⟩:∃ y:Nat,y=c%64:=⟨_,rfl⟩;have hz4:z<4:=by omega
   have hy4:y<64:=by omega
   have hzi:IntKind.u8.wrap ((c:Int)/64)=(z:Int):=by rw[IntWalk.u8_in _ (by omega)];omega
   have hyi:Int.tmod (c:Int) 64=(y:Int):=by rw[Int.tmod_eq_emod_of_nonneg (by omega)];omega
   have hzI:(z:Int)<4:=by omega
   have hyI:(y:Int)<64:=by omega
   rw[<-hz]at hc1 hf;have HZ:=hid hz;have HY:=hid hy;clear hz hy;go_upto_region 5 with fail
   refine aA false (fun _=>False) (by kernel_rfl) 11 [0,0,3,7,15,31,0,0,192,448,960,2047,4095,8191] (fun i=>i==13) (by kernel_rfl) (fun _=>aR.any _) ?_;intro C hC hne;have HC:=hid hC;have Yg:=HB.out.lt;have f1:=au hC (p:=⟨w.heap.size+1,z,none⟩) Yg (fun h=>h) hc1;clear hC
   repeat (refine ae (fun K hK=>?_);first | (refine bp rfl ?_;try go_simp;refine hK _ _ ?_;clear hK K) | (refine aX rfl rfl ?_;unfold aq;go_simp;refine hK _ _ ?_;clear hK K))
   refine aV (fun W hW hH=>?_);have iU:=(HC.out W).1 hW;have BW:=hid (HB.out.below iU.below HB.out.lt);have RW:=hid (HR.out.below iU.below HR.out.lt);have XW:Hid (Below w.heap.size w W):=hid (HX.out.trans (iU.below.mono HX.out.size));have hw:(encS s')[z]? =some (.int .u64 (wd s' z).toNat):=eI s' hz4;have g1:W.cell? ⟨w.heap.size+1,z,none⟩=some (.int .u64 (wd s' z).toNat):=(BW.out.cell _).trans hw;have gf:=BW.out.frozen z;clear iU hW hH HC hne f1 hc1 hf HB HR HX hw;go_wp2;go_roundw;case rel=>
    refine⟨k+1,nh s' c,by omega,by go_num,fun d hd=>?_,?_,?_,?_⟩
    ·rw[ju s' ie,HS.out d hd,HT.out,List.contains_eq_any_beq,List.contains_eq_any_beq,List.any_append]
     simp
    ·rw[<-tA s' ie, <-HZ.out, <-HY.out];exact BW.out.set _ _
    ·exact RW.out.other (by simp) _
    ·exact XW.out.trans (((aa.refl (· <w.heap.size) _).setCell (p:=⟨w.heap.size+1,z,none⟩) (fun h=>by have h':w.heap.size+1<w.heap.size:=h;omega) _).below)
   case measure=>simp[intOf];omega
  ·have EH:s'=u:=by rw[HU.out];exact BS.Gn fun c hc=>by rw[HS.out c hc,List.take_of_length_le (by omega)]
   subst EH;obtain rfl:k=l.length:=by omega
   obtain⟨c0,c1,c2,c3⟩:=hB.sr;have HR:=hid hR;have HX:=hid hx;have eT:¬ ((l.length:Int)<l.length):=by omega
   have HB:=hid hB;clear hB hR hx;go_wp2_with (refine wpList_store_row rfl 62 (.tmp 2) (.tmp 25) rfl w.heap.size (ai 2 s' 0 0 (.slice none 0 0)) rfl rfl 62 eK HR.out (cJ _ _ _ _ _) rfl (ku _ _ _ _ _ _ _) ?_;refine Hid.out ?_);refine hid ?_;obtain⟨V3,cD⟩:∃ W,W=wo.setRow w.heap.size (ai 2 s' 0 0 (.slice none 0 0)):=⟨_,rfl⟩;rw[<-cD];have R9:Hid (ah V3 w.heap.size (ai 2 s' 0 0 (.slice none 0 0)) 62):=by rw[cD];exact hid HR.out.setRow
   have X9:Below w.heap.size w V3:=by rw[cD];exact HX.out.trans ((bh wo w.heap.size _).mono fun x (hx:x<w.heap.size)=>by show x≠_;omega:aa (· <w.heap.size) wo _).below
   clear cD;go_wp2;obtain⟨m0,m1,m2,m3,m4,m5,m6,m7⟩:=R9.out.eight;exact bodyPost_ret (v:=.agg (ai 2 s' 0 0 (.slice none 0 0))) (by simp[results,Tryz.results48,ai,go_sem,m0,m1,m2,m3,m4,m5,m6,m7]) rfl ⟨rfl,X9⟩
end Go.Proofs.YtalombmiochpmaaGreatDoor
namespace Go.Proofs.YtalombmiochpmaaGreatDoor
open Go Go.RowKit Go.Shelf Go.Maps
attribute [local go_sem] encS
theorem wR (n:Nat) (hn:n<256) (w:World): Calls Tryz.prog 49 #[.int .u8 n] w fun e w'=>∃ s:ByteArray,e=.returned (.string s)/\s.data.toList.map (·.toNat)=dB n/\Below w.heap.size w w':=by
 obtain⟨r,hr⟩:∃ r,r=n%12:=⟨_,rfl⟩;have h12:r<12:=by omega
 have hrn:((n:Int)%12)=r:=by omega
 have hq:dB n=[[97],[98],[97,98],[97],[98],[99],[97,98,99],[98,99],[10],[0,255],[97],[98]].getD r []:=by unfold dB;rw[<-hr]
 rw[hq];clear hr hq;have hc:r=0\/r=1\/r=2\/r=3\/r=4\/r=5\/r=6\/r=7\/r=8\/r=9\/r=10\/r=11:=by omega
 rcases hc with rfl | rfl | rfl | rfl | rfl | rfl | rfl | rfl | rfl | rfl | rfl | rfl
 all_goals
  go_enter Tryz.func49,Tryz.ntmps49
  go_wp2;go_ret;exact⟨_,rfl,rfl,((Ext.refl w).alloc _).below⟩
end Go.Proofs.YtalombmiochpmaaGreatDoor
