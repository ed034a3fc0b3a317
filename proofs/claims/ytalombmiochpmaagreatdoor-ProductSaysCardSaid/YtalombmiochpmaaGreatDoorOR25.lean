/- The law's small trees: letters. -/
import Derived.Test.YtalombmiochpmaaGreatDoorOR24
set_option maxRecDepth 100000
set_option maxHeartbeats 16000000
open Go.Lib (hid)
namespace Go.Proofs.YtalombmiochpmaaGreatDoor
section
open Go Go.RowKit Go.Shelf Go.Maps
attribute [local go_sem] cM
theorem IK (x:PB):(dY (bW x) 448).length=(et x).length/\(dY (bW x) 448).map yT=(et x).map aS:=by rw[<-OL];refine⟨by simp,?_⟩;rw[List.map_map];rfl
theorem vx (x:PB) (b off:Nat) (w:World) (hb:ij w b off (bW x)):Calls Tryz.prog 78 #[.pointer (some ⟨b,off,none⟩)] w fun e w'=>∃ v,e=.returned v/\w'.ownsRow w.heap.size 3 1 v (et x).length ((et x).map aS)/\Below w.heap.size w w':=by have h:=Lf (bW x) b off w hb;rw[(IK x).1,(IK x).2]at h;exact h
theorem GM.ok0:(⟨[],[]⟩:GM).ok:=⟨rfl,fun f h=>(by cases h),fun s h=>(by cases h)⟩
theorem gM.new {base M:Nat} {w:World} (h:ah w M #[.slice none 0 0,.slice none 0 0] 135) (hb:base<=M):gM base M (· =M) w ⟨[],[]⟩:=
 ⟨rfl,(fun x hx=>by subst hx;exact⟨hb,h.lt⟩),_,_,h,World.ownsRow_nil _ _ _ _,(fun x e=>by cases e),World.ownsRow_nil _ _ _ _,(fun x e=>by cases e)⟩
theorem Pm (v:Value) (t:RX) (w:World) (h:aL (· <w.heap.size) w v t) (hf:t.fine) (hs:t.size<=120) (hp:t.cO<=400): Calls Tryz.prog 46 #[v] w fun e w'=>∃ u,e=.returned (.tuple #[u,.int .i64 0])/\tM w.heap.size w' u t.nf/\Below w.heap.size w w':=by
 obtain⟨iL,Gk,oM,oN,oO⟩:=info_parts Tryz.vU;obtain⟨p,c,rfl⟩:=h.form;have zu:=rZ t hf;have afi:=Il t hf hp;have oA:=qh t zu ⟨[],[]⟩ GM.ok0;obtain⟨v,hv⟩:∃ v,v=Value.agg (au t.kind t.set t.mn t.mx (.slice p t.subs.length c)):=⟨_,rfl⟩;rw[<-hv]at h;have CC:Hid (∀ W,Below w.heap.size w W->Calls Tryz.prog 74 #[v] W fun e w'=>e=.returned (.bool true)/\Below W.heap.size W w'):=hid fun W hW=>II v t hf (by omega) W ((h.qi hW).mono fun b hb=>Nat.lt_of_lt_of_le hb hW.size)
 have CS:Hid (∀ W,Below w.heap.size w W->Calls Tryz.prog 75 #[v] W fun e w'=>e=.returned (.int .i64 t.size)/\Below W.heap.size W w'):=hid fun W hW=>Lq v t (by omega) W ((h.qi hW).mono fun b hb=>Nat.lt_of_lt_of_le hb hW.size)
 have CP:Hid (∀ W,Below w.heap.size w W->Calls Tryz.prog 76 #[v] W fun e w'=>e=.returned (.int .i64 t.cO)/\Below W.heap.size W w'):=hid fun W hW=>xl v t (by omega) W ((h.qi hW).mono fun b hb=>Nat.lt_of_lt_of_le hb hW.size)
 obtain⟨m2,p2,wZ⟩:∃ m2 p2,t.dL ⟨[],[]⟩=(m2,p2):=⟨_,_,rfl⟩;have CM:Hid (∀ W M,Below w.heap.size w W->w.heap.size<=M->ah W M #[.slice none 0 0,.slice none 0 0] 135->Calls Tryz.prog 77 #[.pointer (some ⟨M,0,none⟩),v] W (kO w.heap.size M (· =M) W m2 p2)):=hid fun W M hW hM hB=>by
  have:=TH w.heap.size t hf (by omega) w.heap.size M (· =M) ⟨[],[]⟩ W v (Nat.le_refl _) (gM.new hB hM) (h.qi hW) GM.ok0 rfl (by show 0+t.cnt<=448;omega);rw[wZ]at this;exact this
 rw[hv]at CC CS CP CM;rw[wZ]at oA;have qK:=oA.len;have Fg:=oA.ok.len;dsimp only at qK Fg;have qK:m2.aM.length=0+t.cnt:=qK;have enf:t.nf=⟨m2.aM,m2.cN.map et,et p2.fst,et p2.dh,p2.emp⟩:=by unfold RX.nf;rw[wZ]
 have Ge:t.kind≠0:=qX hf;obtain⟨k,hk⟩:∃ k,k=t.kind:=⟨_,rfl⟩;obtain⟨sz,hsz⟩:∃ k,k=t.size:=⟨_,rfl⟩;obtain⟨ps,Mh⟩:∃ k,k=t.cO:=⟨_,rfl⟩;obtain⟨nl,Al⟩:∃ k,k=t.subs.length:=⟨_,rfl⟩;rw[enf];rw[<-hk, <-Al]at CC CS CP CM ⊢;rw[<-hk]at Ge;rw[<-hsz]at CS hs;rw[<-Mh]at CP hp;obtain⟨n,hn⟩:∃ n,n=m2.aM.length:=⟨_,rfl⟩;rw[<-hn]at Fg qK;have Wx:n<=400:=by omega
 obtain⟨st,hst⟩:∃ st,st=t.set:=⟨_,rfl⟩;obtain⟨tn,yL⟩:∃ x,x=t.mn:=⟨_,rfl⟩;obtain⟨tx,TM⟩:∃ x,x=t.mx:=⟨_,rfl⟩;rw[<-hst, <-yL, <-TM]at CC CS CP CM ⊢;have HN:=hid hn;have HL3:=hid Fg;have HS:=hid hs;have HP:=hid hp;clear oA h hv hf zu afi wZ qK Fg enf hk hsz Mh Al hn hst yL TM v;unfold au at CC CS CP CM ⊢;have hs9:¬ ((120:Int)<sz):=by have:=HS.out;omega
 have hp9:¬ ((400:Int)<ps):=by have:=HP.out;omega
 go_enter Tryz.func46,Tryz.ntmps46
 go_upto_region 1 with fail
 refine aw ?_;intro V hV;have B1:Hid (ah V w.heap.size #[.int .u8 k,.int .u64 (wd st 0).toNat,.int .u64 (wd st 1).toNat,.int .u64 (wd st 2).toNat,.int .u64 (wd st 3).toNat,.int .i64 tn,.int .i64 tx,.slice p nl c] 62):=by rw[hV];exact hid ((ah.new w _ _).alloc _)
 have B2:Hid (ah V (w.heap.size+1) #[.slice none 0 0,.slice none 0 0,.slice none 0 0,.slice none 0 0,.bool false] 97):=by rw[hV];exact hid ((ah.new (w.alloc _) _ _).at (by simp))
 have HX:Hid (Below w.heap.size w V):=by rw[hV];exact hid (((Ext.refl w).alloc _).alloc _).below
 have H7:V.heap.size=w.heap.size+1+1:=by rw[hV];simp
 have uE:=hid H7;clear hV H7;have e0:V.cell? ⟨w.heap.size,0,none⟩=some (.int .u8 k):=B1.out.cell 0;have e1:V.cell? ⟨w.heap.size,1,none⟩=some (.int .u64 (wd st 0).toNat):=B1.out.cell 1;have e2:V.cell? ⟨w.heap.size,2,none⟩=some (.int .u64 (wd st 1).toNat):=B1.out.cell 2;have e3:V.cell? ⟨w.heap.size,3,none⟩=some (.int .u64 (wd st 2).toNat):=B1.out.cell 3;have e4:V.cell? ⟨w.heap.size,4,none⟩=some (.int .u64 (wd st 3).toNat):=B1.out.cell 4;have e5:V.cell? ⟨w.heap.size,5,none⟩=some (.int .i64 tn):=B1.out.cell 5;have e6:V.cell? ⟨w.heap.size,6,none⟩=some (.int .i64 tx):=B1.out.cell 6;have e7:V.cell? ⟨w.heap.size,7,none⟩=some (.slice p nl c):=B1.out.cell 7;have uO:¬ ((k:Int)=0):=by omega
 go_wp2_with fail
 refine(CC.out V HX.out).mono ?_;rintro e V2 ⟨rfl,hx⟩;have B1:=hid (B1.out.below hx B1.out.lt);have B2:=hid (B2.out.below hx B2.out.lt);have HX:=hid (HX.out.trans (hx.mono HX.out.size));have Pn:Hid (w.heap.size+1+1<=V2.heap.size):=hid (by have:=hx.size;have:=uE.out;omega);clear hx e0 e1 e2 e3 e4 e5 e6 e7 uE CC;have e0:V2.cell? ⟨w.heap.size,0,none⟩=some (.int .u8 k):=B1.out.cell 0;have e1:V2.cell? ⟨w.heap.size,1,none⟩=some (.int .u64 (wd st 0).toNat):=B1.out.cell 1;have e2:V2.cell? ⟨w.heap.size,2,none⟩=some (.int .u64 (wd st 1).toNat):=B1.out.cell 2;have e3:V2.cell? ⟨w.heap.size,3,none⟩=some (.int .u64 (wd st 2).toNat):=B1.out.cell 3;have e4:V2.cell? ⟨w.heap.size,4,none⟩=some (.int .u64 (wd st 3).toNat):=B1.out.cell 4;have e5:V2.cell? ⟨w.heap.size,5,none⟩=some (.int .i64 tn):=B1.out.cell 5;have e6:V2.cell? ⟨w.heap.size,6,none⟩=some (.int .i64 tx):=B1.out.cell 6;have e7:V2.cell? ⟨w.heap.size,7,none⟩=some (.slice p nl c):=B1.out.cell 7;go_wp2_with fail
 refine(CS.out V2 HX.out).mono ?_;rintro e V3 ⟨rfl,hx⟩;have B1:=hid (B1.out.below hx B1.out.lt);have B2:=hid (B2.out.below hx B2.out.lt);have HX:=hid (HX.out.trans (hx.mono HX.out.size));have Pn:Hid (w.heap.size+1+1<=V3.heap.size):=hid (by have:=hx.size;have:=Pn.out;omega);clear hx e0 e1 e2 e3 e4 e5 e6 e7 CS;have e0:V3.cell? ⟨w.heap.size,0,none⟩=some (.int .u8 k):=B1.out.cell 0;have e1:V3.cell? ⟨w.heap.size,1,none⟩=some (.int .u64 (wd st 0).toNat):=B1.out.cell 1;have e2:V3.cell? ⟨w.heap.size,2,none⟩=some (.int .u64 (wd st 1).toNat):=B1.out.cell 2;have e3:V3.cell? ⟨w.heap.size,3,none⟩=some (.int .u64 (wd st 2).toNat):=B1.out.cell 3;have e4:V3.cell? ⟨w.heap.size,4,none⟩=some (.int .u64 (wd st 3).toNat):=B1.out.cell 4;have e5:V3.cell? ⟨w.heap.size,5,none⟩=some (.int .i64 tn):=B1.out.cell 5;have e6:V3.cell? ⟨w.heap.size,6,none⟩=some (.int .i64 tx):=B1.out.cell 6;have e7:V3.cell? ⟨w.heap.size,7,none⟩=some (.slice p nl c):=B1.out.cell 7;go_wp2_with fail
 refine(CP.out V3 HX.out).mono ?_;rintro e V4 ⟨rfl,hx⟩;have B1:=hid (B1.out.below hx B1.out.lt);have B2:=hid (B2.out.below hx B2.out.lt);have HX:=hid (HX.out.trans (hx.mono HX.out.size));have Pn:Hid (w.heap.size+1+1<=V4.heap.size):=hid (by have:=hx.size;have:=Pn.out;omega);clear hx e0 e1 e2 e3 e4 e5 e6 e7 CP;go_upto_region 6 with fail
 refine aw ?_;intro V5 hV5;have BM:Hid (ah V5 V4.heap.size #[.slice none 0 0,.slice none 0 0] 135):=by rw[hV5];exact hid (ah.new _ _ _)
 have E5:Hid (Ext V4 V5):=by rw[hV5];exact hid ((Ext.refl _).alloc _)
 clear hV5;obtain⟨M,hMe⟩:∃ M,M=V4.heap.size:=⟨_,rfl⟩;rw[<-hMe]at BM ⊢;have B1:=hid (B1.out.ext E5.out);have B2:=hid (B2.out.ext E5.out);have HX:=hid (HX.out.trans (E5.out.below.mono HX.out.size));have hM2:w.heap.size+1+1<=M:=by have:=Pn.out;omega
 have hMl:M<V5.heap.size:=BM.out.lt;have CM:=hid (CM.out V5 M HX.out (by omega) BM.out);clear E5 Pn BM hMe;have e0:V5.cell? ⟨w.heap.size,0,none⟩=some (.int .u8 k):=B1.out.cell 0;have e1:V5.cell? ⟨w.heap.size,1,none⟩=some (.int .u64 (wd st 0).toNat):=B1.out.cell 1;have e2:V5.cell? ⟨w.heap.size,2,none⟩=some (.int .u64 (wd st 1).toNat):=B1.out.cell 2;have e3:V5.cell? ⟨w.heap.size,3,none⟩=some (.int .u64 (wd st 2).toNat):=B1.out.cell 3;have e4:V5.cell? ⟨w.heap.size,4,none⟩=some (.int .u64 (wd st 3).toNat):=B1.out.cell 4;have e5:V5.cell? ⟨w.heap.size,5,none⟩=some (.int .i64 tn):=B1.out.cell 5;have e6:V5.cell? ⟨w.heap.size,6,none⟩=some (.int .i64 tx):=B1.out.cell 6;have e7:V5.cell? ⟨w.heap.size,7,none⟩=some (.slice p nl c):=B1.out.cell 7;go_wp2_with fail
 refine CM.out.mono ?_;rintro e V6 ⟨rfl,⟨F,hF,hFM,hFo⟩,hx,hsz⟩;have B2:=hid (B2.out.keeps hx ⟨B2.out.lt,by omega⟩);have HX:=hid (HX.out.trans (hx.mono fun x (hx:x<w.heap.size)=>⟨by omega,by omega⟩:aa (· <w.heap.size) V5 V6).below);have MF:=hid hF;have FO:=hid hFo;have hV6:M<V6.heap.size:=(hF.lt M hF.fm).2;clear hx hF hFM hFo hsz CM B1 e0 e1 e2 e3 e4 e5 e6 e7;unfold ax;go_upto_region 7 with fail
 refine aw ?_;intro V7 Po;have X7:Hid (ah V7 V6.heap.size (ax p2) 139):=by rw[Po];exact hid (ah.new _ _ _)
 have E7:Hid (Ext V6 V7):=by rw[Po];exact hid ((Ext.refl _).alloc _)
 clear Po;obtain⟨sv,fv,hM,r1,r1F,r2,r2F⟩:=MF.out.row;obtain⟨bq,hbq⟩:∃ b,b=V6.heap.size:=⟨_,rfl⟩;rw[<-hbq]at X7 ⊢;have asi:M<bq:=by omega
 have BM:=hid (hM.ext E7.out);have HX:=hid (HX.out.trans (E7.out.below.mono HX.out.size));have B2:=hid (B2.out.ext E7.out);rw[HL3.out]at r2;rw[<-HN.out]at r1;obtain⟨sa,sc,rfl⟩:=ownsRow_form r1;obtain⟨fa,fc,rfl⟩:=ownsRow_form r2;have R1:=hid (aq r1 E7.out.below);have R2:=hid (aq r2 E7.out.below);have akr:bq<V7.heap.size:=X7.out.lt;clear MF FO hM r1 r2 r1F r2F E7 hbq hV6;obtain⟨n2,jB⟩:∃ n,n=(et p2.fst).length:=⟨_,rfl⟩;obtain⟨n3,JF⟩:∃ n,n=(et p2.dh).length:=⟨_,rfl⟩;obtain⟨X2s,hX2⟩:∃ n,n=(et p2.fst).map aS:=⟨_,rfl⟩;obtain⟨X3s,hX3⟩:∃ n,n=(et p2.dh).map aS:=⟨_,rfl⟩;obtain⟨em,YS⟩:∃ n,n=p2.emp:=⟨_,rfl⟩;have L2:Hid (∀ W,Below V7.heap.size V7 W->Calls Tryz.prog 78 #[.pointer (some ⟨bq,0,none⟩)] W fun e w'=>∃ v,e=.returned v/\w'.ownsRow W.heap.size 3 1 v n2 X2s/\Below W.heap.size W w'):=hid fun W hW=>by rw[jB,hX2];exact vx p2.fst bq 0 W (ij.fst (X7.out.below hW X7.out.lt))
 have L3:Hid (∀ W,Below V7.heap.size V7 W->Calls Tryz.prog 78 #[.pointer (some ⟨bq,7,none⟩)] W fun e w'=>∃ v,e=.returned v/\w'.ownsRow W.heap.size 3 1 v n3 X3s/\Below W.heap.size W w'):=hid fun W hW=>by rw[JF,hX3];exact vx p2.dh bq 7 W (ij.dh (X7.out.below hW X7.out.lt))
 have b0:V7.cell? ⟨M,0,none⟩=some (.slice sa n sc):=BM.out.cell 0;have qZ:V7.cell? ⟨bq,14,none⟩=some (.bool em):=by rw[YS];exact X7.out.cell 14
 have j9:=hid jB;have HN3:=hid JF;have gP:=hid hX2;have rT:=hid hX3;have HEM:=hid YS;clear jB JF hX2 hX3 YS X7;have aku:M<V7.heap.size:=by omega
 refine aD false (fun _=>False) (by kernel_rfl) 12 [0,1,3,7,0,16,0,112,0,256,1023,0,4095] (fun i=>i==5 || i==7 || i==11 || i==12) (by kernel_rfl) (fun i=>if i=5 then aH.WD V7.heap.size n2 X2s else if i=7 then aH.WD V7.heap.size n3 X3s else if i=11 then aH.EB V7.heap.size #[.slice none 0 0,.slice none 0 0,.slice none 0 0,.slice none 0 0,.bool false] 97 else aH.any _) ?_;intro C hC hne;have HC:=hid hC;have f1:=ak hC (p:=⟨M,0,none⟩) aku (fun h=>h) b0;have f2:=ak hC (p:=⟨bq,14,none⟩) akr (fun h=>h) qZ;clear hC b0 qZ
 repeat (refine ae (fun K hK=>?_);first | (refine aR rfl ?_;try go_simp;refine hK _ _ ?_;clear hK K) | (refine aO rfl rfl ?_;unfold ai;go_simp;refine hK _ _ ?_;clear hK K))
 refine ae (fun K hK=>?_);refine bg rfl rfl (aH.WD V7.heap.size n2 X2s) rfl (fun W hW hN=>?_) (fun v hv=>?_)
 ·have hM:=(HC.out W).1 hW
  clear hW;go_simp;refine aB ((L2.out W hM.below).mono ?_);rintro e w2 ⟨u,rfl,ho,hx⟩;exact⟨_,rfl,Move.ag hx,ownsRow_form ho,aA ho hM.size⟩
 obtain⟨a5,c5,rfl⟩:=hv;go_simp;refine hK _ _ ?_;clear hK K
 repeat (refine ae (fun K hK=>?_);first | (refine aR rfl ?_;try go_simp;refine hK _ _ ?_;clear hK K) | (refine aO rfl rfl ?_;unfold ai;go_simp;refine hK _ _ ?_;clear hK K))
 refine ae (fun K hK=>?_);refine bg rfl rfl (aH.WD V7.heap.size n3 X3s) rfl (fun W hW hN=>?_) (fun v hv=>?_)
 ·have hM:=(HC.out W).1 hW
  clear hW;go_simp;refine aB ((L3.out W hM.below).mono ?_);rintro e w2 ⟨u,rfl,ho,hx⟩;exact⟨_,rfl,Move.ag hx,ownsRow_form ho,aA ho hM.size⟩
 obtain⟨a6,c6,rfl⟩:=hv;go_simp;refine hK _ _ ?_;clear hK K
 repeat (refine ae (fun K hK=>?_);first | (refine aR rfl ?_;try go_simp;refine hK _ _ ?_;clear hK K) | (refine aO rfl rfl ?_;unfold ai;go_simp;refine hK _ _ ?_;clear hK K))
 refine ae (fun K0 hK=>?_);refine bg rfl rfl (aH.EB V7.heap.size #[.slice none 0 0,.slice none 0 0,.slice none 0 0,.slice none 0 0,.bool false] 97) rfl (fun W hW hN=>?_) (fun v hv=>?_)
 ·have hM:=(HC.out W).1 hW
  have xI:=hM.size;clear hW hN hK K0;go_simp;exact⟨Move.ag ((Ext.refl _).alloc _).below,⟨_,rfl⟩,fun b hb=>by cases hb;exact⟨ah.new _ _ _,xI⟩⟩
 obtain⟨bx,rfl⟩:=hv;go_simp;refine hK _ _ ?_;clear hK K0;refine bh (fun W hW hH=>?_);have hM:=(HC.out W).1 hW;have hb8:(aH.EB V7.heap.size #[.slice none 0 0,.slice none 0 0,.slice none 0 0,.slice none 0 0,.bool false] 97).H (.pointer (some ⟨bx,0,none⟩)) W:=hH _ (List.mem_of_getElem? (show _=some _ from rfl:_[0]? =some _));have L6:Hid (W.ownsRow V7.heap.size 3 1 (.slice a6 n3 c6) n3 X3s):=hid (hH _ (List.mem_of_getElem? (show _=some _ from rfl:_[1]? =some _)));have L5:Hid (W.ownsRow V7.heap.size 3 1 (.slice a5 n2 c5) n2 X2s):=hid (hH _ (List.mem_of_getElem? (show _=some _ from rfl:_[2]? =some _)));have BX:=hid (hb8 bx rfl);have XW:=hid hM.below;have aeR:V7.heap.size<=W.heap.size:=hM.size;have L4:=hid (aq R1.out hM.below);have LF:=hid (aq R2.out hM.below);have DM:=hid (BM.out.below hM.below BM.out.lt);clear hM hW hH HC hne f1 f2 hb8 L2 L3 R1 R2 BM;obtain⟨x0,x1,x2,x3,x4⟩:=BX.out.1.five;have z0:=BX.out.1.frozen 0;have z1:=BX.out.1.frozen 1;have z2:=BX.out.1.frozen 2;have z3:=BX.out.1.frozen 3;have z4:=BX.out.1.frozen 4;have GN:bx≠M:=by have:=BX.out.2;omega
 have D2:=(((((DM.out.other (p:=⟨bx,0,none⟩) GN (.slice sa n sc)).other (p:=⟨bx,1,none⟩) GN (.slice none 0 0)).other (p:=⟨bx,2,none⟩) GN (.slice a5 n2 c5)).other (p:=⟨bx,3,none⟩) GN (.slice a6 n3 c6)).other (p:=⟨bx,4,none⟩) GN (.bool em));have k0:=D2.cell 1;simp only[List.getElem?_toArray,List.getElem?_cons_zero,List.getElem?_cons_succ]at k0;clear D2;go_wp2;clear k0;refine aw ?_;intro W2 hW2;have BD:Hid (ah W2 bx #[.slice sa n sc,.slice none 0 0,.slice a5 n2 c5,.slice a6 n3 c6,.bool em] 97):=by rw[hW2];exact hid BX.out.1.aeH
 have K2:aa (· ≠bx) W W2:=by rw[hW2];exact yQ _ _ _ _ _ _ _
 clear hW2 x0 x1 x2 x3 x4 z0 z1 z2 z3 z4;have hbl:∀ {base:Nat} {e:TypeId} {size n:Nat} {u:Value} {xs:List Value},W.ownsRow base e size u n xs->97≠e->W2.ownsRow base e size u n xs:=fun h he=>aj h K2 fun x hx=>dA BX.out.1 h he x hx
 have M4:=hid (hbl L4.out (by decide));have M5:=hid (hbl L5.out (by decide));have M6:=hid (hbl L6.out (by decide));have MF:=hid (hbl LF.out (by decide));have hVb:V7.heap.size<=bx:=BX.out.2;have E2:=hid ((B2.out.below XW.out B2.out.lt).keeps K2 (by have:=B2.out.lt;show w.heap.size+1≠bx;omega));have X2:Hid (Below w.heap.size w W2):=hid ((HX.out.trans (XW.out.mono HX.out.size)).trans (K2.mono fun x (hx:x<w.heap.size)=>by have:=B2.out.lt;omega:aa (· <w.heap.size) W W2).below);have anv:W.heap.size<=W2.heap.size:=K2.size;have asl:=B2.out.lt;have hb3:bx<W2.heap.size:=BD.out.lt;clear K2 hbl L4 L5 L6 LF BX XW DM B2 HX;go_loopw [53] (fun i wr=>∃ (kk:Nat) (u:Value),kk<=n/\i=.int .i64 kk/\ah wr bx #[.slice sa n sc,u,.slice a5 n2 c5,.slice a6 n3 c6,.bool em] 97/\aW W2.heap.size wr u ((m2.cN.map et).take kk)/\aa (fun x=>x<W2.heap.size/\x≠bx) W2 wr) (fun i _=>n-(intOf i).toNat);case atStart=>exact⟨0,_,by omega,rfl,BD.out,aW.nil _ _,aa.refl _ _⟩
 case round=>
  obtain⟨kk,u,hk,rfl,hb,ho,hx⟩:=hrel;obtain⟨w5,rfl⟩:∃ w5:World,w5=wr:=⟨_,rfl⟩;have OZ:Below w.heap.size w w5:=X2.out.trans (hx.mono fun x (my:x<w.heap.size)=>⟨Nat.lt_of_lt_of_le my X2.out.size,by omega⟩:aa (· <w.heap.size) W2 w5).below;by_cases hlt:kk<n
  ·obtain⟨f,hl⟩:∃ l,m2.cN[kk]? =some l:=⟨_,List.getElem?_eq_getElem (by have:=HL3.out;omega)⟩
   have eH:(m2.cN.map et).take (kk+1)=(m2.cN.map et).take kk++ [et f]:=by rw[List.take_add_one,List.getElem?_map,hl];rfl
   have hlen:((m2.cN.map et).take kk).length<=1000000:=by rw[List.length_take];omega
   have gz:(kk:Int)<n:=by omega
   have hrow:=aj MF.out hx fun x my=>⟨(MF.out.lt x my).2,dA BD.out MF.out (by decide) x my⟩
   obtain⟨g,cap,efv⟩:∃ g cap,Value.slice fa n fc=.slice (some ⟨g,0,none⟩) n cap:=by
    rcases hrow.2 with⟨_,e2⟩ | ⟨g,cap,cur,e2,_⟩
    ·exfalso;omega
    ·exact⟨g,cap,e2⟩
   injection efv with e1 e2 e3
   subst e1 e3;have Fs:g<w5.heap.size:=(hrow.lt g rfl).2;have lZ:n<=fc:=by
    rcases hrow.2 with⟨e,_⟩ | ⟨g',c',cur,e4,_,_,h9,_⟩
    ·cases e
    ·cases e4;omega
   have ce:∀ i,i<7->w5.cell? ⟨g,kk*7+i,none⟩=some (.int .u64 (bW f i).toNat):=fun i hi=>by
    have:=hrow.cells (g:=g) rfl _ _ (zi hl hi);rw[Addr.add_mid]at this;simpa using this
   have e0:=ce 0 (by decide);have e1:=ce 1 (by decide);have e2:=ce 2 (by decide);have e3:=ce 3 (by decide);have e4:=ce 4 (by decide);have e5:=ce 5 (by decide);have e6:=ce 6 (by decide);simp only[Nat.add_zero]at e0;obtain⟨us,u1,u2,u3⟩:=ho;obtain⟨ml,uC⟩:∃ m,m=us.length:=⟨_,rfl⟩;have Rq:ml<=1000000:=by omega
   obtain⟨j,hj⟩:∃ j,j=(et f).length:=⟨_,rfl⟩;rw[<-uC]at u1 u2;have AW:=hid uC;have HJ:=hid hj;obtain⟨ua5,uc5,rfl⟩:=ownsRow_form u2;have U2:=hid u2;have U3:=hid u3;have U1:=hid u1;have HB:=hid hb;have HK:=hid hx;have HT:=hid eH;have hgz:g<w5.heap.size:=Fs;clear hl hb hx eH OZ u1 u2 u3 uC hj hlen hrow ce;go_upto_region 11 with fail
   refine aw ?_;intro W6 xD;have Z6:Hid (ah W6 w5.heap.size (cM (bW f)) 137):=by rw[xD];exact hid (ah.new _ _ _)
   have E6:Hid (Ext w5 W6):=by rw[xD];exact hid ((Ext.refl _).alloc _)
   clear xD e0 e1 e2 e3 e4 e5 e6;have U2:=hid (aq U2.out E6.out.below);have U3:=hid fun i u l hu hl=>aq (U3.out i u l hu hl) E6.out.below
   have HB:=hid (HB.out.ext E6.out);have HK:=hid (HK.out.tr (E6.out.keeps.mono fun x hx=>Nat.lt_of_lt_of_le hx.1 HK.out.size));have CL:Hid (∀ W,Below W6.heap.size W6 W->Calls Tryz.prog 78 #[.pointer (some ⟨w5.heap.size,0,none⟩)] W fun e w'=>∃ v,e=.returned v/\w'.ownsRow W.heap.size 3 1 v j ((et f).map aS)/\Below W.heap.size W w'):=hid fun W hW=>by rw[HJ.out];exact vx f _ 0 W (ij.S7 (Z6.out.below hW Z6.out.lt))
   clear E6 Z6;refine aD false (fun _=>False) (by kernel_rfl) 4 [0,1,0,4,15,31,63] (fun i=>i==2 || i==3 || i==4 || i==6) (by kernel_rfl) (fun i=>if i=2 then aH.row W2.heap.size 3 1 j ((et f).map aS)else if i=3 then aH.Mw W2.heap.size j ((et f).map aS)else aH.any _) ?_;intro C hC hne;have HC:=hid hC;have f0:=ak hC (p:=⟨bx,1,none⟩) (by have:=HB.out.lt;exact this) (fun h=>h) (HB.out.cell 1);clear hC
   repeat (refine ae (fun K hK=>?_);first | (refine aR rfl ?_;try go_simp;refine hK _ _ ?_;clear hK K) | (refine aO rfl rfl ?_;unfold ai;go_simp;refine hK _ _ ?_;clear hK K))
   refine ae (fun K hK=>?_);refine bg rfl rfl (aH.row W2.heap.size 3 1 j ((et f).map aS)) rfl (fun W hW hN=>?_) (fun v hv=>?_)
   ·have hM:=(HC.out W).1 hW
    clear hW;go_simp;refine aB ((CL.out W hM.below).mono ?_);rintro e w2 ⟨vp,rfl,ho,hx⟩;exact⟨_,rfl,Move.ag hx,ownsRow_form ho,aA ho (Nat.le_trans HK.out.size hM.size)⟩
   obtain⟨a7,c7,rfl⟩:=hv;go_simp;refine hK _ _ ?_;clear hK K;refine ae (fun K hK=>?_);refine bg rfl rfl (aH.Mw W2.heap.size j ((et f).map aS)) rfl (fun W hW hN=>?_) (fun v hv=>?_)
   ·have hro:W.ownsRow W2.heap.size 3 1 (.slice a7 j c7) j ((et f).map aS):=hN.at 0 rfl (by kernel_rfl)
    have HRO:=hid hro;clear hW hN hK K hro;go_simp;exact⟨Move.ext ((Ext.refl _).alloc _),⟨_,rfl⟩,fun b hb=>by cases hb;exact⟨_,ah.new _ _ _,HRO.out.alloc _⟩⟩
   obtain⟨bz,rfl⟩:=hv;go_simp;refine hK _ _ ?_;clear hK K;refine bh (fun W hW hH=>?_);have hM:=(HC.out W).1 hW;obtain⟨ux,abw,hux⟩:∃ ux,ah W bz #[ux] 47/\W.ownsRow W2.heap.size 3 1 ux j ((et f).map aS):=hH _ (List.mem_cons_self ..) bz rfl;obtain⟨a8,c8,rfl⟩:=ownsRow_form hux;have HBX:=hid abw;have HUX:=hid hux;have YB:=hid (HB.out.below hM.below HB.out.lt);have YO:=hid (aq U2.out hM.below);have Y3:=hid fun i u l hu hl=>aq (U3.out i u l hu hl) hM.below
   have YK:=hid (HK.out.tr (aa.ag hM.below fun x hx=>Nat.lt_of_lt_of_le hx.1 HK.out.size));have H7:W2.heap.size<=W.heap.size:=Nat.le_trans HK.out.size hM.size;clear hM hW hH f0 HC HB HK abw hux U2 U3;go_wp2_with (at_builtin;refine Hid.out ?_);refine hid ?_;refine wpList_append_own_at _ rfl (.tmp 58) (.tmp 60) 26 rfl W2.heap.size 47 iL (.slice none 0 0) 1 24 Tryz.underlying26 Gk oM oN oO rfl (by decide) _ _ _ rfl YO.out ⟨bz,0,none⟩ 1 1 [.slice a8 j c8] rfl rfl HBX.out.Ys (by simp[Value.oneCell']) (by unfold maxLen;omega) (by omega) H7 ?_;intro v' w3 hown' hgrow hh hat;have HO3:=hid hown';have HG:=hid hgrow;obtain⟨ua3,uc3,rfl⟩:=ownsRow_form hown';have abx:∀ x,(Value.slice ua5 ml uc5).ownBlock=some x->W2.heap.size<=x:=(fun x e=>(YO.out.lt x e).1);have ZB:=hid (YB.out.grown hgrow (fun e=>by have:=abx _ e.symm;omega));have ZK:=hid (YK.out.tr (aa.bG hgrow fun x hx=>⟨Nat.lt_of_lt_of_le hx.1 H7,fun e=>by have:=abx x e.symm;omega⟩));have abe:W.heap.size<=w3.heap.size:=hgrow.size;have p1:=ZB.out.cell 1;have q1:=ZB.out.frozen 1;clear hown' hgrow hh hat abx;go_wp2;go_roundw;case rel=>
    refine⟨kk+1,_,by omega,by go_num,ZB.out.set 1 _,?_,ZK.out.setCell (p:=⟨bx,1,none⟩) (fun h=>h.2 rfl) _⟩;have hs:aW W2.heap.size w3 (.slice ua3 (ml+1) uc3) ((m2.cN.map et).take kk++ [et f]):=aW.snoc (w:=W) (v:=.slice ua5 ml uc5) (us:=us) (u:=.slice a8 j c8) (by rw[<-AW.out];exact U1.out) (by rw[<-AW.out];exact YO.out) (fun i u l hu hl=>Y3.out i u l hu hl) (by rw[<-HJ.out];exact HUX.out) HG.out (by rw[<-AW.out];exact HO3.out);rw[HT.out];exact hs.keeps ((aa.refl (· ≠bx) _).setCell (p:=⟨bx,1,none⟩) (fun h=>h rfl) _) (fun x h1 _ e=>by omega)
   case measure=>simp[intOf];omega
  ·obtain rfl:kk=n:=by omega
   clear hlt hk;have gz:¬ ((kk:Int)<kk):=by omega
   have eH:(m2.cN.map et).take kk=m2.cN.map et:=by rw[show kk=(m2.cN.map et).length by rw[List.length_map,HL3.out]];exact List.take_length
   rw[eH]at ho;obtain⟨ua,uc,afq⟩:=ho.form;rw[List.length_map,HL3.out]at afq;subst afq;have R0:=hid ho;have XA:=hid OZ;have CB:=hid hb;have HK:=hid hx;have C2:=hid (E2.out.keeps hx ⟨E2.out.lt,by omega⟩);clear ho hb hx eH OZ;obtain⟨p0,p1,p2,p3,p4⟩:=CB.out.five;obtain⟨y0,y1,y2,y3,y4⟩:=C2.out.five;have z0:=C2.out.frozen 0;have z1:=C2.out.frozen 1;have z2:=C2.out.frozen 2;have z3:=C2.out.frozen 3;have z4:=C2.out.frozen 4;go_wp2;refine bB ?_;intro W9 dK;have E9:Hid (ah W9 (w.heap.size+1) #[.slice sa kk sc,.slice ua kk uc,.slice a5 n2 c5,.slice a6 n3 c6,.bool em] 97/\aa (· ≠w.heap.size+1) w5 W9):=by rw[dK];exact hid ⟨C2.out.aeH,yQ _ _ _ _ _ _ _⟩
   clear dK z0 z1 z2 z3 z4 y0 y1 y2 y3 y4 p0 p1 p2 p3 p4;obtain⟨m0,m1,m2',m3,m4⟩:=E9.out.1.five;have key:∀ {base:Nat} {e:TypeId} {size n:Nat} {u:Value} {xs:List Value},w.heap.size<=base->W2.ownsRow base e size u n xs->97≠e->W9.ownsRow w.heap.size e size u n xs:=fun hb h he=>aA (aj (aj h HK.out fun x hx=>⟨(h.lt x hx).2,dA BD.out h he x hx⟩) E9.out.2 fun x hx=>dA E2.out h he x hx) hb
   refine bodyPost_ret (v:=.tuple #[.agg #[.slice sa kk sc,.slice ua kk uc,.slice a5 n2 c5,.slice a6 n3 c6,.bool em],.int .i64 0]) (by simp[results,Tryz.results46,go_sem,m0,m1,m2',m3,m4]) rfl ⟨_,rfl,⟨_,_,_,_,by rw[HEM.out],?_,?_,?_,?_⟩,XA.out.trans (E9.out.2.mono fun x (hx:x<w.heap.size)=>by show x≠w.heap.size+1;omega:aa (· <w.heap.size) w5 W9).below⟩
   ·show W9.ownsRow _ _ _ _ m2.aM.length _;rw[<-HN.out];exact key (Nat.le_refl _) M4.out (by decide)
   ·exact(R0.out.keeps E9.out.2 fun x h1 _=>by show x≠w.heap.size+1;omega).base (by omega)
   ·show W9.ownsRow _ _ _ _ (et p2.fst).length ((et p2.fst).map aS);rw[<-j9.out, <-gP.out];exact key (by omega) M5.out (by decide)
   ·show W9.ownsRow _ _ _ _ (et p2.dh).length ((et p2.dh).map aS);rw[<-HN3.out, <-rT.out];exact key (by omega) M6.out (by decide)
end
section
open Go Go.RowKit Go.Shelf Go.Maps
attribute [local go_sem] encS
theorem ah.eight {w:World} {b:Nat} {x0 x1 x2 x3 x4 x5 x6 x7:Value} {t:TypeId} (h:ah w b #[x0,x1,x2,x3,x4,x5,x6,x7] t):w.cell? ⟨b,0,none⟩=some x0/\w.cell? ⟨b,1,none⟩=some x1/\w.cell? ⟨b,2,none⟩=some x2/\w.cell? ⟨b,3,none⟩=some x3/\w.cell? ⟨b,4,none⟩=some x4/\w.cell? ⟨b,5,none⟩=some x5/\w.cell? ⟨b,6,none⟩=some x6/\w.cell? ⟨b,7,none⟩=some x7:=
 ⟨h.cell 0,h.cell 1,h.cell 2,h.cell 3,h.cell 4,h.cell 5,h.cell 6,h.cell 7⟩
theorem dE (k:Nat) (s:BS) (mn mx:Int) (a:Value):(Tryz.prog.info? 62).map (·.size)=some (au k s mn mx a).size:=by show _=some 8;kernel_rfl
theorem nQ (k:Nat) (s:BS) (mn mx:Int) (p:Option Addr) (n c:Nat):(au k s mn mx (.slice p n c)).all (·.oneCell')=true:=by unfold au;simp[Value.oneCell']
def gN:Array Value:= #[.int .u8 0,.int .u64 0,.int .u64 0,.int .u64 0,.int .u64 0,.int .i64 0,.int .i64 0,.slice none 0 0]
theorem kQ (k:Nat) (mn mx:Int) (a:Value):au k 0 mn mx a= #[.int .u8 k,.int .u64 0,.int .u64 0,.int .u64 0,.int .u64 0,.int .i64 mn,.int .i64 mx,a]:=by unfold au;simp only[VK];rfl
theorem aL.one {F:Nat->Prop} {w V:World} {k n c b:Nat} {s:BS} {mn mx:Int} {p:Option Addr} {t:RX} (hF:∀ x,F x->x<w.heap.size) (h:aL F w (.agg (au k s mn mx (.slice p n c))) t) (hk:Below w.heap.size w V) (hB:ah V b (au k s mn mx (.slice p n c)) 62) (hb:w.heap.size<=b) (k':Nat) (s':BS) (mn' mx':Int): aL (fun x=>x<V.heap.size/\(F x\/w.heap.size<=x)) V (.agg (au k' s' mn' mx' (.slice (some ⟨b,0,none⟩) 1 1))) (.nd k' s' mn' mx' [t]):=by
 have h2:aL (fun x=>x<V.heap.size/\(F x\/w.heap.size<=x)) V (.agg (au k s mn mx (.slice p n c))) t:=(h.keeps (aa.ag hk fun _ h=>h:aa (· <w.heap.size) w V) hF).mono fun x hx=>⟨Nat.lt_of_lt_of_le (hF x hx) hk.size,.inl hx⟩
 refine .mk k' s' mn' mx' [t] _ b 0 1 (fun _=>.agg (au k s mn mx (.slice p n c))) (fun e=>by cases e) (fun _=>⟨rfl,⟨hB.lt,.inr hb⟩,hB.lt,by simp⟩) (fun i x hi=>?_) (fun i x hi=>?_)
 ·have hl:=(List.getElem?_eq_some_iff.1 hi).1
  obtain rfl:i=0:=by simpa using hl
  refine⟨_,rfl,fun j u hj=>?_⟩;simpa using(hB.cell j).trans hj
 ·have hl:=(List.getElem?_eq_some_iff.1 hi).1
  obtain rfl:i=0:=by simpa using hl
  cases hi
  exact h2
theorem IL (v:Value) (t:RX) (F:Nat->Prop) (w:World) (hF:∀ x,F x->x<w.heap.size) (h:aL F w v t): Calls Tryz.prog 51 #[v] w fun e w'=>∃ u,e=.returned u/\aL (fun x=>x<w'.heap.size/\(F x\/w.heap.size<=x)) w' u (.nd 6 0 0 0 [t])/\Below w.heap.size w w':=by
 obtain⟨p,c,rfl⟩:=h.form;have H:=hid h;obtain⟨k,hk⟩:∃ k,k=t.kind:=⟨_,rfl⟩;obtain⟨nl,Al⟩:∃ k,k=t.subs.length:=⟨_,rfl⟩;obtain⟨st,hst⟩:∃ st,st=t.set:=⟨_,rfl⟩;obtain⟨tn,yL⟩:∃ x,x=t.mn:=⟨_,rfl⟩;obtain⟨tx,TM⟩:∃ x,x=t.mx:=⟨_,rfl⟩;rw[<-hk, <-Al, <-hst, <-yL, <-TM]at H ⊢;clear h hk Al hst yL TM;unfold au;go_enter Tryz.func51,Tryz.ntmps51;go_wp2;refine bB ?_;intro V hV;have B2:Hid (ah V (w.heap.size+1+1) (au k st tn tx (.slice p nl c)) 62):=by rw[hV];exact hid ((ah.new _ _ _).at (by simp))
 have R1:Hid (ah V (w.heap.size+1) #[.int .u8 6,.int .u64 0,.int .u64 0,.int .u64 0,.int .u64 0,.int .i64 0,.int .i64 0,.slice (some ⟨w.heap.size+1+1,0,none⟩) 1 1] 62):=by rw[hV];exact hid (((ah.new _ _ _).at (by simp)).alloc _)
 have X1:Hid (Below w.heap.size w V):=by rw[hV];exact hid ((((Ext.refl w).alloc _).alloc _).alloc _).below
 clear hV;obtain⟨m0,m1,m2,m3,m4,m5,m6,m7⟩:=R1.out.eight;refine bodyPost_ret (v:=.agg #[.int .u8 6,.int .u64 0,.int .u64 0,.int .u64 0,.int .u64 0,.int .i64 0,.int .i64 0,.slice (some ⟨w.heap.size+1+1,0,none⟩) 1 1]) (by simp[results,Tryz.results51,go_sem,m0,m1,m2,m3,m4,m5,m6,m7]) rfl ⟨_,rfl,?_,X1.out⟩;have e:=aL.one hF H.out X1.out B2.out (by omega) 6 0 0 0;rw[kQ]at e;exact e
theorem Pp (v:Value) (t:RX) (mn mx:Int) (F:Nat->Prop) (w:World) (hF:∀ x,F x->x<w.heap.size) (h:aL F w v t): Calls Tryz.prog 52 #[v,.int .i64 mn,.int .i64 mx] w fun e w'=>∃ u,e=.returned u/\aL (fun x=>x<w'.heap.size/\(F x\/w.heap.size<=x)) w' u (.nd 5 0 mn mx [t])/\Below w.heap.size w w':=by
 obtain⟨p,c,rfl⟩:=h.form;have H:=hid h;obtain⟨k,hk⟩:∃ k,k=t.kind:=⟨_,rfl⟩;obtain⟨nl,Al⟩:∃ k,k=t.subs.length:=⟨_,rfl⟩;obtain⟨st,hst⟩:∃ st,st=t.set:=⟨_,rfl⟩;obtain⟨tn,yL⟩:∃ x,x=t.mn:=⟨_,rfl⟩;obtain⟨tx,TM⟩:∃ x,x=t.mx:=⟨_,rfl⟩;rw[<-hk, <-Al, <-hst, <-yL, <-TM]at H ⊢;clear h hk Al hst yL TM;unfold au;go_enter Tryz.func52,Tryz.ntmps52;go_wp2;refine bB ?_;intro V hV;have B2:Hid (ah V (w.heap.size+1+1) (au k st tn tx (.slice p nl c)) 62):=by rw[hV];exact hid ((ah.new _ _ _).at (by simp))
 have R1:Hid (ah V (w.heap.size+1) #[.int .u8 5,.int .u64 0,.int .u64 0,.int .u64 0,.int .u64 0,.int .i64 mn,.int .i64 mx,.slice (some ⟨w.heap.size+1+1,0,none⟩) 1 1] 62):=by rw[hV];exact hid (((ah.new _ _ _).at (by simp)).alloc _)
 have X1:Hid (Below w.heap.size w V):=by rw[hV];exact hid ((((Ext.refl w).alloc _).alloc _).alloc _).below
 clear hV;obtain⟨m0,m1,m2,m3,m4,m5,m6,m7⟩:=R1.out.eight;refine bodyPost_ret (v:=.agg #[.int .u8 5,.int .u64 0,.int .u64 0,.int .u64 0,.int .u64 0,.int .i64 mn,.int .i64 mx,.slice (some ⟨w.heap.size+1+1,0,none⟩) 1 1]) (by simp[results,Tryz.results52,go_sem,m0,m1,m2,m3,m4,m5,m6,m7]) rfl ⟨_,rfl,?_,X1.out⟩;have e:=aL.one hF H.out X1.out B2.out (by omega) 5 0 mn mx;rw[kQ]at e;exact e
end
section
open Go Go.RowKit Go.Shelf Go.Maps
attribute [local go_sem] encS
theorem qx (s:ByteArray) (l:List Nat) (fy:s.data.toList.map (·.toNat)=l) (hn:l.length<=1000000) (w:World): Calls Tryz.prog 48 #[.string s] w fun e w'=>e=.returned (.agg (au 2 (oJ fun c=>l.contains c) 0 0 (.slice none 0 0)))/\Below w.heap.size w w':=by
 obtain⟨u,hu⟩:∃ u,u=oJ fun c=>l.contains c:=⟨_,rfl⟩
 rw[<-hu];have HU:=hid hu;have hsz:s.size=l.length:=by rw[<-fy];simp
 have HCE:Hid (∀ i x:Nat,l[i]? =some x->∃ h:i<s.size,(s[i]'h).toNat=x):=hid fun i x h=>by
  have hi:i<s.size:=by rw[hsz];exact(List.getElem?_eq_some_iff.1 h).1
  refine⟨hi,?_⟩;have hi2:i<s.data.toList.length:=by simpa using hi
  rw[<-fy,List.getElem?_map,List.getElem?_eq_getElem hi2]at h;have:=Option.some.inj h;rw[<-this,Array.getElem_toList];rfl
 have HL:Hid (∀ c∈l,c<256):=hid fun c hc=>by
  rw[<-fy]at hc;obtain⟨b,_,rfl⟩:=List.mem_map.1 hc;exact b.toNat_lt
 have nB:=hid hsz;have asr:((s.size:Nat):Int)=l.length:=by omega
 clear hu fy hsz;go_enter Tryz.func48,Tryz.ntmps48;go_wp2;refine aw ?_;intro V hV;have R0:Hid (ah V w.heap.size gN 62):=by rw[hV];exact hid ((ah.new _ _ _).alloc _)
 have B0:Hid (ah V (w.heap.size+1) (encS 0) 59):=by rw[hV,fQ];exact hid ((ah.new _ _ _).at (by simp))
 have X0:Hid (Below w.heap.size w V):=by rw[hV];exact hid (((Ext.refl w).alloc _).alloc _).below
 clear hV;go_loopw [7] (fun i wr=>∃ (k:Nat) (s':BS),k<=l.length/\i=.int .i64 k/\(∀ c,c<256->s'.getLsbD c=(l.take k).contains c)/\ah wr (w.heap.size+1) (encS s') 59/\ah wr w.heap.size gN 62/\Below w.heap.size w wr) (fun i _=>l.length-(intOf i).toNat);case atStart=>exact⟨0,0,by omega,rfl,fun c hc=>by simp,B0.out,R0.out,X0.out⟩
 case round=>
  obtain⟨k,s',hk,rfl,hs,hB,hR,hx⟩:=hrel;obtain⟨wo,rfl⟩:∃ wo:World,wo=wr:=⟨_,rfl⟩;have HS:=hid hs;clear hs;by_cases hlt:k<l.length
  ·obtain⟨c,jV⟩:∃ c,l[k]? =some c:=⟨l[k],List.getElem?_eq_getElem hlt⟩
   have jL:c<256:=HL.out c (List.mem_of_getElem? jV);obtain⟨ZX,hsc⟩:=HCE.out k c jV;have hw:(encS s')[c/64]? =some (.int .u64 (wd s' (c/64)).toNat):=gI s' (by omega);have hc1:wo.cell? ⟨w.heap.size+1,c/64,none⟩=some (.int .u64 (wd s' (c/64)).toNat):=(hB.cell _).trans hw;have hf:=hB.frozen (c/64);have eH:l.take (k+1)=l.take k++ [c]:=by rw[List.take_add_one,jV];rfl
   have HT:=hid eH;have HB:=hid hB;have HR:=hid hR;have HX:=hid hx;have gz:(k:Int)<l.length:=by omega
   have hkz:(k:Int)<s.size:=by omega
   clear hB hR hx hw eH jV;obtain⟨z,hz⟩:∃ z:Nat,z=c/64:=⟨_,rfl⟩;obtain⟨y,hy⟩:∃ y:Nat,y=c%64:=⟨_,rfl⟩;have hz4:z<4:=by omega
   have hy4:y<64:=by omega
   have hzi:IntKind.u8.wrap ((c:Int)/64)=(z:Int):=by rw[IntWalk.u8_in _ (by omega)];omega
   have hyi:Int.tmod (c:Int) 64=(y:Int):=by rw[Int.tmod_eq_emod_of_nonneg (by omega)];omega
   have hzI:(z:Int)<4:=by omega
   have hyI:(y:Int)<64:=by omega
   rw[<-hz]at hc1 hf;have HZ:=hid hz;have HY:=hid hy;clear hz hy;go_upto_region 5 with fail
   refine aD false (fun _=>False) (by kernel_rfl) 11 [0,0,3,7,15,31,0,0,192,448,960,2047,4095,8191] (fun i=>i==13) (by kernel_rfl) (fun _=>aH.any _) ?_;intro C hC hne;have HC:=hid hC;have hb9:=HB.out.lt;have f1:=ak hC (p:=⟨w.heap.size+1,z,none⟩) hb9 (fun h=>h) hc1;clear hC
   repeat (refine ae (fun K hK=>?_);first | (refine aR rfl ?_;try go_simp;refine hK _ _ ?_;clear hK K) | (refine aO rfl rfl ?_;unfold ai;go_simp;refine hK _ _ ?_;clear hK K))
   refine bh (fun W hW hH=>?_);have lH:=(HC.out W).1 hW;have BW:=hid (HB.out.below lH.below HB.out.lt);have RW:=hid (HR.out.below lH.below HR.out.lt);have XW:Hid (Below w.heap.size w W):=hid (HX.out.trans (lH.below.mono HX.out.size));have hw:(encS s')[z]? =some (.int .u64 (wd s' z).toNat):=gI s' hz4;have g1:W.cell? ⟨w.heap.size+1,z,none⟩=some (.int .u64 (wd s' z).toNat):=(BW.out.cell _).trans hw;have gf:=BW.out.frozen z;clear lH hW hH HC hne f1 hc1 hf HB HR HX hw;go_wp2;go_roundw;case rel=>
    refine⟨k+1,rG s' c,by omega,by go_num,fun d hd=>?_,?_,?_,?_⟩
    ·rw[mB s' jL,HS.out d hd,HT.out,List.contains_eq_any_beq,List.contains_eq_any_beq,List.any_append]
     simp
    ·rw[<-xZ s' jL, <-HZ.out, <-HY.out];exact BW.out.set _ _
    ·exact RW.out.other (by simp) _
    ·exact XW.out.trans (((aa.refl (· <w.heap.size) _).setCell (p:=⟨w.heap.size+1,z,none⟩) (fun h=>by have h':w.heap.size+1<w.heap.size:=h;omega) _).below)
   case measure=>simp[intOf];omega
  ·have Kp:s'=u:=by rw[HU.out];exact BS.Mn fun c hc=>by rw[HS.out c hc,List.take_of_length_le (by omega)]
   subst Kp;obtain rfl:k=l.length:=by omega
   obtain⟨c0,c1,c2,c3⟩:=hB.wT;have HR:=hid hR;have HX:=hid hx;have gz:¬ ((l.length:Int)<l.length):=by omega
   have HB:=hid hB;clear hB hR hx;go_wp2_with (refine wpList_store_row rfl 62 (.tmp 2) (.tmp 25) rfl w.heap.size (au 2 s' 0 0 (.slice none 0 0)) rfl rfl 62 gN HR.out (dE _ _ _ _ _) rfl (nQ _ _ _ _ _ _ _) ?_;refine Hid.out ?_);refine hid ?_;obtain⟨V3,di⟩:∃ W,W=wo.setRow w.heap.size (au 2 s' 0 0 (.slice none 0 0)):=⟨_,rfl⟩;rw[<-di];have R9:Hid (ah V3 w.heap.size (au 2 s' 0 0 (.slice none 0 0)) 62):=by rw[di];exact hid HR.out.setRow
   have X9:Below w.heap.size w V3:=by rw[di];exact HX.out.trans ((bP wo w.heap.size _).mono fun x (hx:x<w.heap.size)=>by show x≠_;omega:aa (· <w.heap.size) wo _).below
   clear di;go_wp2;obtain⟨m0,m1,m2,m3,m4,m5,m6,m7⟩:=R9.out.eight;exact bodyPost_ret (v:=.agg (au 2 s' 0 0 (.slice none 0 0))) (by simp[results,Tryz.results48,au,go_sem,m0,m1,m2,m3,m4,m5,m6,m7]) rfl ⟨rfl,X9⟩
end
section
open Go Go.RowKit Go.Shelf Go.Maps
attribute [local go_sem] encS
theorem Bb (n:Nat) (hn:n<256) (w:World): Calls Tryz.prog 49 #[.int .u8 n] w fun e w'=>∃ s:ByteArray,e=.returned (.string s)/\s.data.toList.map (·.toNat)=eu n/\Below w.heap.size w w':=by
 obtain⟨r,hr⟩:∃ r,r=n%12:=⟨_,rfl⟩;have h12:r<12:=by omega
 have hrn:((n:Int)%12)=r:=by omega
 have hq:eu n=[[97],[98],[97,98],[97],[98],[99],[97,98,99],[98,99],[10],[0,255],[97],[98]].getD r []:=by unfold eu;rw[<-hr]
 rw[hq];clear hr hq;have hc:r=0\/r=1\/r=2\/r=3\/r=4\/r=5\/r=6\/r=7\/r=8\/r=9\/r=10\/r=11:=by omega
 rcases hc with rfl | rfl | rfl | rfl | rfl | rfl | rfl | rfl | rfl | rfl | rfl | rfl
 all_goals
  go_enter Tryz.func49,Tryz.ntmps49
  go_wp2;go_ret;exact⟨_,rfl,rfl,((Ext.refl w).alloc _).below⟩
end
end Go.Proofs.YtalombmiochpmaaGreatDoor
