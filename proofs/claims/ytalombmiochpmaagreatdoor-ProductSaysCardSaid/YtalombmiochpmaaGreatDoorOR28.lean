/- The law's Made of small steps: its block E. Printed by wip/gen/made08.py. -/
import Derived.Test.YtalombmiochpmaaGreatDoorOR27
set_option maxRecDepth 100000
set_option maxHeartbeats 16000000
open Go.Lib (hid)
namespace Go.Proofs.YtalombmiochpmaaGreatDoor
open Go Go.RowKit Go.Shelf Go.Maps
theorem TP (b off c:Nat) (l:List (Nat×Nat×Nat)) (w:World) (hb:b<w.heap.size) (hc:l.length<=c) (lL:l.length<=1000000000000000) (hS:∀ (i:Nat) (s:Nat×Nat×Nat),l[i]? =some s->s.1<256/\s.2.1<256/\s.2.2<256/\w.cell? ⟨b,off+i*3,none⟩=some (.int .u8 s.1)/\w.cell? ⟨b,off+i*3+1,none⟩=some (.int .u8 s.2.1)/\w.cell? ⟨b,off+i*3+2,none⟩=some (.int .u8 s.2.2)):(eN b off c l w hb hc lL hS).A:=by
 have HS:=hid hS;intro iN xJ j3 j4 j5 R HR n lL hc N il JI rF JK vu HN zx zy zz V R0 X0 uE
 intros
 rename_i k hk wo hlt gz s0 s1 s2 PP Lv JL Lx ru rc m tV uf gr kS HST oD HM xm sD Gn Dp Dq Dr Dt Du W1 B1 eF lI d0 d1 d2 kd MZ lU hbase Bc hA;have a1:(kd:Int)<4:=by omega
 have hst:PP.step (s0,s1,s2)=⟨PP.all++ [ql s1],PP.oC,PP.Ap⟩:=by unfold dH.step;dsimp only;rw[<-Bc.out,if_pos hA];unfold dH.put;rw[Nat.sub_zero,List.take_length]
 have mA:=hid hst;clear hst hA;go_wp2_with fail
 refine(Bb s1 JL W1).mono ?_;rintro e W2 ⟨str,rfl,hstr,hx2⟩;have afy:=hid hstr;have hl7:(eu s1).length<=1000000:=by
  have q:∀ r:Nat,([[97],[98],[97,98],[97],[98],[99],[97,98,99],[98,99],[10],[0,255],[97],[98]].getD r []:List Nat).length<=3:=fun r=>by
   rcases Nat.lt_or_ge r 12 with h | h
   ·have hc:r=0\/r=1\/r=2\/r=3\/r=4\/r=5\/r=6\/r=7\/r=8\/r=9\/r=10\/r=11:=by omega
    rcases hc with rfl | rfl | rfl | rfl | rfl | rfl | rfl | rfl | rfl | rfl | rfl | rfl<;>decide
   ·rw[List.getD_eq_getElem?_getD,List.getElem?_eq_none (by simpa using h)];decide
  unfold eu;exact Nat.le_trans (q _) (by decide)
 have IU:=hid (eF.out.below hx2);have gP:Hid (aa (· <V.heap.size) V W2):=hid (lI.out.tr (aa.ag hx2 fun x (hx:x<V.heap.size)=>Nat.lt_of_lt_of_le hx hbase));clear hx2 hstr;go_wp2_with fail
 refine(qx str _ afy.out hl7 W2).mono ?_;rintro e W3 ⟨rfl,hx3⟩;obtain⟨S,hS⟩:∃ S,S=oJ fun c=>(eu s1).contains c:=⟨_,rfl⟩
 rw[<-hS];have jV:ql s1=.nd 2 S 0 0 []:=by unfold ql;rw[<-hS]
 rw[jV]at mA;have TQ:=hid (IU.out.below hx3);have rT:Hid (aa (· <V.heap.size) V W3):=hid (gP.out.tr (aa.ag hx3 fun x (hx:x<V.heap.size)=>Nat.lt_of_lt_of_le hx gP.out.size));have hb3:V.heap.size<=W3.heap.size:=rT.out.size;clear hS jV hx3 eF IU gP d0 d1 d2 B1 hl7 afy;unfold au;go_wp2_with (at_builtin;refine tU rfl ?_);refine hid ?_;refine jY ?_;intro W4 Qv;have B4:Hid (ah W4 W3.heap.size (au 2 S 0 0 (.slice none 0 0)) 62):=by rw[Qv];exact hid (ah.new _ _ _)
 have E4:Hid (Ext W3 W4):=by rw[Qv];exact hid ((Ext.refl _).alloc _)
 clear Qv;have TR:=hid (TQ.out.below E4.out.below);have Qq:W3.heap.size<=W4.heap.size:=E4.out.size;obtain⟨cs,g1,g2,g3,g4⟩:=TR.out;rw[<-HM.out]at g1 g2;have G1:=hid g1;have G2:=hid g2;have G3:=hid g3;have G4:=hid g4;clear g1 g2 g3 g4 TR TQ;refine fG rfl (.tmp 34) (.tmp 39) 60 rfl V.heap.size 62 iN (.agg gN) 8 80 Tryz.underlying60 xJ j3 j4 j5 rfl (by decide) (.slice ru m rc) m (bI cs) rfl G2.out ⟨W3.heap.size,0,none⟩ 1 1 (au 2 S 0 0 (.slice none 0 0)).toList rfl (bU B4.out) rfl (cP _ _ _ _ _ _ _).2 (by unfold maxLen;omega) (by omega) (by omega) ?_;intro v' w' ho hg lY;have K9:Hid (aa (· <V.heap.size) V w'):=hid ((rT.out.tr (E4.out.keeps.mono fun x (hx:x<V.heap.size)=>Nat.lt_of_lt_of_le hx hb3)).tr (aa.bG hg fun x (hx:x<V.heap.size)=>⟨by omega,fun e=>by have:=(G2.out.lt x e.symm).1;omega⟩));have R9:Hid (cd V.heap.size w' v' (PP.all++ [.nd 2 S 0 0 []])):=hid (cd.push (cs:=cs) (c:=au 2 S 0 0 (.slice none 0 0)) (by rw[<-HM.out];exact G1.out) G3.out G4.out (cP _ _ _ _ _ _ _) (aL.leaf _ _ _ _ _ _ _ _) (by rw[<-HM.out];exact ho) hg lY);obtain⟨va',vc',rfl⟩:=ownsRow_form ho;clear ho hg lY;go_wp2;go_roundw;case rel=>
  refine⟨k+1,by omega,by go_num,by rw[HST.out,mA.out, <-xm.out],by rw[HST.out,mA.out, <-sD.out],by rw[HST.out,mA.out];exact R9.out,K9.out⟩
 case measure=>simp[intOf];omega
theorem TU (b off c:Nat) (l:List (Nat×Nat×Nat)) (w:World) (hb:b<w.heap.size) (hc:l.length<=c) (lL:l.length<=1000000000000000) (hS:∀ (i:Nat) (s:Nat×Nat×Nat),l[i]? =some s->s.1<256/\s.2.1<256/\s.2.2<256/\w.cell? ⟨b,off+i*3,none⟩=some (.int .u8 s.1)/\w.cell? ⟨b,off+i*3+1,none⟩=some (.int .u8 s.2.1)/\w.cell? ⟨b,off+i*3+2,none⟩=some (.int .u8 s.2.2)):(eN b off c l w hb hc lL hS).B:=by
 have HS:=hid hS;intro iN xJ j3 j4 j5 R HR n lL hc N il JI rF JK vu HN zx zy zz V R0 X0 uE
 intros
 rename_i k hk wo hlt gz s0 s1 s2 PP Lv JL Lx ru rc m tV uf gr kS HST oD HM xm sD Gn Dp Dq Dr Dt Du W1 B1 eF lI d0 d1 d2 kd MZ lU hbase Bc hA hB;have a1:¬ ((kd:Int)<4):=by omega
 have a2:((kd:Int)==4)=true:=by simp[hB]
 have hst:PP.step (s0,s1,s2)=⟨PP.all++ [.nd 1 0 0 0 []],PP.oC,PP.Ap⟩:=by unfold dH.step;dsimp only;rw[<-Bc.out,if_neg hA,if_pos hB];unfold dH.put;rw[Nat.sub_zero,List.take_length];rfl
 have mA:=hid hst;clear hst hA hB;go_wp2_with (at_builtin;refine tU rfl ?_);refine hid ?_;clear d0 d1 d2 B1;refine jY ?_;intro W4 Qv;have B4:Hid (ah W4 W1.heap.size (au 1 0 0 0 (.slice none 0 0)) 62):=by rw[Qv,kQ];exact hid (ah.new _ _ _)
 have E4:Hid (Ext W1 W4):=by rw[Qv];exact hid ((Ext.refl _).alloc _)
 clear Qv;have TQ:=eF;have rT:=lI;have hb3:=hbase;have TR:=hid (TQ.out.below E4.out.below);have Qq:W1.heap.size<=W4.heap.size:=E4.out.size;obtain⟨cs,g1,g2,g3,g4⟩:=TR.out;rw[<-HM.out]at g1 g2;have G1:=hid g1;have G2:=hid g2;have G3:=hid g3;have G4:=hid g4;clear g1 g2 g3 g4 TR TQ;refine fG rfl (.tmp 44) (.tmp 46) 60 rfl V.heap.size 62 iN (.agg gN) 8 80 Tryz.underlying60 xJ j3 j4 j5 rfl (by decide) (.slice ru m rc) m (bI cs) rfl G2.out ⟨W1.heap.size,0,none⟩ 1 1 (au 1 0 0 0 (.slice none 0 0)).toList rfl (bU B4.out) rfl (cP _ _ _ _ _ _ _).2 (by unfold maxLen;omega) (by omega) (by omega) ?_;intro v' w' ho hg lY;have K9:Hid (aa (· <V.heap.size) V w'):=hid ((rT.out.tr (E4.out.keeps.mono fun x (hx:x<V.heap.size)=>Nat.lt_of_lt_of_le hx hb3)).tr (aa.bG hg fun x (hx:x<V.heap.size)=>⟨by omega,fun e=>by have:=(G2.out.lt x e.symm).1;omega⟩));have R9:Hid (cd V.heap.size w' v' (PP.all++ [.nd 1 0 0 0 []])):=hid (cd.push (cs:=cs) (c:=au 1 0 0 0 (.slice none 0 0)) (by rw[<-HM.out];exact G1.out) G3.out G4.out (cP _ _ _ _ _ _ _) (aL.leaf _ _ _ _ _ _ _ _) (by rw[<-HM.out];exact ho) hg lY);obtain⟨va',vc',rfl⟩:=ownsRow_form ho;clear ho hg lY;go_wp2;go_roundw;case rel=>
  refine⟨k+1,by omega,by go_num,by rw[HST.out,mA.out, <-xm.out],by rw[HST.out,mA.out, <-sD.out],by rw[HST.out,mA.out];exact R9.out,K9.out⟩
 case measure=>simp[intOf];omega
theorem TW (b off c:Nat) (l:List (Nat×Nat×Nat)) (w:World) (hb:b<w.heap.size) (hc:l.length<=c) (lL:l.length<=1000000000000000) (hS:∀ (i:Nat) (s:Nat×Nat×Nat),l[i]? =some s->s.1<256/\s.2.1<256/\s.2.2<256/\w.cell? ⟨b,off+i*3,none⟩=some (.int .u8 s.1)/\w.cell? ⟨b,off+i*3+1,none⟩=some (.int .u8 s.2.1)/\w.cell? ⟨b,off+i*3+2,none⟩=some (.int .u8 s.2.2)):(eN b off c l w hb hc lL hS).C:=by
 have HS:=hid hS;intro iN xJ j3 j4 j5 R HR n lL hc N il JI rF JK vu HN zx zy zz V R0 X0 uE
 intros
 rename_i k hk wo hlt gz s0 s1 s2 PP Lv JL Lx ru rc m tV uf gr kS HST oD HM xm sD Gn Dp Dq Dr Dt Du W1 B1 eF lI d0 d1 d2 kd MZ lU hbase Bc hA hB hC;have a1:¬ ((kd:Int)<4):=by omega
 have a2:((kd:Int)==4)=false:=by simp;omega
 have a3:(kd:Int)<7:=by omega
 have a4:(1:Int)<m:=by omega
 obtain⟨q,hq⟩:∃ q,q=m-2:=⟨_,rfl⟩;obtain⟨r,hr⟩:∃ r,r=m-1:=⟨_,rfl⟩;have hw2:IntKind.i64.wrap ((m:Int)-2)=(q:Int):=by rw[IntWalk.i64_in _ (by omega)];omega
 have hw1:IntKind.i64.wrap ((m:Int)-1)=(r:Int):=by rw[IntWalk.i64_in _ (by omega)];omega
 have hqm:q<m:=by omega
 have Xh:r<m:=by omega
 have hqi:(q:Int)<m:=by omega
 have hri:(r:Int)<m:=by omega
 have hx2:PP.all[q]? =some PP.iX:=by unfold dH.iX;rw[<-HM.out, <-hq];exact aI _ (by rw[<-HM.out];exact hqm)
 have hx1:PP.all[r]? =some PP.last:=by unfold dH.last;rw[<-HM.out, <-hr];exact aI _ (by rw[<-HM.out];exact Xh)
 have f2:PP.iX.fine/\PP.iX.size<=1000:=⟨oD.out.fine _ (List.mem_of_getElem? hx2),by have:=ri (List.mem_of_getElem? hx2);have:=oD.out.size;have:=Gn.out;omega⟩;have f1:PP.last.fine/\PP.last.size<=1000:=⟨oD.out.fine _ (List.mem_of_getElem? hx1),by have:=ri (List.mem_of_getElem? hx1);have:=oD.out.size;have:=Gn.out;omega⟩;have hst:PP.step (s0,s1,s2)=⟨PP.all.take q++ [cF 3 PP.iX PP.last],PP.oC,PP.Ap⟩:=by unfold dH.step;dsimp only;rw[<-Bc.out, <-HM.out,if_neg hA,if_neg hB,if_pos hC];unfold dH.put;rw[<-HM.out, <-hq]
 obtain⟨y2,hy2⟩:∃ y,y=PP.iX:=⟨_,rfl⟩;obtain⟨y1,JM⟩:∃ y,y=PP.last:=⟨_,rfl⟩;rw[<-hy2]at hx2 f2 hst;rw[<-JM]at hx1 f1 hst;obtain⟨JJ,Vk⟩:∃ J,J=cF 3 y2 y1:=⟨_,rfl⟩;rw[<-Vk]at hst;have mA:=hid hst;obtain⟨g,p2,c2,e9,lZ,hgb,Fs,rg2,t2⟩:=eF.out.jM hx2;subst e9;obtain⟨g',p1,c1,e9,_,_,_,YY,t1⟩:=eF.out.jM hx1;cases e9;have Rl:q<=rc:=by omega
 have akC:(q:Int)<=rc:=by omega
 have F2:=hid f2;have F1:=hid f1;have RG2:=hid rg2;have Pr:=hid YY;have T2:=hid t2;have T1:=hid t1;have HJJ:=hid Vk;have HQ:=hid hq;clear hst hx2 hx1 f2 f1 rg2 YY t2 t1 hy2 JM Vk hq hr hA hB hC;obtain⟨ka,hka⟩:∃ x,x=y2.kind:=⟨_,rfl⟩;obtain⟨na,Xf⟩:∃ x,x=y2.subs.length:=⟨_,rfl⟩;obtain⟨sa,Kf⟩:∃ x,x=y2.set:=⟨_,rfl⟩;obtain⟨ma,TN⟩:∃ x,x=y2.mn:=⟨_,rfl⟩;obtain⟨xa,YU⟩:∃ x,x=y2.mx:=⟨_,rfl⟩;obtain⟨kb,hkb⟩:∃ x,x=y1.kind:=⟨_,rfl⟩;obtain⟨nb,uD⟩:∃ x,x=y1.subs.length:=⟨_,rfl⟩;obtain⟨sb,sW⟩:∃ x,x=y1.set:=⟨_,rfl⟩;obtain⟨mb,xg⟩:∃ x,x=y1.mn:=⟨_,rfl⟩;obtain⟨xb,JH⟩:∃ x,x=y1.mx:=⟨_,rfl⟩;rw[<-hka, <-Xf, <-Kf, <-TN, <-YU]at RG2 T2;rw[<-hkb, <-uD, <-sW, <-xg, <-JH]at Pr T1;clear hka Xf Kf TN YU hkb uD sW xg JH;have CJ:Hid (∀ W,Move false (fun _=>False) W1 W->Calls Tryz.prog 50 #[.int .u8 3,.agg (au ka sa ma xa (.slice p2 na c2)),.agg (au kb sb mb xb (.slice p1 nb c1))] W fun e w'=>∃ u,e=.returned u/\aL (fun x=>V.heap.size<=x/\x<w'.heap.size) w' u JJ/\Below W.heap.size W w'):=hid fun W hW=>by
  have M0:aa (· <W1.heap.size) W1 W:=aa.ag hW.below fun _ h=>h
  rw[HJJ.out];refine(nR (fun x=>V.heap.size<=x/\x<W1.heap.size) 3 (.inl rfl) _ _ y2 y1 F2.out.1 F1.out.1 F2.out.2 F1.out.2 W (fun x hx=>Nat.lt_of_lt_of_le hx.2 hW.size) ((T2.out.keeps M0 fun x hx=>hx.2.1).mono fun x hx=>⟨hx.1,hx.2.1⟩) ((T1.out.keeps M0 fun x hx=>hx.2.1).mono fun x hx=>⟨hx.1,hx.2.1⟩)).mono ?_;rintro e w' ⟨u,he,hu,hb⟩;exact⟨u,he,hu.mono fun x hx=>⟨by have:=hW.size;have:=hbase;rcases hx.2 with h | h;exact h.1;omega,hx.1⟩,hb⟩
 clear F2 F1 T2 T1;go_upto_region 13 with fail
 refine aD false (fun _=>False) (by kernel_rfl) 18 [0,0,2,0,8,31,0,0,128,448,960,0,0,4096,14336,30720,65472,131008,262143,524287] (fun i=>i==16 || i==17 || i==18) (by kernel_rfl) (fun i=>if i=16 then Fu.tree V.heap.size JJ else if i=17 then Fu.box V.heap.size JJ else aH.any _) ?_;intro C hC hne;have HC:=hid hC;clear hC d0 d1 d2
 repeat (refine ae (fun K hK=>?_);first | (refine aR rfl ?_;try go_simp;refine hK _ _ ?_;clear hK K) | (refine aO rfl rfl ?_;unfold ai;go_simp;refine hK _ _ ?_;clear hK K))
 refine ae (fun K hK=>?_);refine GF rfl rfl (.agg (au ka sa ma xa (.slice p2 na c2))) (fun W hW hN=>have hM:=(HC.out W).1 hW;jS 62 (.tmp 64) rfl (g) (q*8) rfl (au ka sa ma xa (.slice p2 na c2)) _ (gF RG2.out (aa.ag hM.below fun _ h=>h:aa (· <W1.heap.size) W1 W) Fs) Tryz.underlying62 rfl (dE _ _ _ _ _)) ?_;go_simp;refine hK _ _ ?_;clear hK K
 repeat (refine ae (fun K hK=>?_);first | (refine aR rfl ?_;try go_simp;refine hK _ _ ?_;clear hK K) | (refine aO rfl rfl ?_;unfold ai;go_simp;refine hK _ _ ?_;clear hK K))
 refine ae (fun K hK=>?_);refine GF rfl rfl (.agg (au kb sb mb xb (.slice p1 nb c1))) (fun W hW hN=>have hM:=(HC.out W).1 hW;jS 62 (.tmp 69) rfl (g) (r*8) rfl (au kb sb mb xb (.slice p1 nb c1)) _ (gF Pr.out (aa.ag hM.below fun _ h=>h:aa (· <W1.heap.size) W1 W) Fs) Tryz.underlying62 rfl (dE _ _ _ _ _)) ?_;go_simp;refine hK _ _ ?_;clear hK K;refine ae (fun K hK=>?_);refine bg rfl rfl (Fu.tree V.heap.size JJ) rfl (fun W hW hN=>?_) (fun v hv=>?_)
 ·have hM:=(HC.out W).1 hW
  clear hW hN hK K;go_simp;refine aB ((CJ.out W hM).mono ?_);rintro e w2 ⟨u,rfl,ht,hx⟩;exact⟨_,rfl,Move.ag hx,ht.form,ht⟩
 obtain⟨pj,cj,rfl⟩:=hv;unfold au;go_simp;refine hK _ _ ?_;clear hK K;refine ae (fun K hK=>?_);refine bg rfl rfl (Fu.box V.heap.size JJ) rfl (fun W hW hN=>?_) (fun v hv=>?_)
 ·have hM:=(HC.out W).1 hW
  have hT:aL (fun x=>V.heap.size<=x/\x<W.heap.size) W (.agg (au JJ.kind JJ.set JJ.mn JJ.mx (.slice pj JJ.subs.length cj))) JJ:=hN.at 0 rfl (by kernel_rfl);have HT:=hid hT;clear hW hN hK K hT;go_simp;exact⟨Move.ext ((Ext.refl _).alloc _),⟨_,rfl⟩,fun b hb=>by cases hb;exact⟨_,_,ah.new _ _ _,(HT.out.keeps ((Ext.refl _).alloc _).keeps fun _ hx=>hx.2).mono fun x hx=>by simp;omega⟩⟩
 obtain⟨bz,rfl⟩:=hv;go_simp;refine hK _ _ ?_;clear hK K;refine bh (fun W hW hH=>?_);have hM:=(HC.out W).1 hW;obtain⟨pz,cz,YC,hjz⟩:∃ p c,ah W bz (au JJ.kind JJ.set JJ.mn JJ.mx (.slice p JJ.subs.length c)) 62/\aL (fun x=>V.heap.size<=x/\x<W.heap.size) W (.agg (au JJ.kind JJ.set JJ.mn JJ.mx (.slice p JJ.subs.length c))) JJ:=(hH _ (List.mem_of_getElem? (show _=some _ from rfl:_[0]? =some _))) bz rfl;have BZ:=hid YC;have TZ:=hid hjz;have TX:=hid (eF.out.below hM.below);have HXW:Hid (aa (· <V.heap.size) V W):=hid (lI.out.tr (aa.ag hM.below fun x (hx:x<V.heap.size)=>Nat.lt_of_lt_of_le hx hbase));have hbW:V.heap.size<=W.heap.size:=HXW.out.size;clear hM hW hH HC hne YC hjz eF lI RG2 Pr CJ;obtain⟨cs,g1,g2,g3,g4⟩:=TX.out;rw[<-HM.out]at g2;have hcs:(cs.take q).length=q:=by rw[List.length_take,g1, <-HM.out];omega
 refine qj rfl (.tmp 60) (.tmp 72) 60 rfl V.heap.size 62 iN (.agg gN) 8 80 Tryz.underlying60 xJ j3 j4 j5 rfl (by decide) ⟨g,0,none⟩ q (bI (cs.take q)) rfl (by rw[ig fun c hc=>(g3 c (List.mem_of_mem_take hc)).1,hcs]) (fun j u hj=>g2.cells (g:=g) rfl _ _ (wG hj)) ⟨bz,0,none⟩ 1 1 (au JJ.kind JJ.set JJ.mn JJ.mx (.slice pz JJ.subs.length cz)).toList rfl (bU BZ.out) rfl (by decide) (by unfold maxLen;omega) (by omega) hbW ?_;intro v' w' ho hx hv';have R9:Hid (cd V.heap.size w' v' (PP.all.take q++ [JJ])):=hid (cd.fresh (cs:=cs) (c:=au JJ.kind JJ.set JJ.mn JJ.mx (.slice pz JJ.subs.length cz)) (by rw[<-HM.out];omega) g1 g3 (fun i c t hi ht=>(g4 i c t hi ht).mono fun x hx=>⟨hx.1,hx.2.1⟩) (cP _ _ _ _ _ _ _) TZ.out ho hx hv');have K9:Hid (aa (· <V.heap.size) V w'):=hid (HXW.out.tr (aa.ag hx fun x (hx:x<V.heap.size)=>Nat.lt_of_lt_of_le hx hbW));obtain⟨va',vc',rfl⟩:=ownsRow_form ho;clear ho hx hv' g1 g2 g3 g4 hcs TX BZ TZ HXW;go_wp2;go_roundw;case rel=>
  refine⟨k+1,by omega,by go_num,by rw[HST.out,mA.out, <-xm.out],by rw[HST.out,mA.out, <-sD.out],?_,K9.out⟩;rw[HST.out,mA.out];have e8:(PP.all.take q++ [JJ]).length=q+1:=by rw[List.length_append,List.length_take, <-HM.out];simp;omega
  exact R9.out
 case measure=>simp[intOf];omega
theorem TY (b off c:Nat) (l:List (Nat×Nat×Nat)) (w:World) (hb:b<w.heap.size) (hc:l.length<=c) (lL:l.length<=1000000000000000) (hS:∀ (i:Nat) (s:Nat×Nat×Nat),l[i]? =some s->s.1<256/\s.2.1<256/\s.2.2<256/\w.cell? ⟨b,off+i*3,none⟩=some (.int .u8 s.1)/\w.cell? ⟨b,off+i*3+1,none⟩=some (.int .u8 s.2.1)/\w.cell? ⟨b,off+i*3+2,none⟩=some (.int .u8 s.2.2)):(eN b off c l w hb hc lL hS).D:=by
 have HS:=hid hS;intro iN xJ j3 j4 j5 R HR n lL hc N il JI rF JK vu HN zx zy zz V R0 X0 uE
 intros
 rename_i k hk wo hlt gz s0 s1 s2 PP Lv JL Lx ru rc m tV uf gr kS HST oD HM xm sD Gn Dp Dq Dr Dt Du W1 B1 eF lI d0 d1 d2 kd MZ lU hbase Bc hA hB hC hD;have a1:¬ ((kd:Int)<4):=by omega
 have a2:((kd:Int)==4)=false:=by simp;omega
 have a3:¬ ((kd:Int)<7):=by omega
 have a4:(1:Int)<m:=by omega
 have a5:(kd:Int)<9:=by omega
 obtain⟨q,hq⟩:∃ q,q=m-2:=⟨_,rfl⟩;obtain⟨r,hr⟩:∃ r,r=m-1:=⟨_,rfl⟩;have hw2:IntKind.i64.wrap ((m:Int)-2)=(q:Int):=by rw[IntWalk.i64_in _ (by omega)];omega
 have hw1:IntKind.i64.wrap ((m:Int)-1)=(r:Int):=by rw[IntWalk.i64_in _ (by omega)];omega
 have hqm:q<m:=by omega
 have Xh:r<m:=by omega
 have hqi:(q:Int)<m:=by omega
 have hri:(r:Int)<m:=by omega
 have hx2:PP.all[q]? =some PP.iX:=by unfold dH.iX;rw[<-HM.out, <-hq];exact aI _ (by rw[<-HM.out];exact hqm)
 have hx1:PP.all[r]? =some PP.last:=by unfold dH.last;rw[<-HM.out, <-hr];exact aI _ (by rw[<-HM.out];exact Xh)
 have f2:PP.iX.fine/\PP.iX.size<=1000:=⟨oD.out.fine _ (List.mem_of_getElem? hx2),by have:=ri (List.mem_of_getElem? hx2);have:=oD.out.size;have:=Gn.out;omega⟩;have f1:PP.last.fine/\PP.last.size<=1000:=⟨oD.out.fine _ (List.mem_of_getElem? hx1),by have:=ri (List.mem_of_getElem? hx1);have:=oD.out.size;have:=Gn.out;omega⟩;have hst:PP.step (s0,s1,s2)=⟨PP.all.take q++ [cF 4 PP.iX PP.last],PP.oC,PP.Ap⟩:=by unfold dH.step;dsimp only;rw[<-Bc.out, <-HM.out,if_neg hA,if_neg hB,if_neg hC,if_pos hD];unfold dH.put;rw[<-HM.out, <-hq]
 obtain⟨y2,hy2⟩:∃ y,y=PP.iX:=⟨_,rfl⟩;obtain⟨y1,JM⟩:∃ y,y=PP.last:=⟨_,rfl⟩;rw[<-hy2]at hx2 f2 hst;rw[<-JM]at hx1 f1 hst;obtain⟨JJ,Vk⟩:∃ J,J=cF 4 y2 y1:=⟨_,rfl⟩;rw[<-Vk]at hst;have mA:=hid hst;obtain⟨g,p2,c2,e9,lZ,hgb,Fs,rg2,t2⟩:=eF.out.jM hx2;subst e9;obtain⟨g',p1,c1,e9,_,_,_,YY,t1⟩:=eF.out.jM hx1;cases e9;have Rl:q<=rc:=by omega
 have akC:(q:Int)<=rc:=by omega
 have F2:=hid f2;have F1:=hid f1;have RG2:=hid rg2;have Pr:=hid YY;have T2:=hid t2;have T1:=hid t1;have HJJ:=hid Vk;have HQ:=hid hq;clear hst hx2 hx1 f2 f1 rg2 YY t2 t1 hy2 JM Vk hq hr hA hB hC hD;obtain⟨ka,hka⟩:∃ x,x=y2.kind:=⟨_,rfl⟩;obtain⟨na,Xf⟩:∃ x,x=y2.subs.length:=⟨_,rfl⟩;obtain⟨sa,Kf⟩:∃ x,x=y2.set:=⟨_,rfl⟩;obtain⟨ma,TN⟩:∃ x,x=y2.mn:=⟨_,rfl⟩;obtain⟨xa,YU⟩:∃ x,x=y2.mx:=⟨_,rfl⟩;obtain⟨kb,hkb⟩:∃ x,x=y1.kind:=⟨_,rfl⟩;obtain⟨nb,uD⟩:∃ x,x=y1.subs.length:=⟨_,rfl⟩;obtain⟨sb,sW⟩:∃ x,x=y1.set:=⟨_,rfl⟩;obtain⟨mb,xg⟩:∃ x,x=y1.mn:=⟨_,rfl⟩;obtain⟨xb,JH⟩:∃ x,x=y1.mx:=⟨_,rfl⟩;rw[<-hka, <-Xf, <-Kf, <-TN, <-YU]at RG2 T2;rw[<-hkb, <-uD, <-sW, <-xg, <-JH]at Pr T1;clear hka Xf Kf TN YU hkb uD sW xg JH;have CJ:Hid (∀ W,Move false (fun _=>False) W1 W->Calls Tryz.prog 50 #[.int .u8 4,.agg (au ka sa ma xa (.slice p2 na c2)),.agg (au kb sb mb xb (.slice p1 nb c1))] W fun e w'=>∃ u,e=.returned u/\aL (fun x=>V.heap.size<=x/\x<w'.heap.size) w' u JJ/\Below W.heap.size W w'):=hid fun W hW=>by
  have M0:aa (· <W1.heap.size) W1 W:=aa.ag hW.below fun _ h=>h
  rw[HJJ.out];refine(nR (fun x=>V.heap.size<=x/\x<W1.heap.size) 4 (.inr rfl) _ _ y2 y1 F2.out.1 F1.out.1 F2.out.2 F1.out.2 W (fun x hx=>Nat.lt_of_lt_of_le hx.2 hW.size) ((T2.out.keeps M0 fun x hx=>hx.2.1).mono fun x hx=>⟨hx.1,hx.2.1⟩) ((T1.out.keeps M0 fun x hx=>hx.2.1).mono fun x hx=>⟨hx.1,hx.2.1⟩)).mono ?_;rintro e w' ⟨u,he,hu,hb⟩;exact⟨u,he,hu.mono fun x hx=>⟨by have:=hW.size;have:=hbase;rcases hx.2 with h | h;exact h.1;omega,hx.1⟩,hb⟩
 clear F2 F1 T2 T1;go_upto_region 15 with fail
 refine aD false (fun _=>False) (by kernel_rfl) 18 [0,0,2,0,8,31,0,0,128,448,960,0,0,4096,14336,30720,65472,131008,262143,524287] (fun i=>i==16 || i==17 || i==18) (by kernel_rfl) (fun i=>if i=16 then Fu.tree V.heap.size JJ else if i=17 then Fu.box V.heap.size JJ else aH.any _) ?_;intro C hC hne;have HC:=hid hC;clear hC d0 d1 d2
 repeat (refine ae (fun K hK=>?_);first | (refine aR rfl ?_;try go_simp;refine hK _ _ ?_;clear hK K) | (refine aO rfl rfl ?_;unfold ai;go_simp;refine hK _ _ ?_;clear hK K))
 refine ae (fun K hK=>?_);refine GF rfl rfl (.agg (au ka sa ma xa (.slice p2 na c2))) (fun W hW hN=>have hM:=(HC.out W).1 hW;jS 62 (.tmp 90) rfl (g) (q*8) rfl (au ka sa ma xa (.slice p2 na c2)) _ (gF RG2.out (aa.ag hM.below fun _ h=>h:aa (· <W1.heap.size) W1 W) Fs) Tryz.underlying62 rfl (dE _ _ _ _ _)) ?_;go_simp;refine hK _ _ ?_;clear hK K
 repeat (refine ae (fun K hK=>?_);first | (refine aR rfl ?_;try go_simp;refine hK _ _ ?_;clear hK K) | (refine aO rfl rfl ?_;unfold ai;go_simp;refine hK _ _ ?_;clear hK K))
 refine ae (fun K hK=>?_);refine GF rfl rfl (.agg (au kb sb mb xb (.slice p1 nb c1))) (fun W hW hN=>have hM:=(HC.out W).1 hW;jS 62 (.tmp 95) rfl (g) (r*8) rfl (au kb sb mb xb (.slice p1 nb c1)) _ (gF Pr.out (aa.ag hM.below fun _ h=>h:aa (· <W1.heap.size) W1 W) Fs) Tryz.underlying62 rfl (dE _ _ _ _ _)) ?_;go_simp;refine hK _ _ ?_;clear hK K;refine ae (fun K hK=>?_);refine bg rfl rfl (Fu.tree V.heap.size JJ) rfl (fun W hW hN=>?_) (fun v hv=>?_)
 ·have hM:=(HC.out W).1 hW
  clear hW hN hK K;go_simp;refine aB ((CJ.out W hM).mono ?_);rintro e w2 ⟨u,rfl,ht,hx⟩;exact⟨_,rfl,Move.ag hx,ht.form,ht⟩
 obtain⟨pj,cj,rfl⟩:=hv;unfold au;go_simp;refine hK _ _ ?_;clear hK K;refine ae (fun K hK=>?_);refine bg rfl rfl (Fu.box V.heap.size JJ) rfl (fun W hW hN=>?_) (fun v hv=>?_)
 ·have hM:=(HC.out W).1 hW
  have hT:aL (fun x=>V.heap.size<=x/\x<W.heap.size) W (.agg (au JJ.kind JJ.set JJ.mn JJ.mx (.slice pj JJ.subs.length cj))) JJ:=hN.at 0 rfl (by kernel_rfl);have HT:=hid hT;clear hW hN hK K hT;go_simp;exact⟨Move.ext ((Ext.refl _).alloc _),⟨_,rfl⟩,fun b hb=>by cases hb;exact⟨_,_,ah.new _ _ _,(HT.out.keeps ((Ext.refl _).alloc _).keeps fun _ hx=>hx.2).mono fun x hx=>by simp;omega⟩⟩
 obtain⟨bz,rfl⟩:=hv;go_simp;refine hK _ _ ?_;clear hK K;refine bh (fun W hW hH=>?_);have hM:=(HC.out W).1 hW;obtain⟨pz,cz,YC,hjz⟩:∃ p c,ah W bz (au JJ.kind JJ.set JJ.mn JJ.mx (.slice p JJ.subs.length c)) 62/\aL (fun x=>V.heap.size<=x/\x<W.heap.size) W (.agg (au JJ.kind JJ.set JJ.mn JJ.mx (.slice p JJ.subs.length c))) JJ:=(hH _ (List.mem_of_getElem? (show _=some _ from rfl:_[0]? =some _))) bz rfl;have BZ:=hid YC;have TZ:=hid hjz;have TX:=hid (eF.out.below hM.below);have HXW:Hid (aa (· <V.heap.size) V W):=hid (lI.out.tr (aa.ag hM.below fun x (hx:x<V.heap.size)=>Nat.lt_of_lt_of_le hx hbase));have hbW:V.heap.size<=W.heap.size:=HXW.out.size;clear hM hW hH HC hne YC hjz eF lI RG2 Pr CJ;obtain⟨cs,g1,g2,g3,g4⟩:=TX.out;rw[<-HM.out]at g2;have hcs:(cs.take q).length=q:=by rw[List.length_take,g1, <-HM.out];omega
 refine qj rfl (.tmp 86) (.tmp 98) 60 rfl V.heap.size 62 iN (.agg gN) 8 80 Tryz.underlying60 xJ j3 j4 j5 rfl (by decide) ⟨g,0,none⟩ q (bI (cs.take q)) rfl (by rw[ig fun c hc=>(g3 c (List.mem_of_mem_take hc)).1,hcs]) (fun j u hj=>g2.cells (g:=g) rfl _ _ (wG hj)) ⟨bz,0,none⟩ 1 1 (au JJ.kind JJ.set JJ.mn JJ.mx (.slice pz JJ.subs.length cz)).toList rfl (bU BZ.out) rfl (by decide) (by unfold maxLen;omega) (by omega) hbW ?_;intro v' w' ho hx hv';have R9:Hid (cd V.heap.size w' v' (PP.all.take q++ [JJ])):=hid (cd.fresh (cs:=cs) (c:=au JJ.kind JJ.set JJ.mn JJ.mx (.slice pz JJ.subs.length cz)) (by rw[<-HM.out];omega) g1 g3 (fun i c t hi ht=>(g4 i c t hi ht).mono fun x hx=>⟨hx.1,hx.2.1⟩) (cP _ _ _ _ _ _ _) TZ.out ho hx hv');have K9:Hid (aa (· <V.heap.size) V w'):=hid (HXW.out.tr (aa.ag hx fun x (hx:x<V.heap.size)=>Nat.lt_of_lt_of_le hx hbW));obtain⟨va',vc',rfl⟩:=ownsRow_form ho;clear ho hx hv' g1 g2 g3 g4 hcs TX BZ TZ HXW;go_wp2;go_roundw;case rel=>
  refine⟨k+1,by omega,by go_num,by rw[HST.out,mA.out, <-xm.out],by rw[HST.out,mA.out, <-sD.out],?_,K9.out⟩;rw[HST.out,mA.out];have e8:(PP.all.take q++ [JJ]).length=q+1:=by rw[List.length_append,List.length_take, <-HM.out];simp;omega
  exact R9.out
 case measure=>simp[intOf];omega
theorem T8 (b off c:Nat) (l:List (Nat×Nat×Nat)) (w:World) (hb:b<w.heap.size) (hc:l.length<=c) (lL:l.length<=1000000000000000) (hS:∀ (i:Nat) (s:Nat×Nat×Nat),l[i]? =some s->s.1<256/\s.2.1<256/\s.2.2<256/\w.cell? ⟨b,off+i*3,none⟩=some (.int .u8 s.1)/\w.cell? ⟨b,off+i*3+1,none⟩=some (.int .u8 s.2.1)/\w.cell? ⟨b,off+i*3+2,none⟩=some (.int .u8 s.2.2)):(eN b off c l w hb hc lL hS).E:=by
 have HS:=hid hS;intro iN xJ j3 j4 j5 R HR n lL hc N il JI rF JK vu HN zx zy zz V R0 X0 uE
 intros
 rename_i k hk wo hlt gz s0 s1 s2 PP Lv JL Lx ru rc m tV uf gr kS HST oD HM xm sD Gn Dp Dq Dr Dt Du W1 B1 eF lI d0 d1 d2 kd MZ lU hbase Bc hA hB hC hD hE;have a1:¬ ((kd:Int)<4):=by omega
 have a2:((kd:Int)==4)=false:=by simp;omega
 have a3:¬ ((kd:Int)<7):=by omega
 have a5:¬ ((kd:Int)<9):=by omega
 have a6:((kd:Int)==9)=true:=by simp[hE.1]
 have a8:(0:Int)<m:=by omega
 have a9:(gr:Int)<9:=by omega
 obtain⟨r,hr⟩:∃ r,r=m-1:=⟨_,rfl⟩;have hw1:IntKind.i64.wrap ((m:Int)-1)=(r:Int):=by rw[IntWalk.i64_in _ (by omega)];omega
 have Xh:r<m:=by omega
 have hri:(r:Int)<m:=by omega
 have hx1:PP.all[r]? =some PP.last:=by unfold dH.last;rw[<-HM.out, <-hr];exact aI _ (by rw[<-HM.out];exact Xh)
 obtain⟨y1,JM⟩:∃ y,y=PP.last:=⟨_,rfl⟩;rw[<-JM]at hx1;have hst:PP.step (s0,s1,s2)=⟨PP.all.take r++ [.nd 6 0 0 0 [y1]],PP.oC,PP.Ap+1⟩:=by unfold dH.step;dsimp only;rw[<-Bc.out, <-HM.out, <-sD.out,if_neg hA,if_neg hB,if_neg hC,if_neg hD,if_pos hE];unfold dH.put;rw[<-HM.out, <-hr, <-JM]
 have mA:=hid hst;clear hst JM hA hB hC hD hE;obtain⟨g,p1,c1,e9,hmc,lZ,hgb,Fs,⟨f0,f1,f2,f3,f4,f5,f6,f7⟩,t1⟩:=eF.out.elem hx1;subst e9;have T1:=hid t1;clear t1;obtain⟨kb,hkb⟩:∃ x,x=y1.kind:=⟨_,rfl⟩;obtain⟨nb,uD⟩:∃ x,x=y1.subs.length:=⟨_,rfl⟩;obtain⟨sb,sW⟩:∃ x,x=y1.set:=⟨_,rfl⟩;obtain⟨mb,xg⟩:∃ x,x=y1.mn:=⟨_,rfl⟩;obtain⟨xb,JH⟩:∃ x,x=y1.mx:=⟨_,rfl⟩;rw[<-hkb]at f0;rw[<-sW]at f1 f2 f3 f4;rw[<-xg]at f5;rw[<-JH]at f6;rw[<-uD]at f7;rw[<-hkb, <-uD, <-sW, <-xg, <-JH]at T1;have HKB:=hid hkb;have akD:=hid hx1;have HR1:=hid hr;clear hkb uD sW xg JH hx1 hr hmc;have hgw:IntKind.i64.wrap ((gr:Int)+1)=((gr+1:Nat):Int):=by rw[IntWalk.i64_in _ (by omega)];omega
 go_wp2_with fail
 refine(IL _ y1 (fun x=>V.heap.size<=x/\x<W1.heap.size/\x≠g) W1 (fun x hx=>hx.2.1) T1.out).mono ?_;rintro e W2 ⟨u,rfl,hu,hx2⟩;have HU:=hid hu;obtain⟨pu,cu,rfl⟩:=hu.form;have IU:=hid (eF.out.below hx2);have gP:Hid (aa (· <V.heap.size) V W2):=hid (lI.out.tr (aa.ag hx2 fun x (hx:x<V.heap.size)=>Nat.lt_of_lt_of_le hx hbase));obtain⟨cs,q1,q2,q3,q4⟩:=IU.out;rw[<-HM.out]at q2;have kc:∀ (o:Nat) (v:Value),W1.cell? ⟨g,o,none⟩=some v->W2.cell? ⟨g,o,none⟩=some v:=fun o v h=>((aa.ag hx2 fun _ h=>h:aa (· <W1.heap.size) W1 W2).cell (p:=⟨g,o,none⟩) Fs).trans h
 replace f0:=kc _ _ f0;replace f1:=kc _ _ f1;replace f2:=kc _ _ f2;replace f3:=kc _ _ f3;replace f4:=kc _ _ f4;replace f5:=kc _ _ f5;replace f6:=kc _ _ f6;replace f7:=kc _ _ f7;have z0:W2.frozen? ⟨g,r*8,none⟩=false:=q2.frozenAt _;have z1:W2.frozen? ⟨g,r*8+1,none⟩=false:=q2.frozenAt _;have z2:W2.frozen? ⟨g,r*8+2,none⟩=false:=q2.frozenAt _;have z3:W2.frozen? ⟨g,r*8+3,none⟩=false:=q2.frozenAt _;have z4:W2.frozen? ⟨g,r*8+4,none⟩=false:=q2.frozenAt _;have z5:W2.frozen? ⟨g,r*8+5,none⟩=false:=q2.frozenAt _;have z6:W2.frozen? ⟨g,r*8+6,none⟩=false:=q2.frozenAt _;have z7:W2.frozen? ⟨g,r*8+7,none⟩=false:=q2.frozenAt _;have Q1:=hid q1;have Q2:=hid q2;have Q3:=hid q3;have Q4:=hid q4;have akE:V.heap.size<=g:=hgb;have hs2:W1.heap.size<=W2.heap.size:=hx2.size;clear hu hx2 kc q1 q2 q3 q4 IU eF lI d0 d1 d2 B1;simp only[RX.kind,RX.set,RX.mn,RX.mx,RX.subs,List.length_cons,List.length_nil,Nat.zero_add]at HU ⊢;unfold au;go_upto_region 18 with fail
 refine aw ?_;intro W3 hW3;have K3:Hid (aa (· ≠g) W2 W3):=by rw[hW3];exact hid (((((((((aa.refl _ _).setCell (fun e=>e rfl) _).setCell (fun e=>e rfl) _).setCell (fun e=>e rfl) _).setCell (fun e=>e rfl) _).setCell (fun e=>e rfl) _).setCell (fun e=>e rfl) _).setCell (fun e=>e rfl) _).setCell (fun e=>e rfl) _)
 have R9:Hid (cd V.heap.size W3 (.slice (some ⟨g,0,none⟩) m rc) (PP.all.set r (.nd 6 0 0 0 [y1]))):=by
  rw[hW3,HM.out];refine hid (cd.turned (by rw[<-HM.out];exact Xh) Q1.out (by rw[<-HM.out];exact Q2.out) Q3.out (fun i c t hi ht=>(Q4.out i c t hi ht).mono fun x hx=>⟨hx.1,hx.2.1,fun e=>hx.2.2 (by rw[e];rfl)⟩) ?_ ?_)
  ·exact(cP _ _ _ _ _ _ _).2
  ·exact HU.out.mono fun x hx=>⟨by rcases hx.2 with h | h;exact h.1;omega,hx.1,fun e=>by rcases hx.2 with h | h;exact h.2.2 e;omega⟩
 have K9:Hid (aa (· <V.heap.size) V W3):=hid (gP.out.tr (K3.out.mono fun x (hx:x<V.heap.size)=>by show x≠g;omega));clear hW3 f0 f1 f2 f3 f4 f5 f6 f7 z0 z1 z2 z3 z4 z5 z6 z7 Q1 Q2 Q3 Q4 HU gP K3;have pD:PP.all.set r (.nd 6 0 0 0 [y1])=PP.all.take r++ [.nd 6 0 0 0 [y1]]:=by
  have e:=mU (l:=PP.all) (by rw[<-HM.out];omega);rw[<-HM.out, <-HR1.out]at e
  conv=>lhs;rw[e]
  rw[List.set_append_right _ _ (by rw[List.length_take];omega),List.length_take,Nat.min_eq_left (by rw[<-HM.out];omega),Nat.sub_self];rfl
 have AO:=hid pD;clear pD;go_wp2;go_roundw;case rel=>
  refine⟨k+1,by omega,by go_num,?_,?_,?_,K9.out⟩
  ·have e7:(jQ (l.take (k+1))).oC=uf:=by rw[HST.out,mA.out];exact xm.out.symm
   rw[e7]
   try rfl
   try go_num
  ·have e7:(jQ (l.take (k+1))).Ap=gr+1:=by rw[HST.out,mA.out];rw[sD.out]
   rw[e7]
   try rfl
   try go_num
  ·rw[HST.out,mA.out, <-AO.out]
   have e8:(PP.all.set r (.nd 6 0 0 0 [y1])).length=m:=by rw[List.length_set];exact HM.out.symm
   exact R9.out
 case measure=>simp[intOf];omega
end Go.Proofs.YtalombmiochpmaaGreatDoor
