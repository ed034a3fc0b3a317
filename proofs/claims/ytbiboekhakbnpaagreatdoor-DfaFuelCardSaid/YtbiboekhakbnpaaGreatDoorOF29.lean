/- The law's Made of small steps: its block E. Printed by wip/gen/made08.py. -/
import Derived.Test.YtbiboekhakbnpaaGreatDoorOF28
set_option maxRecDepth 100000
set_option maxHeartbeats 16000000
open Go.Lib (hid)
namespace Go.Proofs.YtbiboekhakbnpaaGreatDoor
open Go Go.RowKit Go.Shelf Go.Maps
theorem M0 (b off c:Nat) (l:List (Nat×Nat×Nat)) (w:World) (hb:b<w.heap.size) (hc:l.length<=c) (gv:l.length<=1000000000000000) (hS:∀ (i:Nat) (s:Nat×Nat×Nat),l[i]? =some s->s.1<256/\s.2.1<256/\s.2.2<256/\w.cell? ⟨b,off+i*3,none⟩=some (.int .u8 s.1)/\w.cell? ⟨b,off+i*3+1,none⟩=some (.int .u8 s.2.1)/\w.cell? ⟨b,off+i*3+2,none⟩=some (.int .u8 s.2.2)):(dF b off c l w hb hc gv hS).A:=by
 have HS:=hid hS;intro iN sA ig ij ik R HR n gv hc N jy Cp mW Cq lU HN uw uy uz V R0 X0 rr
 intros
 rename_i k hk wo hlt ed s0 s1 s2 PP Fz DJ FC ru rc m pM uf gr iU HST kK HM rU nZ zS xz xA xB xC xD W1 B1 dy iZ d0 d1 d2 kd G6 jm hbase vX hA;have a1:(kd:Int)<4:=by omega
 have hst:PP.step (s0,s1,s2)=⟨PP.all++ [lO s1],PP.kJ,PP.vv⟩:=by unfold cw.step;dsimp only;rw[<-vX.out,if_pos hA];unfold cw.put;rw[Nat.sub_zero,List.take_length]
 have kM:=hid hst;clear hst hA;go_wp2_with fail
 refine(vW s1 DJ W1).mono ?_;rintro e W2 ⟨str,rfl,hstr,hx2⟩;have Zj:=hid hstr;have hl7:(dn s1).length<=1000000:=by
  have q:∀ r:Nat,([[97],[98],[97,98],[97],[98],[99],[97,98,99],[98,99],[10],[0,255],[97],[98]].getD r []:List Nat).length<=3:=fun r=>by
   rcases Nat.lt_or_ge r 12 with h | h
   ·have hc:r=0\/r=1\/r=2\/r=3\/r=4\/r=5\/r=6\/r=7\/r=8\/r=9\/r=10\/r=11:=by omega
    rcases hc with rfl | rfl | rfl | rfl | rfl | rfl | rfl | rfl | rfl | rfl | rfl | rfl<;>decide
   ·rw[List.getD_eq_getElem?_getD,List.getElem?_eq_none (by simpa using h)];decide
  unfold dn;exact Nat.le_trans (q _) (by decide)
 have Cs:=hid (dy.out.below hx2);have eZ:Hid (aa (· <V.heap.size) V W2):=hid (iZ.out.tr (aa.ah hx2 fun x (hx:x<V.heap.size)=>Nat.lt_of_lt_of_le hx hbase));clear hx2 hstr;go_wp2_with fail
 refine(lW str _ Zj.out hl7 W2).mono ?_;rintro e W3 ⟨rfl,hx3⟩;obtain⟨S,hS⟩:∃ S,S=nE fun c=>(dn s1).contains c:=⟨_,rfl⟩
 rw[<-hS];have fw:lO s1=.nd 2 S 0 0 []:=by unfold lO;rw[<-hS]
 rw[fw]at kM;have M7:=hid (Cs.out.below hx3);have nG:Hid (aa (· <V.heap.size) V W3):=hid (eZ.out.tr (aa.ah hx3 fun x (hx:x<V.heap.size)=>Nat.lt_of_lt_of_le hx eZ.out.size));have hb3:V.heap.size<=W3.heap.size:=nG.out.size;clear hS fw hx3 dy Cs eZ d0 d1 d2 B1 hl7 Zj;unfold aj;go_wp2_with (at_builtin;refine ku rfl ?_);refine hid ?_;refine fB ?_;intro W4 DD;have B4:Hid (ak W4 W3.heap.size (aj 2 S 0 0 (.slice none 0 0)) 86):=by rw[DD];exact hid (ak.new _ _ _)
 have E4:Hid (Ext W3 W4):=by rw[DD];exact hid ((Ext.refl _).alloc _)
 clear DD;have Na:=hid (M7.out.below E4.out.below);have OO:W3.heap.size<=W4.heap.size:=E4.out.size;obtain⟨cs,g1,g2,g3,g4⟩:=Na.out;rw[<-HM.out]at g1 g2;have G1:=hid g1;have G2:=hid g2;have G3:=hid g3;have G4:=hid g4;clear g1 g2 g3 g4 Na M7;refine dZ rfl (.tmp 34) (.tmp 39) 84 rfl V.heap.size 86 iN (.agg eF) 8 80 Tryz.underlying84 sA ig ij ik rfl (by decide) (.slice ru m rc) m (aQ cs) rfl G2.out ⟨W3.heap.size,0,none⟩ 1 1 (aj 2 S 0 0 (.slice none 0 0)).toList rfl (bZ B4.out) rfl (bN _ _ _ _ _ _ _).2 (by unfold maxLen;omega) (by omega) (by omega) ?_;intro v' w' ho hg jo;have K9:Hid (aa (· <V.heap.size) V w'):=hid ((nG.out.tr (E4.out.keeps.mono fun x (hx:x<V.heap.size)=>Nat.lt_of_lt_of_le hx hb3)).tr (aa.aW hg fun x (hx:x<V.heap.size)=>⟨by omega,fun e=>by have:=(G2.out.lt x e.symm).1;omega⟩));have R9:Hid (bu V.heap.size w' v' (PP.all++ [.nd 2 S 0 0 []])):=hid (bu.push (cs:=cs) (c:=aj 2 S 0 0 (.slice none 0 0)) (by rw[<-HM.out];exact G1.out) G3.out G4.out (bN _ _ _ _ _ _ _) (aG.leaf _ _ _ _ _ _ _ _) (by rw[<-HM.out];exact ho) hg jo);obtain⟨WA,WC,rfl⟩:=ownsRow_form ho;clear ho hg jo;go_wp2;go_roundw;case rel=>
  refine⟨k+1,by omega,by go_num,by rw[HST.out,kM.out, <-rU.out],by rw[HST.out,kM.out, <-nZ.out],by rw[HST.out,kM.out];exact R9.out,K9.out⟩
 case measure=>simp[intOf];omega
theorem Nb (b off c:Nat) (l:List (Nat×Nat×Nat)) (w:World) (hb:b<w.heap.size) (hc:l.length<=c) (gv:l.length<=1000000000000000) (hS:∀ (i:Nat) (s:Nat×Nat×Nat),l[i]? =some s->s.1<256/\s.2.1<256/\s.2.2<256/\w.cell? ⟨b,off+i*3,none⟩=some (.int .u8 s.1)/\w.cell? ⟨b,off+i*3+1,none⟩=some (.int .u8 s.2.1)/\w.cell? ⟨b,off+i*3+2,none⟩=some (.int .u8 s.2.2)):(dF b off c l w hb hc gv hS).B:=by
 have HS:=hid hS;intro iN sA ig ij ik R HR n gv hc N jy Cp mW Cq lU HN uw uy uz V R0 X0 rr
 intros
 rename_i k hk wo hlt ed s0 s1 s2 PP Fz DJ FC ru rc m pM uf gr iU HST kK HM rU nZ zS xz xA xB xC xD W1 B1 dy iZ d0 d1 d2 kd G6 jm hbase vX hA hB;have a1:¬ ((kd:Int)<4):=by omega
 have a2:((kd:Int)==4)=true:=by simp[hB]
 have hst:PP.step (s0,s1,s2)=⟨PP.all++ [.nd 1 0 0 0 []],PP.kJ,PP.vv⟩:=by unfold cw.step;dsimp only;rw[<-vX.out,if_neg hA,if_pos hB];unfold cw.put;rw[Nat.sub_zero,List.take_length];rfl
 have kM:=hid hst;clear hst hA hB;go_wp2_with (at_builtin;refine ku rfl ?_);refine hid ?_;clear d0 d1 d2 B1;refine fB ?_;intro W4 DD;have B4:Hid (ak W4 W1.heap.size (aj 1 0 0 0 (.slice none 0 0)) 86):=by rw[DD,iR];exact hid (ak.new _ _ _)
 have E4:Hid (Ext W1 W4):=by rw[DD];exact hid ((Ext.refl _).alloc _)
 clear DD;have M7:=dy;have nG:=iZ;have hb3:=hbase;have Na:=hid (M7.out.below E4.out.below);have OO:W1.heap.size<=W4.heap.size:=E4.out.size;obtain⟨cs,g1,g2,g3,g4⟩:=Na.out;rw[<-HM.out]at g1 g2;have G1:=hid g1;have G2:=hid g2;have G3:=hid g3;have G4:=hid g4;clear g1 g2 g3 g4 Na M7;refine dZ rfl (.tmp 44) (.tmp 46) 84 rfl V.heap.size 86 iN (.agg eF) 8 80 Tryz.underlying84 sA ig ij ik rfl (by decide) (.slice ru m rc) m (aQ cs) rfl G2.out ⟨W1.heap.size,0,none⟩ 1 1 (aj 1 0 0 0 (.slice none 0 0)).toList rfl (bZ B4.out) rfl (bN _ _ _ _ _ _ _).2 (by unfold maxLen;omega) (by omega) (by omega) ?_;intro v' w' ho hg jo;have K9:Hid (aa (· <V.heap.size) V w'):=hid ((nG.out.tr (E4.out.keeps.mono fun x (hx:x<V.heap.size)=>Nat.lt_of_lt_of_le hx hb3)).tr (aa.aW hg fun x (hx:x<V.heap.size)=>⟨by omega,fun e=>by have:=(G2.out.lt x e.symm).1;omega⟩));have R9:Hid (bu V.heap.size w' v' (PP.all++ [.nd 1 0 0 0 []])):=hid (bu.push (cs:=cs) (c:=aj 1 0 0 0 (.slice none 0 0)) (by rw[<-HM.out];exact G1.out) G3.out G4.out (bN _ _ _ _ _ _ _) (aG.leaf _ _ _ _ _ _ _ _) (by rw[<-HM.out];exact ho) hg jo);obtain⟨WA,WC,rfl⟩:=ownsRow_form ho;clear ho hg jo;go_wp2;go_roundw;case rel=>
  refine⟨k+1,by omega,by go_num,by rw[HST.out,kM.out, <-rU.out],by rw[HST.out,kM.out, <-nZ.out],by rw[HST.out,kM.out];exact R9.out,K9.out⟩
 case measure=>simp[intOf];omega
theorem Nc (b off c:Nat) (l:List (Nat×Nat×Nat)) (w:World) (hb:b<w.heap.size) (hc:l.length<=c) (gv:l.length<=1000000000000000) (hS:∀ (i:Nat) (s:Nat×Nat×Nat),l[i]? =some s->s.1<256/\s.2.1<256/\s.2.2<256/\w.cell? ⟨b,off+i*3,none⟩=some (.int .u8 s.1)/\w.cell? ⟨b,off+i*3+1,none⟩=some (.int .u8 s.2.1)/\w.cell? ⟨b,off+i*3+2,none⟩=some (.int .u8 s.2.2)):(dF b off c l w hb hc gv hS).C:=by
 have HS:=hid hS;intro iN sA ig ij ik R HR n gv hc N jy Cp mW Cq lU HN uw uy uz V R0 X0 rr
 intros
 rename_i k hk wo hlt ed s0 s1 s2 PP Fz DJ FC ru rc m pM uf gr iU HST kK HM rU nZ zS xz xA xB xC xD W1 B1 dy iZ d0 d1 d2 kd G6 jm hbase vX hA hB hC;have a1:¬ ((kd:Int)<4):=by omega
 have a2:((kd:Int)==4)=false:=by simp;omega
 have a3:(kd:Int)<7:=by omega
 have a4:(1:Int)<m:=by omega
 obtain⟨q,hq⟩:∃ q,q=m-2:=⟨_,rfl⟩;obtain⟨r,hr⟩:∃ r,r=m-1:=⟨_,rfl⟩;have hw2:IntKind.i64.wrap ((m:Int)-2)=(q:Int):=by rw[IntWalk.i64_in _ (by omega)];omega
 have Sh:IntKind.i64.wrap ((m:Int)-1)=(r:Int):=by rw[IntWalk.i64_in _ (by omega)];omega
 have Wl:q<m:=by omega
 have QB:r<m:=by omega
 have WE:(q:Int)<m:=by omega
 have hri:(r:Int)<m:=by omega
 have hx2:PP.all[q]? =some PP.fH:=by unfold cw.fH;rw[<-HM.out, <-hq];exact bh _ (by rw[<-HM.out];exact Wl)
 have hx1:PP.all[r]? =some PP.last:=by unfold cw.last;rw[<-HM.out, <-hr];exact bh _ (by rw[<-HM.out];exact QB)
 have f2:PP.fH.fine/\PP.fH.size<=1000:=⟨kK.out.fine _ (List.mem_of_getElem? hx2),by have:=mH (List.mem_of_getElem? hx2);have:=kK.out.size;have:=zS.out;omega⟩;have f1:PP.last.fine/\PP.last.size<=1000:=⟨kK.out.fine _ (List.mem_of_getElem? hx1),by have:=mH (List.mem_of_getElem? hx1);have:=kK.out.size;have:=zS.out;omega⟩;have hst:PP.step (s0,s1,s2)=⟨PP.all.take q++ [bG 3 PP.fH PP.last],PP.kJ,PP.vv⟩:=by unfold cw.step;dsimp only;rw[<-vX.out, <-HM.out,if_neg hA,if_neg hB,if_pos hC];unfold cw.put;rw[<-HM.out, <-hq]
 obtain⟨y2,Zk⟩:∃ y,y=PP.fH:=⟨_,rfl⟩;obtain⟨y1,G7⟩:∃ y,y=PP.last:=⟨_,rfl⟩;rw[<-Zk]at hx2 f2 hst;rw[<-G7]at hx1 f1 hst;obtain⟨JJ,Pb⟩:∃ J,J=bG 3 y2 y1:=⟨_,rfl⟩;rw[<-Pb]at hst;have kM:=hid hst;obtain⟨g,p2,c2,e9,ja,hgb,Cn,Zl,t2⟩:=dy.out.iV hx2;subst e9;obtain⟨g',p1,c1,e9,_,_,_,SK,t1⟩:=dy.out.iV hx1;cases e9;have Ex:q<=rc:=by omega
 have ad9:(q:Int)<=rc:=by omega
 have F2:=hid f2;have F1:=hid f1;have U5:=hid Zl;have Nd:=hid SK;have T2:=hid t2;have T1:=hid t1;have Wj:=hid Pb;have HQ:=hid hq;clear hst hx2 hx1 f2 f1 Zl SK t2 t1 Zk G7 Pb hq hr hA hB hC;obtain⟨ka,hka⟩:∃ x,x=y2.kind:=⟨_,rfl⟩;obtain⟨na,Jo⟩:∃ x,x=y2.subs.length:=⟨_,rfl⟩;obtain⟨sa,OH⟩:∃ x,x=y2.set:=⟨_,rfl⟩;obtain⟨ma,MZ⟩:∃ x,x=y2.mn:=⟨_,rfl⟩;obtain⟨xa,SH⟩:∃ x,x=y2.mx:=⟨_,rfl⟩;obtain⟨kb,hkb⟩:∃ x,x=y1.kind:=⟨_,rfl⟩;obtain⟨nb,mm⟩:∃ x,x=y1.subs.length:=⟨_,rfl⟩;obtain⟨sb,oI⟩:∃ x,x=y1.set:=⟨_,rfl⟩;obtain⟨mb,rQ⟩:∃ x,x=y1.mn:=⟨_,rfl⟩;obtain⟨xb,DI⟩:∃ x,x=y1.mx:=⟨_,rfl⟩;rw[<-hka, <-Jo, <-OH, <-MZ, <-SH]at U5 T2;rw[<-hkb, <-mm, <-oI, <-rQ, <-DI]at Nd T1;clear hka Jo OH MZ SH hkb mm oI rQ DI;have CJ:Hid (∀ W,Move false (fun _=>False) W1 W->Calls Tryz.prog 72 #[.int .u8 3,.agg (aj ka sa ma xa (.slice p2 na c2)),.agg (aj kb sb mb xb (.slice p1 nb c1))] W fun e w'=>∃ u,e=.returned u/\aG (fun x=>V.heap.size<=x/\x<w'.heap.size) w' u JJ/\Below W.heap.size W w'):=hid fun W hW=>by
  have G8:aa (· <W1.heap.size) W1 W:=aa.ah hW.below fun _ h=>h
  rw[Wj.out];refine(kt (fun x=>V.heap.size<=x/\x<W1.heap.size) 3 (.inl rfl) _ _ y2 y1 F2.out.1 F1.out.1 F2.out.2 F1.out.2 W (fun x hx=>Nat.lt_of_lt_of_le hx.2 hW.size) ((T2.out.keeps G8 fun x hx=>hx.2.1).mono fun x hx=>⟨hx.1,hx.2.1⟩) ((T1.out.keeps G8 fun x hx=>hx.2.1).mono fun x hx=>⟨hx.1,hx.2.1⟩)).mono ?_;rintro e w' ⟨u,he,hu,hb⟩;exact⟨u,he,hu.mono fun x hx=>⟨by have:=hW.size;have:=hbase;rcases hx.2 with h | h;exact h.1;omega,hx.1⟩,hb⟩
 clear F2 F1 T2 T1;go_upto_region 13 with fail
 refine aA false (fun _=>False) (by kernel_rfl) 18 [0,0,2,0,8,31,0,0,128,448,960,0,0,4096,14336,30720,65472,131008,262143,524287] (fun i=>i==16 || i==17 || i==18) (by kernel_rfl) (fun i=>if i=16 then y7.tree V.heap.size JJ else if i=17 then y7.box V.heap.size JJ else aO.any _) ?_;intro C hC hne;have HC:=hid hC;clear hC d0 d1 d2
 repeat (refine ai (fun K hK=>?_);first | (refine br rfl ?_;try go_simp;refine hK _ _ ?_;clear hK K) | (refine aZ rfl rfl ?_;unfold ar;go_simp;refine hK _ _ ?_;clear hK K))
 refine ai (fun K hK=>?_);refine Al rfl rfl (.agg (aj ka sa ma xa (.slice p2 na c2))) (fun W hW hN=>have hM:=(HC.out W).1 hW;ee 86 (.tmp 64) rfl (g) (q*8) rfl (aj ka sa ma xa (.slice p2 na c2)) _ (ez U5.out (aa.ah hM.below fun _ h=>h:aa (· <W1.heap.size) W1 W) Cn) Tryz.underlying86 rfl (ck _ _ _ _ _)) ?_;go_simp;refine hK _ _ ?_;clear hK K
 repeat (refine ai (fun K hK=>?_);first | (refine br rfl ?_;try go_simp;refine hK _ _ ?_;clear hK K) | (refine aZ rfl rfl ?_;unfold ar;go_simp;refine hK _ _ ?_;clear hK K))
 refine ai (fun K hK=>?_);refine Al rfl rfl (.agg (aj kb sb mb xb (.slice p1 nb c1))) (fun W hW hN=>have hM:=(HC.out W).1 hW;ee 86 (.tmp 69) rfl (g) (r*8) rfl (aj kb sb mb xb (.slice p1 nb c1)) _ (ez Nd.out (aa.ah hM.below fun _ h=>h:aa (· <W1.heap.size) W1 W) Cn) Tryz.underlying86 rfl (ck _ _ _ _ _)) ?_;go_simp;refine hK _ _ ?_;clear hK K;refine ai (fun K hK=>?_);refine bA rfl rfl (y7.tree V.heap.size JJ) rfl (fun W hW hN=>?_) (fun v hv=>?_)
 ·have hM:=(HC.out W).1 hW
  clear hW hN hK K;go_simp;refine aT ((CJ.out W hM).mono ?_);rintro e w2 ⟨u,rfl,ht,hx⟩;exact⟨_,rfl,Move.ah hx,ht.form,ht⟩
 obtain⟨pj,cj,rfl⟩:=hv;unfold aj;go_simp;refine hK _ _ ?_;clear hK K;refine ai (fun K hK=>?_);refine bA rfl rfl (y7.box V.heap.size JJ) rfl (fun W hW hN=>?_) (fun v hv=>?_)
 ·have hM:=(HC.out W).1 hW
  have hT:aG (fun x=>V.heap.size<=x/\x<W.heap.size) W (.agg (aj JJ.kind JJ.set JJ.mn JJ.mx (.slice pj JJ.subs.length cj))) JJ:=hN.at 0 rfl (by kernel_rfl);have HT:=hid hT;clear hW hN hK K hT;go_simp;exact⟨Move.ext ((Ext.refl _).alloc _),⟨_,rfl⟩,fun b hb=>by cases hb;exact⟨_,_,ak.new _ _ _,(HT.out.keeps ((Ext.refl _).alloc _).keeps fun _ hx=>hx.2).mono fun x hx=>by simp;omega⟩⟩
 obtain⟨bz,rfl⟩:=hv;go_simp;refine hK _ _ ?_;clear hK K;refine aY (fun W hW hH=>?_);have hM:=(HC.out W).1 hW;obtain⟨pz,cz,Zm,Zn⟩:∃ p c,ak W bz (aj JJ.kind JJ.set JJ.mn JJ.mx (.slice p JJ.subs.length c)) 86/\aG (fun x=>V.heap.size<=x/\x<W.heap.size) W (.agg (aj JJ.kind JJ.set JJ.mn JJ.mx (.slice p JJ.subs.length c))) JJ:=(hH _ (List.mem_of_getElem? (show _=some _ from rfl:_[0]? =some _))) bz rfl;have BZ:=hid Zm;have TZ:=hid Zn;have Nf:=hid (dy.out.below hM.below);have U6:Hid (aa (· <V.heap.size) V W):=hid (iZ.out.tr (aa.ah hM.below fun x (hx:x<V.heap.size)=>Nat.lt_of_lt_of_le hx hbase));have Zo:V.heap.size<=W.heap.size:=U6.out.size;clear hM hW hH HC hne Zm Zn dy iZ U5 Nd CJ;obtain⟨cs,g1,g2,g3,g4⟩:=Nf.out;rw[<-HM.out]at g2;have hcs:(cs.take q).length=q:=by rw[List.length_take,g1, <-HM.out];omega
 refine lR rfl (.tmp 60) (.tmp 72) 84 rfl V.heap.size 86 iN (.agg eF) 8 80 Tryz.underlying84 sA ig ij ik rfl (by decide) ⟨g,0,none⟩ q (aQ (cs.take q)) rfl (by rw[eQ fun c hc=>(g3 c (List.mem_of_mem_take hc)).1,hcs]) (fun j u hj=>g2.cells (g:=g) rfl _ _ (rE hj)) ⟨bz,0,none⟩ 1 1 (aj JJ.kind JJ.set JJ.mn JJ.mx (.slice pz JJ.subs.length cz)).toList rfl (bZ BZ.out) rfl (by decide) (by unfold maxLen;omega) (by omega) Zo ?_;intro v' w' ho hx hv';have R9:Hid (bu V.heap.size w' v' (PP.all.take q++ [JJ])):=hid (bu.fresh (cs:=cs) (c:=aj JJ.kind JJ.set JJ.mn JJ.mx (.slice pz JJ.subs.length cz)) (by rw[<-HM.out];omega) g1 g3 (fun i c t hi ht=>(g4 i c t hi ht).mono fun x hx=>⟨hx.1,hx.2.1⟩) (bN _ _ _ _ _ _ _) TZ.out ho hx hv');have K9:Hid (aa (· <V.heap.size) V w'):=hid (U6.out.tr (aa.ah hx fun x (hx:x<V.heap.size)=>Nat.lt_of_lt_of_le hx Zo));obtain⟨WA,WC,rfl⟩:=ownsRow_form ho;clear ho hx hv' g1 g2 g3 g4 hcs Nf BZ TZ U6;go_wp2;go_roundw;case rel=>
  refine⟨k+1,by omega,by go_num,by rw[HST.out,kM.out, <-rU.out],by rw[HST.out,kM.out, <-nZ.out],?_,K9.out⟩;rw[HST.out,kM.out];have e8:(PP.all.take q++ [JJ]).length=q+1:=by rw[List.length_append,List.length_take, <-HM.out];simp;omega
  exact R9.out
 case measure=>simp[intOf];omega
theorem Ng (b off c:Nat) (l:List (Nat×Nat×Nat)) (w:World) (hb:b<w.heap.size) (hc:l.length<=c) (gv:l.length<=1000000000000000) (hS:∀ (i:Nat) (s:Nat×Nat×Nat),l[i]? =some s->s.1<256/\s.2.1<256/\s.2.2<256/\w.cell? ⟨b,off+i*3,none⟩=some (.int .u8 s.1)/\w.cell? ⟨b,off+i*3+1,none⟩=some (.int .u8 s.2.1)/\w.cell? ⟨b,off+i*3+2,none⟩=some (.int .u8 s.2.2)):(dF b off c l w hb hc gv hS).D:=by
 have HS:=hid hS;intro iN sA ig ij ik R HR n gv hc N jy Cp mW Cq lU HN uw uy uz V R0 X0 rr
 intros
 rename_i k hk wo hlt ed s0 s1 s2 PP Fz DJ FC ru rc m pM uf gr iU HST kK HM rU nZ zS xz xA xB xC xD W1 B1 dy iZ d0 d1 d2 kd G6 jm hbase vX hA hB hC hD;have a1:¬ ((kd:Int)<4):=by omega
 have a2:((kd:Int)==4)=false:=by simp;omega
 have a3:¬ ((kd:Int)<7):=by omega
 have a4:(1:Int)<m:=by omega
 have a5:(kd:Int)<9:=by omega
 obtain⟨q,hq⟩:∃ q,q=m-2:=⟨_,rfl⟩;obtain⟨r,hr⟩:∃ r,r=m-1:=⟨_,rfl⟩;have hw2:IntKind.i64.wrap ((m:Int)-2)=(q:Int):=by rw[IntWalk.i64_in _ (by omega)];omega
 have Sh:IntKind.i64.wrap ((m:Int)-1)=(r:Int):=by rw[IntWalk.i64_in _ (by omega)];omega
 have Wl:q<m:=by omega
 have QB:r<m:=by omega
 have WE:(q:Int)<m:=by omega
 have hri:(r:Int)<m:=by omega
 have hx2:PP.all[q]? =some PP.fH:=by unfold cw.fH;rw[<-HM.out, <-hq];exact bh _ (by rw[<-HM.out];exact Wl)
 have hx1:PP.all[r]? =some PP.last:=by unfold cw.last;rw[<-HM.out, <-hr];exact bh _ (by rw[<-HM.out];exact QB)
 have f2:PP.fH.fine/\PP.fH.size<=1000:=⟨kK.out.fine _ (List.mem_of_getElem? hx2),by have:=mH (List.mem_of_getElem? hx2);have:=kK.out.size;have:=zS.out;omega⟩;have f1:PP.last.fine/\PP.last.size<=1000:=⟨kK.out.fine _ (List.mem_of_getElem? hx1),by have:=mH (List.mem_of_getElem? hx1);have:=kK.out.size;have:=zS.out;omega⟩;have hst:PP.step (s0,s1,s2)=⟨PP.all.take q++ [bG 4 PP.fH PP.last],PP.kJ,PP.vv⟩:=by unfold cw.step;dsimp only;rw[<-vX.out, <-HM.out,if_neg hA,if_neg hB,if_neg hC,if_pos hD];unfold cw.put;rw[<-HM.out, <-hq]
 obtain⟨y2,Zk⟩:∃ y,y=PP.fH:=⟨_,rfl⟩;obtain⟨y1,G7⟩:∃ y,y=PP.last:=⟨_,rfl⟩;rw[<-Zk]at hx2 f2 hst;rw[<-G7]at hx1 f1 hst;obtain⟨JJ,Pb⟩:∃ J,J=bG 4 y2 y1:=⟨_,rfl⟩;rw[<-Pb]at hst;have kM:=hid hst;obtain⟨g,p2,c2,e9,ja,hgb,Cn,Zl,t2⟩:=dy.out.iV hx2;subst e9;obtain⟨g',p1,c1,e9,_,_,_,SK,t1⟩:=dy.out.iV hx1;cases e9;have Ex:q<=rc:=by omega
 have ad9:(q:Int)<=rc:=by omega
 have F2:=hid f2;have F1:=hid f1;have U5:=hid Zl;have Nd:=hid SK;have T2:=hid t2;have T1:=hid t1;have Wj:=hid Pb;have HQ:=hid hq;clear hst hx2 hx1 f2 f1 Zl SK t2 t1 Zk G7 Pb hq hr hA hB hC hD;obtain⟨ka,hka⟩:∃ x,x=y2.kind:=⟨_,rfl⟩;obtain⟨na,Jo⟩:∃ x,x=y2.subs.length:=⟨_,rfl⟩;obtain⟨sa,OH⟩:∃ x,x=y2.set:=⟨_,rfl⟩;obtain⟨ma,MZ⟩:∃ x,x=y2.mn:=⟨_,rfl⟩;obtain⟨xa,SH⟩:∃ x,x=y2.mx:=⟨_,rfl⟩;obtain⟨kb,hkb⟩:∃ x,x=y1.kind:=⟨_,rfl⟩;obtain⟨nb,mm⟩:∃ x,x=y1.subs.length:=⟨_,rfl⟩;obtain⟨sb,oI⟩:∃ x,x=y1.set:=⟨_,rfl⟩;obtain⟨mb,rQ⟩:∃ x,x=y1.mn:=⟨_,rfl⟩;obtain⟨xb,DI⟩:∃ x,x=y1.mx:=⟨_,rfl⟩;rw[<-hka, <-Jo, <-OH, <-MZ, <-SH]at U5 T2;rw[<-hkb, <-mm, <-oI, <-rQ, <-DI]at Nd T1;clear hka Jo OH MZ SH hkb mm oI rQ DI;have CJ:Hid (∀ W,Move false (fun _=>False) W1 W->Calls Tryz.prog 72 #[.int .u8 4,.agg (aj ka sa ma xa (.slice p2 na c2)),.agg (aj kb sb mb xb (.slice p1 nb c1))] W fun e w'=>∃ u,e=.returned u/\aG (fun x=>V.heap.size<=x/\x<w'.heap.size) w' u JJ/\Below W.heap.size W w'):=hid fun W hW=>by
  have G8:aa (· <W1.heap.size) W1 W:=aa.ah hW.below fun _ h=>h
  rw[Wj.out];refine(kt (fun x=>V.heap.size<=x/\x<W1.heap.size) 4 (.inr rfl) _ _ y2 y1 F2.out.1 F1.out.1 F2.out.2 F1.out.2 W (fun x hx=>Nat.lt_of_lt_of_le hx.2 hW.size) ((T2.out.keeps G8 fun x hx=>hx.2.1).mono fun x hx=>⟨hx.1,hx.2.1⟩) ((T1.out.keeps G8 fun x hx=>hx.2.1).mono fun x hx=>⟨hx.1,hx.2.1⟩)).mono ?_;rintro e w' ⟨u,he,hu,hb⟩;exact⟨u,he,hu.mono fun x hx=>⟨by have:=hW.size;have:=hbase;rcases hx.2 with h | h;exact h.1;omega,hx.1⟩,hb⟩
 clear F2 F1 T2 T1;go_upto_region 15 with fail
 refine aA false (fun _=>False) (by kernel_rfl) 18 [0,0,2,0,8,31,0,0,128,448,960,0,0,4096,14336,30720,65472,131008,262143,524287] (fun i=>i==16 || i==17 || i==18) (by kernel_rfl) (fun i=>if i=16 then y7.tree V.heap.size JJ else if i=17 then y7.box V.heap.size JJ else aO.any _) ?_;intro C hC hne;have HC:=hid hC;clear hC d0 d1 d2
 repeat (refine ai (fun K hK=>?_);first | (refine br rfl ?_;try go_simp;refine hK _ _ ?_;clear hK K) | (refine aZ rfl rfl ?_;unfold ar;go_simp;refine hK _ _ ?_;clear hK K))
 refine ai (fun K hK=>?_);refine Al rfl rfl (.agg (aj ka sa ma xa (.slice p2 na c2))) (fun W hW hN=>have hM:=(HC.out W).1 hW;ee 86 (.tmp 90) rfl (g) (q*8) rfl (aj ka sa ma xa (.slice p2 na c2)) _ (ez U5.out (aa.ah hM.below fun _ h=>h:aa (· <W1.heap.size) W1 W) Cn) Tryz.underlying86 rfl (ck _ _ _ _ _)) ?_;go_simp;refine hK _ _ ?_;clear hK K
 repeat (refine ai (fun K hK=>?_);first | (refine br rfl ?_;try go_simp;refine hK _ _ ?_;clear hK K) | (refine aZ rfl rfl ?_;unfold ar;go_simp;refine hK _ _ ?_;clear hK K))
 refine ai (fun K hK=>?_);refine Al rfl rfl (.agg (aj kb sb mb xb (.slice p1 nb c1))) (fun W hW hN=>have hM:=(HC.out W).1 hW;ee 86 (.tmp 95) rfl (g) (r*8) rfl (aj kb sb mb xb (.slice p1 nb c1)) _ (ez Nd.out (aa.ah hM.below fun _ h=>h:aa (· <W1.heap.size) W1 W) Cn) Tryz.underlying86 rfl (ck _ _ _ _ _)) ?_;go_simp;refine hK _ _ ?_;clear hK K;refine ai (fun K hK=>?_);refine bA rfl rfl (y7.tree V.heap.size JJ) rfl (fun W hW hN=>?_) (fun v hv=>?_)
 ·have hM:=(HC.out W).1 hW
  clear hW hN hK K;go_simp;refine aT ((CJ.out W hM).mono ?_);rintro e w2 ⟨u,rfl,ht,hx⟩;exact⟨_,rfl,Move.ah hx,ht.form,ht⟩
 obtain⟨pj,cj,rfl⟩:=hv;unfold aj;go_simp;refine hK _ _ ?_;clear hK K;refine ai (fun K hK=>?_);refine bA rfl rfl (y7.box V.heap.size JJ) rfl (fun W hW hN=>?_) (fun v hv=>?_)
 ·have hM:=(HC.out W).1 hW
  have hT:aG (fun x=>V.heap.size<=x/\x<W.heap.size) W (.agg (aj JJ.kind JJ.set JJ.mn JJ.mx (.slice pj JJ.subs.length cj))) JJ:=hN.at 0 rfl (by kernel_rfl);have HT:=hid hT;clear hW hN hK K hT;go_simp;exact⟨Move.ext ((Ext.refl _).alloc _),⟨_,rfl⟩,fun b hb=>by cases hb;exact⟨_,_,ak.new _ _ _,(HT.out.keeps ((Ext.refl _).alloc _).keeps fun _ hx=>hx.2).mono fun x hx=>by simp;omega⟩⟩
 obtain⟨bz,rfl⟩:=hv;go_simp;refine hK _ _ ?_;clear hK K;refine aY (fun W hW hH=>?_);have hM:=(HC.out W).1 hW;obtain⟨pz,cz,Zm,Zn⟩:∃ p c,ak W bz (aj JJ.kind JJ.set JJ.mn JJ.mx (.slice p JJ.subs.length c)) 86/\aG (fun x=>V.heap.size<=x/\x<W.heap.size) W (.agg (aj JJ.kind JJ.set JJ.mn JJ.mx (.slice p JJ.subs.length c))) JJ:=(hH _ (List.mem_of_getElem? (show _=some _ from rfl:_[0]? =some _))) bz rfl;have BZ:=hid Zm;have TZ:=hid Zn;have Nf:=hid (dy.out.below hM.below);have U6:Hid (aa (· <V.heap.size) V W):=hid (iZ.out.tr (aa.ah hM.below fun x (hx:x<V.heap.size)=>Nat.lt_of_lt_of_le hx hbase));have Zo:V.heap.size<=W.heap.size:=U6.out.size;clear hM hW hH HC hne Zm Zn dy iZ U5 Nd CJ;obtain⟨cs,g1,g2,g3,g4⟩:=Nf.out;rw[<-HM.out]at g2;have hcs:(cs.take q).length=q:=by rw[List.length_take,g1, <-HM.out];omega
 refine lR rfl (.tmp 86) (.tmp 98) 84 rfl V.heap.size 86 iN (.agg eF) 8 80 Tryz.underlying84 sA ig ij ik rfl (by decide) ⟨g,0,none⟩ q (aQ (cs.take q)) rfl (by rw[eQ fun c hc=>(g3 c (List.mem_of_mem_take hc)).1,hcs]) (fun j u hj=>g2.cells (g:=g) rfl _ _ (rE hj)) ⟨bz,0,none⟩ 1 1 (aj JJ.kind JJ.set JJ.mn JJ.mx (.slice pz JJ.subs.length cz)).toList rfl (bZ BZ.out) rfl (by decide) (by unfold maxLen;omega) (by omega) Zo ?_;intro v' w' ho hx hv';have R9:Hid (bu V.heap.size w' v' (PP.all.take q++ [JJ])):=hid (bu.fresh (cs:=cs) (c:=aj JJ.kind JJ.set JJ.mn JJ.mx (.slice pz JJ.subs.length cz)) (by rw[<-HM.out];omega) g1 g3 (fun i c t hi ht=>(g4 i c t hi ht).mono fun x hx=>⟨hx.1,hx.2.1⟩) (bN _ _ _ _ _ _ _) TZ.out ho hx hv');have K9:Hid (aa (· <V.heap.size) V w'):=hid (U6.out.tr (aa.ah hx fun x (hx:x<V.heap.size)=>Nat.lt_of_lt_of_le hx Zo));obtain⟨WA,WC,rfl⟩:=ownsRow_form ho;clear ho hx hv' g1 g2 g3 g4 hcs Nf BZ TZ U6;go_wp2;go_roundw;case rel=>
  refine⟨k+1,by omega,by go_num,by rw[HST.out,kM.out, <-rU.out],by rw[HST.out,kM.out, <-nZ.out],?_,K9.out⟩;rw[HST.out,kM.out];have e8:(PP.all.take q++ [JJ]).length=q+1:=by rw[List.length_append,List.length_take, <-HM.out];simp;omega
  exact R9.out
 case measure=>simp[intOf];omega
theorem Nh (b off c:Nat) (l:List (Nat×Nat×Nat)) (w:World) (hb:b<w.heap.size) (hc:l.length<=c) (gv:l.length<=1000000000000000) (hS:∀ (i:Nat) (s:Nat×Nat×Nat),l[i]? =some s->s.1<256/\s.2.1<256/\s.2.2<256/\w.cell? ⟨b,off+i*3,none⟩=some (.int .u8 s.1)/\w.cell? ⟨b,off+i*3+1,none⟩=some (.int .u8 s.2.1)/\w.cell? ⟨b,off+i*3+2,none⟩=some (.int .u8 s.2.2)):(dF b off c l w hb hc gv hS).E:=by
 have HS:=hid hS;intro iN sA ig ij ik R HR n gv hc N jy Cp mW Cq lU HN uw uy uz V R0 X0 rr
 intros
 rename_i k hk wo hlt ed s0 s1 s2 PP Fz DJ FC ru rc m pM uf gr iU HST kK HM rU nZ zS xz xA xB xC xD W1 B1 dy iZ d0 d1 d2 kd G6 jm hbase vX hA hB hC hD hE;have a1:¬ ((kd:Int)<4):=by omega
 have a2:((kd:Int)==4)=false:=by simp;omega
 have a3:¬ ((kd:Int)<7):=by omega
 have a5:¬ ((kd:Int)<9):=by omega
 have a6:((kd:Int)==9)=true:=by simp[hE.1]
 have a8:(0:Int)<m:=by omega
 have a9:(gr:Int)<9:=by omega
 obtain⟨r,hr⟩:∃ r,r=m-1:=⟨_,rfl⟩;have Sh:IntKind.i64.wrap ((m:Int)-1)=(r:Int):=by rw[IntWalk.i64_in _ (by omega)];omega
 have QB:r<m:=by omega
 have hri:(r:Int)<m:=by omega
 have hx1:PP.all[r]? =some PP.last:=by unfold cw.last;rw[<-HM.out, <-hr];exact bh _ (by rw[<-HM.out];exact QB)
 obtain⟨y1,G7⟩:∃ y,y=PP.last:=⟨_,rfl⟩;rw[<-G7]at hx1;have hst:PP.step (s0,s1,s2)=⟨PP.all.take r++ [.nd 6 0 0 0 [y1]],PP.kJ,PP.vv+1⟩:=by unfold cw.step;dsimp only;rw[<-vX.out, <-HM.out, <-nZ.out,if_neg hA,if_neg hB,if_neg hC,if_neg hD,if_pos hE];unfold cw.put;rw[<-HM.out, <-hr, <-G7]
 have kM:=hid hst;clear hst G7 hA hB hC hD hE;obtain⟨g,p1,c1,e9,U7,ja,hgb,Cn,⟨f0,f1,f2,f3,f4,f5,f6,f7⟩,t1⟩:=dy.out.elem hx1;subst e9;have T1:=hid t1;clear t1;obtain⟨kb,hkb⟩:∃ x,x=y1.kind:=⟨_,rfl⟩;obtain⟨nb,mm⟩:∃ x,x=y1.subs.length:=⟨_,rfl⟩;obtain⟨sb,oI⟩:∃ x,x=y1.set:=⟨_,rfl⟩;obtain⟨mb,rQ⟩:∃ x,x=y1.mn:=⟨_,rfl⟩;obtain⟨xb,DI⟩:∃ x,x=y1.mx:=⟨_,rfl⟩;rw[<-hkb]at f0;rw[<-oI]at f1 f2 f3 f4;rw[<-rQ]at f5;rw[<-DI]at f6;rw[<-mm]at f7;rw[<-hkb, <-mm, <-oI, <-rQ, <-DI]at T1;have Zg:=hid hkb;have aea:=hid hx1;have TH:=hid hr;clear hkb mm oI rQ DI hx1 hr U7;have hgw:IntKind.i64.wrap ((gr:Int)+1)=((gr+1:Nat):Int):=by rw[IntWalk.i64_in _ (by omega)];omega
 go_wp2_with fail
 refine(Co _ y1 (fun x=>V.heap.size<=x/\x<W1.heap.size/\x≠g) W1 (fun x hx=>hx.2.1) T1.out).mono ?_;rintro e W2 ⟨u,rfl,hu,hx2⟩;have HU:=hid hu;obtain⟨pu,cu,rfl⟩:=hu.form;have Cs:=hid (dy.out.below hx2);have eZ:Hid (aa (· <V.heap.size) V W2):=hid (iZ.out.tr (aa.ah hx2 fun x (hx:x<V.heap.size)=>Nat.lt_of_lt_of_le hx hbase));obtain⟨cs,q1,q2,q3,q4⟩:=Cs.out;rw[<-HM.out]at q2;have kc:∀ (o:Nat) (v:Value),W1.cell? ⟨g,o,none⟩=some v->W2.cell? ⟨g,o,none⟩=some v:=fun o v h=>((aa.ah hx2 fun _ h=>h:aa (· <W1.heap.size) W1 W2).cell (p:=⟨g,o,none⟩) Cn).trans h
 replace f0:=kc _ _ f0;replace f1:=kc _ _ f1;replace f2:=kc _ _ f2;replace f3:=kc _ _ f3;replace f4:=kc _ _ f4;replace f5:=kc _ _ f5;replace f6:=kc _ _ f6;replace f7:=kc _ _ f7;have z0:W2.frozen? ⟨g,r*8,none⟩=false:=q2.frozenAt _;have z1:W2.frozen? ⟨g,r*8+1,none⟩=false:=q2.frozenAt _;have z2:W2.frozen? ⟨g,r*8+2,none⟩=false:=q2.frozenAt _;have z3:W2.frozen? ⟨g,r*8+3,none⟩=false:=q2.frozenAt _;have z4:W2.frozen? ⟨g,r*8+4,none⟩=false:=q2.frozenAt _;have z5:W2.frozen? ⟨g,r*8+5,none⟩=false:=q2.frozenAt _;have z6:W2.frozen? ⟨g,r*8+6,none⟩=false:=q2.frozenAt _;have z7:W2.frozen? ⟨g,r*8+7,none⟩=false:=q2.frozenAt _;have Q1:=hid q1;have Q2:=hid q2;have Q3:=hid q3;have Q4:=hid q4;have aeb:V.heap.size<=g:=hgb;have hs2:W1.heap.size<=W2.heap.size:=hx2.size;clear hu hx2 kc q1 q2 q3 q4 Cs dy iZ d0 d1 d2 B1;simp only[RX.kind,RX.set,RX.mn,RX.mx,RX.subs,List.length_cons,List.length_nil,Nat.zero_add]at HU ⊢;unfold aj;go_upto_region 18 with fail
 refine au ?_;intro W3 hW3;have K3:Hid (aa (· ≠g) W2 W3):=by rw[hW3];exact hid (((((((((aa.refl _ _).setCell (fun e=>e rfl) _).setCell (fun e=>e rfl) _).setCell (fun e=>e rfl) _).setCell (fun e=>e rfl) _).setCell (fun e=>e rfl) _).setCell (fun e=>e rfl) _).setCell (fun e=>e rfl) _).setCell (fun e=>e rfl) _)
 have R9:Hid (bu V.heap.size W3 (.slice (some ⟨g,0,none⟩) m rc) (PP.all.set r (.nd 6 0 0 0 [y1]))):=by
  rw[hW3,HM.out];refine hid (bu.turned (by rw[<-HM.out];exact QB) Q1.out (by rw[<-HM.out];exact Q2.out) Q3.out (fun i c t hi ht=>(Q4.out i c t hi ht).mono fun x hx=>⟨hx.1,hx.2.1,fun e=>hx.2.2 (by rw[e];rfl)⟩) ?_ ?_)
  ·exact(bN _ _ _ _ _ _ _).2
  ·exact HU.out.mono fun x hx=>⟨by rcases hx.2 with h | h;exact h.1;omega,hx.1,fun e=>by rcases hx.2 with h | h;exact h.2.2 e;omega⟩
 have K9:Hid (aa (· <V.heap.size) V W3):=hid (eZ.out.tr (K3.out.mono fun x (hx:x<V.heap.size)=>by show x≠g;omega));clear hW3 f0 f1 f2 f3 f4 f5 f6 f7 z0 z1 z2 z3 z4 z5 z6 z7 Q1 Q2 Q3 Q4 HU eZ K3;have mR:PP.all.set r (.nd 6 0 0 0 [y1])=PP.all.take r++ [.nd 6 0 0 0 [y1]]:=by
  have e:=jM (l:=PP.all) (by rw[<-HM.out];omega);rw[<-HM.out, <-TH.out]at e
  conv=>lhs;rw[e]
  rw[List.set_append_right _ _ (by rw[List.length_take];omega),List.length_take,Nat.min_eq_left (by rw[<-HM.out];omega),Nat.sub_self];rfl
 have Es:=hid mR;clear mR;go_wp2;go_roundw;case rel=>
  refine⟨k+1,by omega,by go_num,?_,?_,?_,K9.out⟩
  ·have e7:(gU (l.take (k+1))).kJ=uf:=by rw[HST.out,kM.out];exact rU.out.symm
   rw[e7]
   try rfl
   try go_num
  ·have e7:(gU (l.take (k+1))).vv=gr+1:=by rw[HST.out,kM.out];rw[nZ.out]
   rw[e7]
   try rfl
   try go_num
  ·rw[HST.out,kM.out, <-Es.out]
   have e8:(PP.all.set r (.nd 6 0 0 0 [y1])).length=m:=by rw[List.length_set];exact HM.out.symm
   exact R9.out
 case measure=>simp[intOf];omega
end Go.Proofs.YtbiboekhakbnpaaGreatDoor
