/- Numbers of keys in the order in which they come, in plain words. -/
import Derived.Test.YtjgccapbphadjaaGreatDoorOM14
set_option maxRecDepth 100000
set_option maxHeartbeats 16000000
open Go.Lib (hid)
namespace Go.Proofs.YtjgccapbphadjaaGreatDoor
section
open Go Go.RowKit Go.Shelf Go.Maps
theorem Rh (b off c:Nat) (l:List (Nat×Nat×Nat)) (w:World) (hb:b<w.heap.size) (hc:l.length<=c) (iZ:l.length<=1000000000000000) (hS:∀ (i:Nat) (s:Nat×Nat×Nat),l[i]? =some s->s.1<256/\s.2.1<256/\s.2.2<256/\w.cell? ⟨b,off+i*3,none⟩=some (.int .u8 s.1)/\w.cell? ⟨b,off+i*3+1,none⟩=some (.int .u8 s.2.1)/\w.cell? ⟨b,off+i*3+2,none⟩=some (.int .u8 s.2.2)):(eA b off c l w hb hc iZ hS).A:=by
 have HS:=hid hS;intro iN vk jz jA jB R HR n iZ hc N l4 Fp oU Fq oQ HN xe xf xh V R0 X0 qE
 intros
 rename_i k hk wo hlt eG s0 s1 s2 PP I7 GX I8 ru rc m rM uf gr jU HST j6 HM uU lF Dz Am Ao Ap Aq Ar W1 B1 ei j7 d0 d1 d2 kd GY ku hbase ze hA;have a1:(kd:Int)<4:=by omega
 have hst:PP.step (s0,s1,s2)=⟨PP.all++ [nJ s1],PP.mE,PP.yy⟩:=by unfold dr.step;dsimp only;rw[<-ze.out,if_pos hA];unfold dr.put;rw[Nat.sub_zero,List.take_length]
 have mG:=hid hst;clear hst hA;go_wp2_with fail
 refine(zb s1 GX W1).mono ?_;rintro e W2 ⟨str,rfl,hstr,hx2⟩;have acy:=hid hstr;have hl7:(dX s1).length<=1000000:=by
  have q:∀ r:Nat,([[97],[98],[97,98],[97],[98],[99],[97,98,99],[98,99],[10],[0,255],[97],[98]].getD r []:List Nat).length<=3:=fun r=>by
   rcases Nat.lt_or_ge r 12 with h | h
   ·have hc:r=0\/r=1\/r=2\/r=3\/r=4\/r=5\/r=6\/r=7\/r=8\/r=9\/r=10\/r=11:=by omega
    rcases hc with rfl | rfl | rfl | rfl | rfl | rfl | rfl | rfl | rfl | rfl | rfl | rfl<;>decide
   ·rw[bh,aX (by simpa using h)];decide
  unfold dX;exact Nat.le_trans (q _) (by decide)
 have Fu:=hid (ei.out.below hx2);have fK:Hid (ae (· <V.heap.size) V W2):=hid (j7.out.tr (ae.ak hx2 fun x (hx:x<V.heap.size)=>aA hx hbase));clear hx2 hstr;go_wp2_with fail
 refine(nO str _ acy.out hl7 W2).mono ?_;rintro e W3 ⟨rfl,hx3⟩;obtain⟨S,hS⟩:=ag (pM fun c=>(dX s1).contains c);rw[<-hS];have mA:nJ s1=.nd 2 S 0 0 []:=by unfold nJ;rw[<-hS]
 rw[mA]at mG;have Ri:=hid (Fu.out.below hx3);have od:Hid (ae (· <V.heap.size) V W3):=hid (fK.out.tr (ae.ak hx3 fun x (hx:x<V.heap.size)=>aA hx fK.out.size));have hb3:V.heap.size<=W3.heap.size:=od.out.size;clear hS mA hx3 ei Fu fK d0 d1 d2 B1 hl7 acy;unfold aq;go_wp2_with (at_builtin;refine rL rfl ?_);refine hid ?_;refine jw ?_;intro W4 Kt;have B4:Hid (ar W4 W3.heap.size (aq 2 S 0 0 (.slice none 0 0)) 97):=by rw[Kt];exact hid (ar.new _ _ _)
 have E4:Hid (Ext W3 W4):=by rw[Kt];exact hid ((Ext.refl _).alloc _)
 clear Kt;have Rj:=hid (Ri.out.below E4.out.below);have ID:W3.heap.size<=W4.heap.size:=E4.out.size;obtain⟨cs,g1,g2,g3,g4⟩:=Rj.out;rw[<-HM.out]at g1 g2;have G1:=hid g1;have G2:=hid g2;have G3:=hid g3;have G4:=hid g4;clear g1 g2 g3 g4 Rj Ri;refine fh rfl (.tmp 34) (.tmp 39) 95 rfl V.heap.size 97 iN (.agg eM) 8 80 Tryz.underlying95 vk jz jA jB rfl (by decide) (.slice ru m rc) m (bC cs) rfl G2.out ⟨W3.heap.size,0,none⟩ 1 1 (aq 2 S 0 0 (.slice none 0 0)).toList rfl (cK B4.out) rfl (cG _ _ _ _ _ _ _).2 (by unfold maxLen;omega) (by omega) (by omega) ?_;intro v' w' ho hg kE;have K9:Hid (ae (· <V.heap.size) V w'):=hid ((od.out.tr (E4.out.keeps.mono fun x (hx:x<V.heap.size)=>aA hx hb3)).tr (ae.bw hg fun x (hx:x<V.heap.size)=>⟨by omega,fun e=>by have:=(G2.out.lt x e.symm).1;omega⟩));have R9:Hid (bV V.heap.size w' v' (PP.all++ [.nd 2 S 0 0 []])):=hid (bV.push (cs:=cs) (c:=aq 2 S 0 0 (.slice none 0 0)) (by rw[<-HM.out];exact G1.out) G3.out G4.out (cG _ _ _ _ _ _ _) (aJ.leaf _ _ _ _ _ _ _ _) (by rw[<-HM.out];exact ho) hg kE);obtain⟨va',vc',rfl⟩:=ownsRow_form ho;clear ho hg kE;go_wp2;go_roundw;case rel=>
  refine⟨k+1,by omega,by go_num,by rw[HST.out,mG.out, <-uU.out],by rw[HST.out,mG.out, <-lF.out],by rw[HST.out,mG.out];exact R9.out,K9.out⟩
 case measure=>simp[intOf];omega
theorem Rk (b off c:Nat) (l:List (Nat×Nat×Nat)) (w:World) (hb:b<w.heap.size) (hc:l.length<=c) (iZ:l.length<=1000000000000000) (hS:∀ (i:Nat) (s:Nat×Nat×Nat),l[i]? =some s->s.1<256/\s.2.1<256/\s.2.2<256/\w.cell? ⟨b,off+i*3,none⟩=some (.int .u8 s.1)/\w.cell? ⟨b,off+i*3+1,none⟩=some (.int .u8 s.2.1)/\w.cell? ⟨b,off+i*3+2,none⟩=some (.int .u8 s.2.2)):(eA b off c l w hb hc iZ hS).B:=by
 have HS:=hid hS;intro iN vk jz jA jB R HR n iZ hc N l4 Fp oU Fq oQ HN xe xf xh V R0 X0 qE
 intros
 rename_i k hk wo hlt eG s0 s1 s2 PP I7 GX I8 ru rc m rM uf gr jU HST j6 HM uU lF Dz Am Ao Ap Aq Ar W1 B1 ei j7 d0 d1 d2 kd GY ku hbase ze hA hB;have a1:¬ ((kd:Int)<4):=by omega
 have a2:((kd:Int)==4)=true:=by simp[hB]
 have hst:PP.step (s0,s1,s2)=⟨PP.all++ [.nd 1 0 0 0 []],PP.mE,PP.yy⟩:=by unfold dr.step;dsimp only;rw[<-ze.out,if_neg hA,if_pos hB];unfold dr.put;rw[Nat.sub_zero,List.take_length];rfl
 have mG:=hid hst;clear hst hA hB;go_wp2_with (at_builtin;refine rL rfl ?_);refine hid ?_;clear d0 d1 d2 B1;refine jw ?_;intro W4 Kt;have B4:Hid (ar W4 W1.heap.size (aq 1 0 0 0 (.slice none 0 0)) 97):=by rw[Kt,bP];exact hid (ar.new _ _ _)
 have E4:Hid (Ext W1 W4):=by rw[Kt];exact hid ((Ext.refl _).alloc _)
 clear Kt;have Ri:=ei;have od:=j7;have hb3:=hbase;have Rj:=hid (Ri.out.below E4.out.below);have ID:W1.heap.size<=W4.heap.size:=E4.out.size;obtain⟨cs,g1,g2,g3,g4⟩:=Rj.out;rw[<-HM.out]at g1 g2;have G1:=hid g1;have G2:=hid g2;have G3:=hid g3;have G4:=hid g4;clear g1 g2 g3 g4 Rj Ri;refine fh rfl (.tmp 44) (.tmp 46) 95 rfl V.heap.size 97 iN (.agg eM) 8 80 Tryz.underlying95 vk jz jA jB rfl (by decide) (.slice ru m rc) m (bC cs) rfl G2.out ⟨W1.heap.size,0,none⟩ 1 1 (aq 1 0 0 0 (.slice none 0 0)).toList rfl (cK B4.out) rfl (cG _ _ _ _ _ _ _).2 (by unfold maxLen;omega) (by omega) (by omega) ?_;intro v' w' ho hg kE;have K9:Hid (ae (· <V.heap.size) V w'):=hid ((od.out.tr (E4.out.keeps.mono fun x (hx:x<V.heap.size)=>aA hx hb3)).tr (ae.bw hg fun x (hx:x<V.heap.size)=>⟨by omega,fun e=>by have:=(G2.out.lt x e.symm).1;omega⟩));have R9:Hid (bV V.heap.size w' v' (PP.all++ [.nd 1 0 0 0 []])):=hid (bV.push (cs:=cs) (c:=aq 1 0 0 0 (.slice none 0 0)) (by rw[<-HM.out];exact G1.out) G3.out G4.out (cG _ _ _ _ _ _ _) (aJ.leaf _ _ _ _ _ _ _ _) (by rw[<-HM.out];exact ho) hg kE);obtain⟨va',vc',rfl⟩:=ownsRow_form ho;clear ho hg kE;go_wp2;go_roundw;case rel=>
  refine⟨k+1,by omega,by go_num,by rw[HST.out,mG.out, <-uU.out],by rw[HST.out,mG.out, <-lF.out],by rw[HST.out,mG.out];exact R9.out,K9.out⟩
 case measure=>simp[intOf];omega
theorem Rl (b off c:Nat) (l:List (Nat×Nat×Nat)) (w:World) (hb:b<w.heap.size) (hc:l.length<=c) (iZ:l.length<=1000000000000000) (hS:∀ (i:Nat) (s:Nat×Nat×Nat),l[i]? =some s->s.1<256/\s.2.1<256/\s.2.2<256/\w.cell? ⟨b,off+i*3,none⟩=some (.int .u8 s.1)/\w.cell? ⟨b,off+i*3+1,none⟩=some (.int .u8 s.2.1)/\w.cell? ⟨b,off+i*3+2,none⟩=some (.int .u8 s.2.2)):(eA b off c l w hb hc iZ hS).C:=by
 have HS:=hid hS;intro iN vk jz jA jB R HR n iZ hc N l4 Fp oU Fq oQ HN xe xf xh V R0 X0 qE
 intros
 rename_i k hk wo hlt eG s0 s1 s2 PP I7 GX I8 ru rc m rM uf gr jU HST j6 HM uU lF Dz Am Ao Ap Aq Ar W1 B1 ei j7 d0 d1 d2 kd GY ku hbase ze hA hB hC;have a1:¬ ((kd:Int)<4):=by omega
 have a2:((kd:Int)==4)=false:=by simp;omega
 have a3:(kd:Int)<7:=by omega
 have a4:(1:Int)<m:=by omega
 obtain⟨q,hq⟩:=ag (m-2);obtain⟨r,hr⟩:=ag (m-1);have hw2:IntKind.i64.wrap ((m:Int)-2)=(q:Int):=by rw[IntWalk.i64_in _ (by omega)];omega
 have hw1:IntKind.i64.wrap ((m:Int)-1)=(r:Int):=by rw[IntWalk.i64_in _ (by omega)];omega
 have hqm:q<m:=by omega
 have UU:r<m:=by omega
 have hqi:(q:Int)<m:=by omega
 have hri:(r:Int)<m:=by omega
 have hx2:PP.all[q]? =some PP.gY:=by unfold dr.gY;rw[<-HM.out, <-hq];exact aV _ (by rw[<-HM.out];exact hqm)
 have hx1:PP.all[r]? =some PP.last:=by unfold dr.last;rw[<-HM.out, <-hr];exact aV _ (by rw[<-HM.out];exact UU)
 have f2:PP.gY.fine/\PP.gY.size<=1000:=⟨j6.out.fine _ (aw hx2),by have:=oD (aw hx2);have:=j6.out.size;have:=Dz.out;omega⟩;have f1:PP.last.fine/\PP.last.size<=1000:=⟨j6.out.fine _ (aw hx1),by have:=oD (aw hx1);have:=j6.out.size;have:=Dz.out;omega⟩;have hst:PP.step (s0,s1,s2)=⟨PP.all.take q++ [cy 3 PP.gY PP.last],PP.mE,PP.yy⟩:=by unfold dr.step;dsimp only;rw[<-ze.out, <-HM.out,if_neg hA,if_neg hB,if_pos hC];unfold dr.put;rw[<-HM.out, <-hq]
 obtain⟨y2,hy2⟩:=ag PP.gY;obtain⟨y1,Kz⟩:=ag PP.last;rw[<-hy2]at hx2 f2 hst;rw[<-Kz]at hx1 f1 hst;obtain⟨JJ,Tw⟩:=ag (cy 3 y2 y1);rw[<-Tw]at hst;have mG:=hid hst;obtain⟨g,p2,c2,e9,lL,hgb,Al,rg2,t2⟩:=ei.out.je hx2;subst e9;obtain⟨g',p1,c1,e9,_,_,_,Wy,t1⟩:=ei.out.je hx1;cases e9;have Px:q<=rc:=by omega
 have agI:(q:Int)<=rc:=by omega
 have F2:=hid f2;have F1:=hid f1;have YV:=hid rg2;have Rm:=hid Wy;have T2:=hid t2;have T1:=hid t1;have HJJ:=hid Tw;have HQ:=hid hq;clear hst hx2 hx1 f2 f1 rg2 Wy t2 t1 hy2 Kz Tw hq hr hA hB hC;obtain⟨ka,hka⟩:=ag y2.kind;obtain⟨na,UQ⟩:=ag y2.subs.length;obtain⟨sa,J6⟩:=ag y2.set;obtain⟨ma,Rg⟩:=ag y2.mn;obtain⟨xa,Wv⟩:=ag y2.mx;obtain⟨kb,hkb⟩:=ag y1.kind;obtain⟨nb,vK⟩:=ag y1.subs.length;obtain⟨sb,my⟩:=ag y1.set;obtain⟨mb,sy⟩:=ag y1.mn;obtain⟨xb,Fo⟩:=ag y1.mx;rw[<-hka, <-UQ, <-J6, <-Rg, <-Wv]at YV T2;rw[<-hkb, <-vK, <-my, <-sy, <-Fo]at Rm T1;clear hka UQ J6 Rg Wv hkb vK my sy Fo;have CJ:Hid (∀ W,Move false (fun _=>False) W1 W->ah 106 #[.int .u8 3,.agg (aq ka sa ma xa (.slice p2 na c2)),.agg (aq kb sb mb xb (.slice p1 nb c1))] W fun e w'=>∃ u,e=.returned u/\aJ (fun x=>V.heap.size<=x/\x<w'.heap.size) w' u JJ/\aa W w'):=hid fun W hW=>by
  have KC:ae (· <W1.heap.size) W1 W:=ae.ak hW.below fun _ h=>h
  rw[HJJ.out];refine(lZ (fun x=>V.heap.size<=x/\x<W1.heap.size) 3 (.inl rfl) _ _ y2 y1 F2.out.1 F1.out.1 F2.out.2 F1.out.2 W (fun x hx=>aA hx.2 hW.size) ((T2.out.keeps KC fun x hx=>hx.2.1).mono fun x hx=>⟨hx.1,hx.2.1⟩) ((T1.out.keeps KC fun x hx=>hx.2.1).mono fun x hx=>⟨hx.1,hx.2.1⟩)).mono ?_;rintro e w' ⟨u,he,hu,hb⟩;exact⟨u,he,hu.mono fun x hx=>⟨by have:=hW.size;have:=hbase;rcases hx.2 with h | h;exact h.1;omega,hx.1⟩,hb⟩
 clear F2 F1 T2 T1;go_upto_region 13 with fail
 refine aK false (fun _=>False) (by kernel_rfl) 18 [0,0,2,0,8,31,0,0,128,448,960,0,0,4096,14336,30720,65472,131008,262143,524287] (fun i=>i==16 || i==17 || i==18) (by kernel_rfl) (fun i=>if i=16 then Cw.tree V.heap.size JJ else if i=17 then Cw.box V.heap.size JJ else aZ.any _) ?_;intro C hC hne;have HC:=hid hC;clear hC d0 d1 d2
 repeat (refine au (fun K hK=>?_);first | (refine bX rfl ?_;try go_simp;refine hK _ _ ?_;clear hK K) | (refine bR rfl rfl ?_;unfold aB;go_simp;refine hK _ _ ?_;clear hK K))
 refine au (fun K hK=>?_);refine DW rfl rfl (.agg (aq ka sa ma xa (.slice p2 na c2))) (fun W hW hN=>have hM:=(HC.out W).1 hW;jo 97 (.tmp 64) rfl (g) (q*8) rfl (aq ka sa ma xa (.slice p2 na c2)) _ (fJ YV.out (ae.ak hM.below fun _ h=>h:ae (· <W1.heap.size) W1 W) Al) Tryz.underlying97 rfl (cX _ _ _ _ _)) ?_;go_simp;refine hK _ _ ?_;clear hK K
 repeat (refine au (fun K hK=>?_);first | (refine bX rfl ?_;try go_simp;refine hK _ _ ?_;clear hK K) | (refine bR rfl rfl ?_;unfold aB;go_simp;refine hK _ _ ?_;clear hK K))
 refine au (fun K hK=>?_);refine DW rfl rfl (.agg (aq kb sb mb xb (.slice p1 nb c1))) (fun W hW hN=>have hM:=(HC.out W).1 hW;jo 97 (.tmp 69) rfl (g) (r*8) rfl (aq kb sb mb xb (.slice p1 nb c1)) _ (fJ Rm.out (ae.ak hM.below fun _ h=>h:ae (· <W1.heap.size) W1 W) Al) Tryz.underlying97 rfl (cX _ _ _ _ _)) ?_;go_simp;refine hK _ _ ?_;clear hK K;refine au (fun K hK=>?_);refine ck rfl rfl (Cw.tree V.heap.size JJ) rfl (fun W hW hN=>?_) (fun v hv=>?_)
 ·have hM:=(HC.out W).1 hW
  clear hW hN hK K;go_simp;refine bM ((CJ.out W hM).mono ?_);rintro e w2 ⟨u,rfl,ht,hx⟩;exact⟨_,rfl,Move.ak hx,ht.form,ht⟩
 obtain⟨pj,cj,rfl⟩:=hv;unfold aq;go_simp;refine hK _ _ ?_;clear hK K;refine au (fun K hK=>?_);refine ck rfl rfl (Cw.box V.heap.size JJ) rfl (fun W hW hN=>?_) (fun v hv=>?_)
 ·have hM:=(HC.out W).1 hW
  have hT:aJ (fun x=>V.heap.size<=x/\x<W.heap.size) W (.agg (aq JJ.kind JJ.set JJ.mn JJ.mx (.slice pj JJ.subs.length cj))) JJ:=hN.at 0 rfl (by kernel_rfl);have HT:=hid hT;clear hW hN hK K hT;go_simp;exact⟨Move.ext ((Ext.refl _).alloc _),⟨_,rfl⟩,fun b hb=>by cases hb;exact⟨_,_,ar.new _ _ _,(HT.out.keeps ((Ext.refl _).alloc _).keeps fun _ hx=>hx.2).mono fun x hx=>by simp;omega⟩⟩
 obtain⟨bz,rfl⟩:=hv;go_simp;refine hK _ _ ?_;clear hK K;refine bG (fun W hW hH=>?_);have hM:=(HC.out W).1 hW;obtain⟨pz,cz,hbz,hjz⟩:∃ p c,ar W bz (aq JJ.kind JJ.set JJ.mn JJ.mx (.slice p JJ.subs.length c)) 97/\aJ (fun x=>V.heap.size<=x/\x<W.heap.size) W (.agg (aq JJ.kind JJ.set JJ.mn JJ.mx (.slice p JJ.subs.length c))) JJ:=(hH _ (aw (show _=some _ from rfl:_[0]? =some _))) bz rfl;have BZ:=hid hbz;have TZ:=hid hjz;have Rn:=hid (ei.out.below hM.below);have YX:Hid (ae (· <V.heap.size) V W):=hid (j7.out.tr (ae.ak hM.below fun x (hx:x<V.heap.size)=>aA hx hbase));have hbW:V.heap.size<=W.heap.size:=YX.out.size;clear hM hW hH HC hne hbz hjz ei j7 YV Rm CJ;obtain⟨cs,g1,g2,g3,g4⟩:=Rn.out;rw[<-HM.out]at g2;have hcs:(cs.take q).length=q:=by rw[List.length_take,g1, <-HM.out];omega
 refine nI rfl (.tmp 60) (.tmp 72) 95 rfl V.heap.size 97 iN (.agg eM) 8 80 Tryz.underlying95 vk jz jA jB rfl (by decide) ⟨g,0,none⟩ q (bC (cs.take q)) rfl (by rw[fY fun c hc=>(g3 c (List.mem_of_mem_take hc)).1,hcs]) (fun j u hj=>g2.cells (g:=g) rfl _ _ (uj hj)) ⟨bz,0,none⟩ 1 1 (aq JJ.kind JJ.set JJ.mn JJ.mx (.slice pz JJ.subs.length cz)).toList rfl (cK BZ.out) rfl (by decide) (by unfold maxLen;omega) (by omega) hbW ?_;intro v' w' ho hx hv';have R9:Hid (bV V.heap.size w' v' (PP.all.take q++ [JJ])):=hid (bV.fresh (cs:=cs) (c:=aq JJ.kind JJ.set JJ.mn JJ.mx (.slice pz JJ.subs.length cz)) (by rw[<-HM.out];omega) g1 g3 (fun i c t hi ht=>(g4 i c t hi ht).mono fun x hx=>⟨hx.1,hx.2.1⟩) (cG _ _ _ _ _ _ _) TZ.out ho hx hv');have K9:Hid (ae (· <V.heap.size) V w'):=hid (YX.out.tr (ae.ak hx fun x (hx:x<V.heap.size)=>aA hx hbW));obtain⟨va',vc',rfl⟩:=ownsRow_form ho;clear ho hx hv' g1 g2 g3 g4 hcs Rn BZ TZ YX;go_wp2;go_roundw;case rel=>
  refine⟨k+1,by omega,by go_num,by rw[HST.out,mG.out, <-uU.out],by rw[HST.out,mG.out, <-lF.out],?_,K9.out⟩;rw[HST.out,mG.out];have e8:(PP.all.take q++ [JJ]).length=q+1:=by rw[aG,List.length_take, <-HM.out];simp;omega
  exact R9.out
 case measure=>simp[intOf];omega
theorem Ro (b off c:Nat) (l:List (Nat×Nat×Nat)) (w:World) (hb:b<w.heap.size) (hc:l.length<=c) (iZ:l.length<=1000000000000000) (hS:∀ (i:Nat) (s:Nat×Nat×Nat),l[i]? =some s->s.1<256/\s.2.1<256/\s.2.2<256/\w.cell? ⟨b,off+i*3,none⟩=some (.int .u8 s.1)/\w.cell? ⟨b,off+i*3+1,none⟩=some (.int .u8 s.2.1)/\w.cell? ⟨b,off+i*3+2,none⟩=some (.int .u8 s.2.2)):(eA b off c l w hb hc iZ hS).D:=by
 have HS:=hid hS;intro iN vk jz jA jB R HR n iZ hc N l4 Fp oU Fq oQ HN xe xf xh V R0 X0 qE
 intros
 rename_i k hk wo hlt eG s0 s1 s2 PP I7 GX I8 ru rc m rM uf gr jU HST j6 HM uU lF Dz Am Ao Ap Aq Ar W1 B1 ei j7 d0 d1 d2 kd GY ku hbase ze hA hB hC hD;have a1:¬ ((kd:Int)<4):=by omega
 have a2:((kd:Int)==4)=false:=by simp;omega
 have a3:¬ ((kd:Int)<7):=by omega
 have a4:(1:Int)<m:=by omega
 have a5:(kd:Int)<9:=by omega
 obtain⟨q,hq⟩:=ag (m-2);obtain⟨r,hr⟩:=ag (m-1);have hw2:IntKind.i64.wrap ((m:Int)-2)=(q:Int):=by rw[IntWalk.i64_in _ (by omega)];omega
 have hw1:IntKind.i64.wrap ((m:Int)-1)=(r:Int):=by rw[IntWalk.i64_in _ (by omega)];omega
 have hqm:q<m:=by omega
 have UU:r<m:=by omega
 have hqi:(q:Int)<m:=by omega
 have hri:(r:Int)<m:=by omega
 have hx2:PP.all[q]? =some PP.gY:=by unfold dr.gY;rw[<-HM.out, <-hq];exact aV _ (by rw[<-HM.out];exact hqm)
 have hx1:PP.all[r]? =some PP.last:=by unfold dr.last;rw[<-HM.out, <-hr];exact aV _ (by rw[<-HM.out];exact UU)
 have f2:PP.gY.fine/\PP.gY.size<=1000:=⟨j6.out.fine _ (aw hx2),by have:=oD (aw hx2);have:=j6.out.size;have:=Dz.out;omega⟩;have f1:PP.last.fine/\PP.last.size<=1000:=⟨j6.out.fine _ (aw hx1),by have:=oD (aw hx1);have:=j6.out.size;have:=Dz.out;omega⟩;have hst:PP.step (s0,s1,s2)=⟨PP.all.take q++ [cy 4 PP.gY PP.last],PP.mE,PP.yy⟩:=by unfold dr.step;dsimp only;rw[<-ze.out, <-HM.out,if_neg hA,if_neg hB,if_neg hC,if_pos hD];unfold dr.put;rw[<-HM.out, <-hq]
 obtain⟨y2,hy2⟩:=ag PP.gY;obtain⟨y1,Kz⟩:=ag PP.last;rw[<-hy2]at hx2 f2 hst;rw[<-Kz]at hx1 f1 hst;obtain⟨JJ,Tw⟩:=ag (cy 4 y2 y1);rw[<-Tw]at hst;have mG:=hid hst;obtain⟨g,p2,c2,e9,lL,hgb,Al,rg2,t2⟩:=ei.out.je hx2;subst e9;obtain⟨g',p1,c1,e9,_,_,_,Wy,t1⟩:=ei.out.je hx1;cases e9;have Px:q<=rc:=by omega
 have agI:(q:Int)<=rc:=by omega
 have F2:=hid f2;have F1:=hid f1;have YV:=hid rg2;have Rm:=hid Wy;have T2:=hid t2;have T1:=hid t1;have HJJ:=hid Tw;have HQ:=hid hq;clear hst hx2 hx1 f2 f1 rg2 Wy t2 t1 hy2 Kz Tw hq hr hA hB hC hD;obtain⟨ka,hka⟩:=ag y2.kind;obtain⟨na,UQ⟩:=ag y2.subs.length;obtain⟨sa,J6⟩:=ag y2.set;obtain⟨ma,Rg⟩:=ag y2.mn;obtain⟨xa,Wv⟩:=ag y2.mx;obtain⟨kb,hkb⟩:=ag y1.kind;obtain⟨nb,vK⟩:=ag y1.subs.length;obtain⟨sb,my⟩:=ag y1.set;obtain⟨mb,sy⟩:=ag y1.mn;obtain⟨xb,Fo⟩:=ag y1.mx;rw[<-hka, <-UQ, <-J6, <-Rg, <-Wv]at YV T2;rw[<-hkb, <-vK, <-my, <-sy, <-Fo]at Rm T1;clear hka UQ J6 Rg Wv hkb vK my sy Fo;have CJ:Hid (∀ W,Move false (fun _=>False) W1 W->ah 106 #[.int .u8 4,.agg (aq ka sa ma xa (.slice p2 na c2)),.agg (aq kb sb mb xb (.slice p1 nb c1))] W fun e w'=>∃ u,e=.returned u/\aJ (fun x=>V.heap.size<=x/\x<w'.heap.size) w' u JJ/\aa W w'):=hid fun W hW=>by
  have KC:ae (· <W1.heap.size) W1 W:=ae.ak hW.below fun _ h=>h
  rw[HJJ.out];refine(lZ (fun x=>V.heap.size<=x/\x<W1.heap.size) 4 (.inr rfl) _ _ y2 y1 F2.out.1 F1.out.1 F2.out.2 F1.out.2 W (fun x hx=>aA hx.2 hW.size) ((T2.out.keeps KC fun x hx=>hx.2.1).mono fun x hx=>⟨hx.1,hx.2.1⟩) ((T1.out.keeps KC fun x hx=>hx.2.1).mono fun x hx=>⟨hx.1,hx.2.1⟩)).mono ?_;rintro e w' ⟨u,he,hu,hb⟩;exact⟨u,he,hu.mono fun x hx=>⟨by have:=hW.size;have:=hbase;rcases hx.2 with h | h;exact h.1;omega,hx.1⟩,hb⟩
 clear F2 F1 T2 T1;go_upto_region 15 with fail
 refine aK false (fun _=>False) (by kernel_rfl) 18 [0,0,2,0,8,31,0,0,128,448,960,0,0,4096,14336,30720,65472,131008,262143,524287] (fun i=>i==16 || i==17 || i==18) (by kernel_rfl) (fun i=>if i=16 then Cw.tree V.heap.size JJ else if i=17 then Cw.box V.heap.size JJ else aZ.any _) ?_;intro C hC hne;have HC:=hid hC;clear hC d0 d1 d2
 repeat (refine au (fun K hK=>?_);first | (refine bX rfl ?_;try go_simp;refine hK _ _ ?_;clear hK K) | (refine bR rfl rfl ?_;unfold aB;go_simp;refine hK _ _ ?_;clear hK K))
 refine au (fun K hK=>?_);refine DW rfl rfl (.agg (aq ka sa ma xa (.slice p2 na c2))) (fun W hW hN=>have hM:=(HC.out W).1 hW;jo 97 (.tmp 90) rfl (g) (q*8) rfl (aq ka sa ma xa (.slice p2 na c2)) _ (fJ YV.out (ae.ak hM.below fun _ h=>h:ae (· <W1.heap.size) W1 W) Al) Tryz.underlying97 rfl (cX _ _ _ _ _)) ?_;go_simp;refine hK _ _ ?_;clear hK K
 repeat (refine au (fun K hK=>?_);first | (refine bX rfl ?_;try go_simp;refine hK _ _ ?_;clear hK K) | (refine bR rfl rfl ?_;unfold aB;go_simp;refine hK _ _ ?_;clear hK K))
 refine au (fun K hK=>?_);refine DW rfl rfl (.agg (aq kb sb mb xb (.slice p1 nb c1))) (fun W hW hN=>have hM:=(HC.out W).1 hW;jo 97 (.tmp 95) rfl (g) (r*8) rfl (aq kb sb mb xb (.slice p1 nb c1)) _ (fJ Rm.out (ae.ak hM.below fun _ h=>h:ae (· <W1.heap.size) W1 W) Al) Tryz.underlying97 rfl (cX _ _ _ _ _)) ?_;go_simp;refine hK _ _ ?_;clear hK K;refine au (fun K hK=>?_);refine ck rfl rfl (Cw.tree V.heap.size JJ) rfl (fun W hW hN=>?_) (fun v hv=>?_)
 ·have hM:=(HC.out W).1 hW
  clear hW hN hK K;go_simp;refine bM ((CJ.out W hM).mono ?_);rintro e w2 ⟨u,rfl,ht,hx⟩;exact⟨_,rfl,Move.ak hx,ht.form,ht⟩
 obtain⟨pj,cj,rfl⟩:=hv;unfold aq;go_simp;refine hK _ _ ?_;clear hK K;refine au (fun K hK=>?_);refine ck rfl rfl (Cw.box V.heap.size JJ) rfl (fun W hW hN=>?_) (fun v hv=>?_)
 ·have hM:=(HC.out W).1 hW
  have hT:aJ (fun x=>V.heap.size<=x/\x<W.heap.size) W (.agg (aq JJ.kind JJ.set JJ.mn JJ.mx (.slice pj JJ.subs.length cj))) JJ:=hN.at 0 rfl (by kernel_rfl);have HT:=hid hT;clear hW hN hK K hT;go_simp;exact⟨Move.ext ((Ext.refl _).alloc _),⟨_,rfl⟩,fun b hb=>by cases hb;exact⟨_,_,ar.new _ _ _,(HT.out.keeps ((Ext.refl _).alloc _).keeps fun _ hx=>hx.2).mono fun x hx=>by simp;omega⟩⟩
 obtain⟨bz,rfl⟩:=hv;go_simp;refine hK _ _ ?_;clear hK K;refine bG (fun W hW hH=>?_);have hM:=(HC.out W).1 hW;obtain⟨pz,cz,hbz,hjz⟩:∃ p c,ar W bz (aq JJ.kind JJ.set JJ.mn JJ.mx (.slice p JJ.subs.length c)) 97/\aJ (fun x=>V.heap.size<=x/\x<W.heap.size) W (.agg (aq JJ.kind JJ.set JJ.mn JJ.mx (.slice p JJ.subs.length c))) JJ:=(hH _ (aw (show _=some _ from rfl:_[0]? =some _))) bz rfl;have BZ:=hid hbz;have TZ:=hid hjz;have Rn:=hid (ei.out.below hM.below);have YX:Hid (ae (· <V.heap.size) V W):=hid (j7.out.tr (ae.ak hM.below fun x (hx:x<V.heap.size)=>aA hx hbase));have hbW:V.heap.size<=W.heap.size:=YX.out.size;clear hM hW hH HC hne hbz hjz ei j7 YV Rm CJ;obtain⟨cs,g1,g2,g3,g4⟩:=Rn.out;rw[<-HM.out]at g2;have hcs:(cs.take q).length=q:=by rw[List.length_take,g1, <-HM.out];omega
 refine nI rfl (.tmp 86) (.tmp 98) 95 rfl V.heap.size 97 iN (.agg eM) 8 80 Tryz.underlying95 vk jz jA jB rfl (by decide) ⟨g,0,none⟩ q (bC (cs.take q)) rfl (by rw[fY fun c hc=>(g3 c (List.mem_of_mem_take hc)).1,hcs]) (fun j u hj=>g2.cells (g:=g) rfl _ _ (uj hj)) ⟨bz,0,none⟩ 1 1 (aq JJ.kind JJ.set JJ.mn JJ.mx (.slice pz JJ.subs.length cz)).toList rfl (cK BZ.out) rfl (by decide) (by unfold maxLen;omega) (by omega) hbW ?_;intro v' w' ho hx hv';have R9:Hid (bV V.heap.size w' v' (PP.all.take q++ [JJ])):=hid (bV.fresh (cs:=cs) (c:=aq JJ.kind JJ.set JJ.mn JJ.mx (.slice pz JJ.subs.length cz)) (by rw[<-HM.out];omega) g1 g3 (fun i c t hi ht=>(g4 i c t hi ht).mono fun x hx=>⟨hx.1,hx.2.1⟩) (cG _ _ _ _ _ _ _) TZ.out ho hx hv');have K9:Hid (ae (· <V.heap.size) V w'):=hid (YX.out.tr (ae.ak hx fun x (hx:x<V.heap.size)=>aA hx hbW));obtain⟨va',vc',rfl⟩:=ownsRow_form ho;clear ho hx hv' g1 g2 g3 g4 hcs Rn BZ TZ YX;go_wp2;go_roundw;case rel=>
  refine⟨k+1,by omega,by go_num,by rw[HST.out,mG.out, <-uU.out],by rw[HST.out,mG.out, <-lF.out],?_,K9.out⟩;rw[HST.out,mG.out];have e8:(PP.all.take q++ [JJ]).length=q+1:=by rw[aG,List.length_take, <-HM.out];simp;omega
  exact R9.out
 case measure=>simp[intOf];omega
theorem Rp (b off c:Nat) (l:List (Nat×Nat×Nat)) (w:World) (hb:b<w.heap.size) (hc:l.length<=c) (iZ:l.length<=1000000000000000) (hS:∀ (i:Nat) (s:Nat×Nat×Nat),l[i]? =some s->s.1<256/\s.2.1<256/\s.2.2<256/\w.cell? ⟨b,off+i*3,none⟩=some (.int .u8 s.1)/\w.cell? ⟨b,off+i*3+1,none⟩=some (.int .u8 s.2.1)/\w.cell? ⟨b,off+i*3+2,none⟩=some (.int .u8 s.2.2)):(eA b off c l w hb hc iZ hS).E:=by
 have HS:=hid hS;intro iN vk jz jA jB R HR n iZ hc N l4 Fp oU Fq oQ HN xe xf xh V R0 X0 qE
 intros
 rename_i k hk wo hlt eG s0 s1 s2 PP I7 GX I8 ru rc m rM uf gr jU HST j6 HM uU lF Dz Am Ao Ap Aq Ar W1 B1 ei j7 d0 d1 d2 kd GY ku hbase ze hA hB hC hD hE;have a1:¬ ((kd:Int)<4):=by omega
 have a2:((kd:Int)==4)=false:=by simp;omega
 have a3:¬ ((kd:Int)<7):=by omega
 have a5:¬ ((kd:Int)<9):=by omega
 have a6:((kd:Int)==9)=true:=by simp[hE.1]
 have a8:(0:Int)<m:=by omega
 have a9:(gr:Int)<9:=by omega
 obtain⟨r,hr⟩:=ag (m-1);have hw1:IntKind.i64.wrap ((m:Int)-1)=(r:Int):=by rw[IntWalk.i64_in _ (by omega)];omega
 have UU:r<m:=by omega
 have hri:(r:Int)<m:=by omega
 have hx1:PP.all[r]? =some PP.last:=by unfold dr.last;rw[<-HM.out, <-hr];exact aV _ (by rw[<-HM.out];exact UU)
 obtain⟨y1,Kz⟩:=ag PP.last;rw[<-Kz]at hx1;have hst:PP.step (s0,s1,s2)=⟨PP.all.take r++ [.nd 6 0 0 0 [y1]],PP.mE,PP.yy+1⟩:=by unfold dr.step;dsimp only;rw[<-ze.out, <-HM.out, <-lF.out,if_neg hA,if_neg hB,if_neg hC,if_neg hD,if_pos hE];unfold dr.put;rw[<-HM.out, <-hr, <-Kz]
 have mG:=hid hst;clear hst Kz hA hB hC hD hE;obtain⟨g,p1,c1,e9,Tx,lL,hgb,Al,⟨f0,f1,f2,f3,f4,f5,f6,f7⟩,t1⟩:=ei.out.elem hx1;subst e9;have T1:=hid t1;clear t1;obtain⟨kb,hkb⟩:=ag y1.kind;obtain⟨nb,vK⟩:=ag y1.subs.length;obtain⟨sb,my⟩:=ag y1.set;obtain⟨mb,sy⟩:=ag y1.mn;obtain⟨xb,Fo⟩:=ag y1.mx;rw[<-hkb]at f0;rw[<-my]at f1 f2 f3 f4;rw[<-sy]at f5;rw[<-Fo]at f6;rw[<-vK]at f7;rw[<-hkb, <-vK, <-my, <-sy, <-Fo]at T1;have HKB:=hid hkb;have agJ:=hid hx1;have Xx:=hid hr;clear hkb vK my sy Fo hx1 hr Tx;have hgw:IntKind.i64.wrap ((gr:Int)+1)=((gr+1:Nat):Int):=by rw[IntWalk.i64_in _ (by omega)];omega
 go_wp2_with fail
 refine(Fm _ y1 (fun x=>V.heap.size<=x/\x<W1.heap.size/\x≠g) W1 (fun x hx=>hx.2.1) T1.out).mono ?_;rintro e W2 ⟨u,rfl,hu,hx2⟩;have HU:=hid hu;obtain⟨pu,cu,rfl⟩:=hu.form;have Fu:=hid (ei.out.below hx2);have fK:Hid (ae (· <V.heap.size) V W2):=hid (j7.out.tr (ae.ak hx2 fun x (hx:x<V.heap.size)=>aA hx hbase));obtain⟨cs,q1,q2,q3,q4⟩:=Fu.out;rw[<-HM.out]at q2;have kc:∀ (o:Nat) (v:Value),W1.cell? ⟨g,o,none⟩=some v->W2.cell? ⟨g,o,none⟩=some v:=fun o v h=>((ae.ak hx2 fun _ h=>h:ae (· <W1.heap.size) W1 W2).cell (p:=⟨g,o,none⟩) Al).trans h
 replace f0:=kc _ _ f0;replace f1:=kc _ _ f1;replace f2:=kc _ _ f2;replace f3:=kc _ _ f3;replace f4:=kc _ _ f4;replace f5:=kc _ _ f5;replace f6:=kc _ _ f6;replace f7:=kc _ _ f7;have z0:W2.frozen? ⟨g,r*8,none⟩=false:=q2.frozenAt _;have z1:W2.frozen? ⟨g,r*8+1,none⟩=false:=q2.frozenAt _;have z2:W2.frozen? ⟨g,r*8+2,none⟩=false:=q2.frozenAt _;have z3:W2.frozen? ⟨g,r*8+3,none⟩=false:=q2.frozenAt _;have z4:W2.frozen? ⟨g,r*8+4,none⟩=false:=q2.frozenAt _;have z5:W2.frozen? ⟨g,r*8+5,none⟩=false:=q2.frozenAt _;have z6:W2.frozen? ⟨g,r*8+6,none⟩=false:=q2.frozenAt _;have z7:W2.frozen? ⟨g,r*8+7,none⟩=false:=q2.frozenAt _;have Q1:=hid q1;have Q2:=hid q2;have Q3:=hid q3;have Q4:=hid q4;have agK:V.heap.size<=g:=hgb;have hs2:W1.heap.size<=W2.heap.size:=hx2.size;clear hu hx2 kc q1 q2 q3 q4 Fu ei j7 d0 d1 d2 B1;simp only[RX.kind,RX.set,RX.mn,RX.mx,RX.subs,List.length_cons,List.length_nil,Nat.zero_add]at HU ⊢;unfold aq;go_upto_region 18 with fail
 refine ax ?_;intro W3 hW3;have K3:Hid (ae (· ≠g) W2 W3):=by rw[hW3];exact hid (((((((((ae.refl _ _).setCell (fun e=>e rfl) _).setCell (fun e=>e rfl) _).setCell (fun e=>e rfl) _).setCell (fun e=>e rfl) _).setCell (fun e=>e rfl) _).setCell (fun e=>e rfl) _).setCell (fun e=>e rfl) _).setCell (fun e=>e rfl) _)
 have R9:Hid (bV V.heap.size W3 (.slice (some ⟨g,0,none⟩) m rc) (PP.all.set r (.nd 6 0 0 0 [y1]))):=by
  rw[hW3,HM.out];refine hid (bV.turned (by rw[<-HM.out];exact UU) Q1.out (by rw[<-HM.out];exact Q2.out) Q3.out (fun i c t hi ht=>(Q4.out i c t hi ht).mono fun x hx=>⟨hx.1,hx.2.1,fun e=>hx.2.2 (by rw[e];rfl)⟩) ?_ ?_)
  ·exact(cG _ _ _ _ _ _ _).2
  ·exact HU.out.mono fun x hx=>⟨by rcases hx.2 with h | h;exact h.1;omega,hx.1,fun e=>by rcases hx.2 with h | h;exact h.2.2 e;omega⟩
 have K9:Hid (ae (· <V.heap.size) V W3):=hid (fK.out.tr (K3.out.mono fun x (hx:x<V.heap.size)=>by show x≠g;omega));clear hW3 f0 f1 f2 f3 f4 f5 f6 f7 z0 z1 z2 z3 z4 z5 z6 z7 Q1 Q2 Q3 Q4 HU fK K3;have oP:PP.all.set r (.nd 6 0 0 0 [y1])=PP.all.take r++ [.nd 6 0 0 0 [y1]]:=by
  have e:=lz (l:=PP.all) (by rw[<-HM.out];omega);rw[<-HM.out, <-Xx.out]at e
  conv=>lhs;rw[e]
  rw[List.set_append_right _ _ (by rw[List.length_take];omega),List.length_take,Nat.min_eq_left (by rw[<-HM.out];omega),Nat.sub_self];rfl
 have Ht:=hid oP;clear oP;go_wp2;go_roundw;case rel=>
  refine⟨k+1,by omega,by go_num,?_,?_,?_,K9.out⟩
  ·have e7:(jn (l.take (k+1))).mE=uf:=by rw[HST.out,mG.out];exact uU.out.symm
   rw[e7]
   try rfl
   try go_num
  ·have e7:(jn (l.take (k+1))).yy=gr+1:=by rw[HST.out,mG.out];rw[lF.out]
   rw[e7]
   try rfl
   try go_num
  ·rw[HST.out,mG.out, <-Ht.out]
   have e8:(PP.all.set r (.nd 6 0 0 0 [y1])).length=m:=by rw[List.length_set];exact HM.out.symm
   exact R9.out
 case measure=>simp[intOf];omega
theorem Rq (b off c:Nat) (l:List (Nat×Nat×Nat)) (w:World) (hb:b<w.heap.size) (hc:l.length<=c) (iZ:l.length<=1000000000000000) (hS:∀ (i:Nat) (s:Nat×Nat×Nat),l[i]? =some s->s.1<256/\s.2.1<256/\s.2.2<256/\w.cell? ⟨b,off+i*3,none⟩=some (.int .u8 s.1)/\w.cell? ⟨b,off+i*3+1,none⟩=some (.int .u8 s.2.1)/\w.cell? ⟨b,off+i*3+2,none⟩=some (.int .u8 s.2.2)):(eA b off c l w hb hc iZ hS).G:=by
 have HS:=hid hS;intro iN vk jz jA jB R HR n iZ hc N l4 Fp oU Fq oQ HN xe xf xh V R0 X0 qE
 intros
 rename_i k hk wo hlt eG s0 s1 s2 PP I7 GX I8 ru rc m rM uf gr jU HST j6 HM uU lF Dz Am Ao Ap Aq Ar W1 B1 ei j7 d0 d1 d2 kd GY ku hbase ze hA hB hC hD hE hG;have a1:¬ ((kd:Int)<4):=by omega
 have a2:((kd:Int)==4)=false:=by simp;omega
 have a3:¬ ((kd:Int)<7):=by omega
 have a5:¬ ((kd:Int)<9):=by omega
 have a6:((kd:Int)==9)=false:=by simp;omega
 have a7:(9:Int)<kd:=by omega
 have a8:(0:Int)<m:=by omega
 obtain⟨r,hr⟩:=ag (m-1);have hw1:IntKind.i64.wrap ((m:Int)-1)=(r:Int):=by rw[IntWalk.i64_in _ (by omega)];omega
 have UU:r<m:=by omega
 have hri:(r:Int)<m:=by omega
 have hx1:PP.all[r]? =some PP.last:=by unfold dr.last;rw[<-HM.out, <-hr];exact aV _ (by rw[<-HM.out];exact UU)
 obtain⟨y1,Kz⟩:=ag PP.last;rw[<-Kz]at hx1;have Fs:PP.step (s0,s1,s2)=if 9<kd/\0<m/\y1.kind≠1 then(if PP.mE*iF s1 s2<=16 then⟨PP.put 1 (.nd 5 0 (fj s1) (jP s1 s2) [y1]),PP.mE*iF s1 s2,PP.yy⟩else PP)else PP:=by unfold dr.step;dsimp only;rw[<-ze.out, <-HM.out,if_neg hA,if_neg hB,if_neg hC,if_neg hD, <-lF.out,if_neg hE, <-Kz]
 obtain⟨g,p1,c1,e9,Tx,lL,hgb,Al,⟨f0,f1,f2,f3,f4,f5,f6,f7⟩,t1⟩:=ei.out.elem hx1;subst e9;have T1:=hid t1;clear t1;obtain⟨kb,hkb⟩:=ag y1.kind;obtain⟨nb,vK⟩:=ag y1.subs.length;obtain⟨sb,my⟩:=ag y1.set;obtain⟨mb,sy⟩:=ag y1.mn;obtain⟨xb,Fo⟩:=ag y1.mx;rw[<-hkb]at f0;rw[<-my]at f1 f2 f3 f4;rw[<-sy]at f5;rw[<-Fo]at f6;rw[<-vK]at f7;rw[<-hkb, <-vK, <-my, <-sy, <-Fo]at T1;have HKB:=hid hkb;have agJ:=hid hx1;have Xx:=hid hr;clear hkb vK my sy Fo hx1 hr Tx;have Wy:W1.rangeAt g (r*8) (aq kb sb mb xb (.slice p1 nb c1)).toList:=fun j v hj=>by
  have hl:=(List.getElem?_eq_some_iff.1 hj).1;have h8:(aq kb sb mb xb (.slice p1 nb c1)).toList.length=8:=rfl;rw[h8]at hl;have hc:j=0\/j=1\/j=2\/j=3\/j=4\/j=5\/j=6\/j=7:=by omega
  rcases hc with rfl | rfl | rfl | rfl | rfl | rfl | rfl | rfl<;>cases hj<;>assumption
 have Rm:=hid Wy;clear Wy;by_cases iK:kb=1
 ·have b0:((kb:Int)==1)=true:=by simp[iK]
  have b0':((kb:Int) != 1)=false:=by simp[iK]
  have hst:PP.step (s0,s1,s2)=PP:=by rw[Fs,if_neg (fun h=>h.2.2 (by rw[<-HKB.out];exact iK))]
  have mG:=hid hst;clear hst Fs Kz hA hB hC hD hE hG iK;go_wp2;go_roundw;case rel=>
   refine⟨k+1,by omega,by go_num,by rw[HST.out,mG.out, <-uU.out],by rw[HST.out,mG.out, <-lF.out],by rw[HST.out,mG.out];exact ei.out,j7.out⟩
  case measure=>simp[intOf];omega
 ·have b0:((kb:Int)==1)=false:=by simp;omega
  have b0':((kb:Int) != 1)=true:=by simp;omega
  rw[if_pos ⟨hG.1,hG.2,by rw[<-HKB.out];exact iK⟩]at Fs;have acE:=hid Fs;obtain⟨n3,GU⟩:=ag (s1%3);obtain⟨m4,ui⟩:=ag (s2%4);have ano:n3<3:=by omega
  have anp:m4<4:=by omega
  have anq:Int.tmod (s1:Int) 3=(n3:Int):=by rw[Int.tmod_eq_emod_of_nonneg (by omega)];omega
  have anr:Int.tmod (s2:Int) 4=(m4:Int):=by rw[Int.tmod_eq_emod_of_nonneg (by omega)];omega
  have ans:IntKind.i64.wrap (n3:Int)=(n3:Int):=IntWalk.i64_in _ (by omega);have ant:IntKind.i64.wrap (m4:Int)=(m4:Int):=IntWalk.i64_in _ (by omega);have LY:=Na s1 s2;obtain⟨T,Te⟩:=ag (iF s1 s2);have HTS:Hid (max (max (fj s1:Int) (jP s1 s2)) 1=(iF s1 s2:Int)):=hid LY.2.2;have agL:1<=T/\T<=3:=by omega
  obtain⟨UT,hUT⟩:=ag (uf*T);have anv:(uf:Int)*(T:Int)=(UT:Int):=by rw[hUT];simp
  have ajG:UT<=48:=by rw[hUT];exact Nat.le_trans (Nat.mul_le_mul jU agL.2) (by decide)
  have anw:IntKind.i64.wrap ((UT:Nat):Int)=(UT:Int):=IntWalk.i64_in _ (by omega);have HN3:=hid GU;have Yu:=hid ui;have UW:=hid Te;have HUT:=hid hUT;clear Fs Kz hA hB hC hD hE hG iK GU ui LY Te hUT;go_upto_region 20 with fail
  refine aK false (fun _=>False) (by kernel_rfl) 9 [0,1,3,7,0,16,48,112,15,511] (fun i=>i==99) (by kernel_rfl) (fun _=>aZ.any _) ?_;intro C hC hne;have HC:=hid hC;have q1:=aC hC (p:=⟨wo.heap.size,1,none⟩) B1.out.lt (fun h=>h) d1;have q2:=aC hC (p:=⟨wo.heap.size,2,none⟩) B1.out.lt (fun h=>h) d2;clear hC
  repeat (refine au (fun K hK=>?_);first | (refine bX rfl ?_;try go_simp;refine hK _ _ ?_;clear hK K) | (refine bR rfl rfl ?_;unfold aB;go_simp;refine hK _ _ ?_;clear hK K))
  refine bG (fun W hW hH=>?_);have hM:=(HC.out W).1 hW;have KC:ae (· <W1.heap.size) W1 W:=ae.ak hM.below fun _ h=>h
  have ei:=hid (ei.out.below hM.below);have j7:Hid (ae (· <V.heap.size) V W):=hid (j7.out.tr (KC.mono fun x (hx:x<V.heap.size)=>aA hx hbase));have sX:W1.heap.size<=W.heap.size:=hM.size;have hbase:V.heap.size<=W.heap.size:=j7.out.size;have T1:Hid (aJ (fun x=>V.heap.size<=x/\x<W.heap.size/\x≠g) W (.agg (aq kb sb mb xb (.slice p1 nb c1))) y1):=hid ((T1.out.keeps KC fun x hx=>hx.2.1).mono fun x hx=>⟨hx.1,by have:=hx.2.1;omega,hx.2.2⟩);have Rm:=hid (fJ Rm.out KC Al);have kw:∀ (o:Nat) (v:Value),W1.cell? ⟨g,o,none⟩=some v->W.cell? ⟨g,o,none⟩=some v:=fun o v h=>(KC.cell (p:=⟨g,o,none⟩) Al).trans h
  replace f0:=kw _ _ f0;replace f1:=kw _ _ f1;replace f2:=kw _ _ f2;replace f3:=kw _ _ f3;replace f4:=kw _ _ f4;replace f5:=kw _ _ f5;replace f6:=kw _ _ f6;replace f7:=kw _ _ f7;have Al:g<W.heap.size:=by omega
  clear hM KC kw hW hH HC hne q1 q2 d0 d1 d2 B1;obtain⟨mv,OP⟩:=ag (jP s1 s2:Int);have acF:mv=if m4<n3\/m4=0\/(n3=1/\m4=1)then-1 else(m4:Int):=by rw[OP];unfold jP fj;rw[<-HN3.out, <-Yu.out]
  have HMV:=hid OP;have acG:=hid acF;clear OP acF;go_upto_region 21 with fail
  go_cut [161] from 147 to 161 (fun b wx=>b=.bool (decide (m4<n3\/m4=0\/(n3=1/\m4=1)))/\wx=W)
  case first=>
   by_cases b1:m4<n3
   ·have b1i:(m4:Int)<n3:=by omega
    have D:=hid (decide_eq_true (.inl b1:m4<n3\/m4=0\/(n3=1/\m4=1)));clear b1;go_wp2_with fail
    go_meet
    exact⟨by rw[D.out],rfl⟩
   ·have b1i:¬ ((m4:Int)<n3):=by omega
    by_cases b2:m4=0
    ·have b2i:((m4:Int)==0)=true:=by simp[b2]
     have D:=hid (decide_eq_true (.inr (.inl b2):m4<n3\/m4=0\/(n3=1/\m4=1)));clear b1 b2;go_wp2_with fail
     go_meet
     exact⟨by rw[D.out],rfl⟩
    ·have b2i:((m4:Int)==0)=false:=by simp;omega
     by_cases b3:n3=1
     ·have b3i:((n3:Int)==1)=true:=by simp[b3]
      by_cases b4:m4=1
      ·have b4i:((m4:Int)==1)=true:=by simp[b4]
       have D:=hid (decide_eq_true (.inr (.inr ⟨b3,b4⟩):m4<n3\/m4=0\/(n3=1/\m4=1)));clear b1 b2 b3 b4;go_wp2_with fail
       go_meet
       exact⟨by rw[D.out],rfl⟩
      ·have b4i:((m4:Int)==1)=false:=by simp;omega
       have D:=hid (decide_eq_false (by omega:¬ (m4<n3\/m4=0\/(n3=1/\m4=1))));clear b1 b2 b3 b4;go_wp2_with fail
       go_meet
       exact⟨by rw[D.out],rfl⟩
     ·have b3i:((n3:Int)==1)=false:=by simp;omega
      have D:=hid (decide_eq_false (by omega:¬ (m4<n3\/m4=0\/(n3=1/\m4=1))));clear b1 b2 b3;go_wp2_with fail
      go_meet
      exact⟨by rw[D.out],rfl⟩
  case rest=>
  obtain⟨rfl,hwc⟩:=hcut;replace hwc:=hwc.symm;subst hwc
  go_upto_if 161 with fail
  go_cut [11] from 161 to 161 (fun x wx=>x=.int .i64 mv/\wx=W)
  case first=>
   by_cases e:m4<n3\/m4=0\/(n3=1/\m4=1)
   ·have d:=decide_eq_true e
    go_wp2_with fail
    go_meet
    exact⟨by rw[acG.out,if_pos e],rfl⟩
   ·have d:=decide_eq_false e
    go_wp2_with fail
    go_meet
    exact⟨by rw[acG.out,if_neg e],rfl⟩
  case rest=>
  obtain⟨rfl,hwc⟩:=hcut;replace hwc:=hwc.symm;subst hwc;have hT3:=HTS.out;rw[<-HMV.out]at hT3;have acH:max (max (n3:Int) mv) 1=(T:Int):=by rw[HN3.out,UW.out];exact hT3
  have UK:=(UR (n3:Int) mv).trans acH;have YY:Hid (jP s1 s2=mv):=hid HMV.out.symm;clear hT3 acH;by_cases Em:UT<=16
  ·have Qo:(UT:Int)<=16:=by omega
   have hst:PP.step (s0,s1,s2)=⟨PP.all.take r++ [.nd 5 0 (n3:Int) mv [y1]],UT,PP.yy⟩:=by
    rw[acE.out,if_pos (by rw[<-UW.out, <-uU.out, <-HUT.out];exact Em),YY.out];have e1:((fj s1:Nat):Int)=(n3:Int):=by unfold fj;rw[HN3.out]
    rw[e1, <-UW.out, <-uU.out, <-HUT.out];unfold dr.put;rw[<-HM.out, <-Xx.out]
   have mG:=hid hst;clear hst Em;go_wp2_with (first | (refine xd rfl 97 (.tmp 178) rfl g (r*8) rfl (aq kb sb mb xb (.slice p1 nb c1)) _ Rm.out Tryz.underlying97 rfl (cX _ _ _ _ _) ?_) | (go_at_call 108;refine Hid.out ?_));refine hid ?_;refine(M7 _ y1 (n3:Int) mv (fun x=>V.heap.size<=x/\x<W.heap.size/\x≠g) W (fun x hx=>hx.2.1) T1.out).mono ?_;rintro e W2 ⟨u,rfl,hu,hx2⟩;have HU:=hid hu;obtain⟨pu,cu,rfl⟩:=hu.form;have Fu:=hid (ei.out.below hx2);have fK:Hid (ae (· <V.heap.size) V W2):=hid (j7.out.tr (ae.ak hx2 fun x (hx:x<V.heap.size)=>aA hx hbase));obtain⟨cs,q1,q2,q3,q4⟩:=Fu.out;rw[<-HM.out]at q2;have kc:∀ (o:Nat) (v:Value),W.cell? ⟨g,o,none⟩=some v->W2.cell? ⟨g,o,none⟩=some v:=fun o v h=>((ae.ak hx2 fun _ h=>h:ae (· <W.heap.size) W W2).cell (p:=⟨g,o,none⟩) Al).trans h
   replace f0:=kc _ _ f0;replace f1:=kc _ _ f1;replace f2:=kc _ _ f2;replace f3:=kc _ _ f3;replace f4:=kc _ _ f4;replace f5:=kc _ _ f5;replace f6:=kc _ _ f6;replace f7:=kc _ _ f7;have z0:W2.frozen? ⟨g,r*8,none⟩=false:=q2.frozenAt _;have z1:W2.frozen? ⟨g,r*8+1,none⟩=false:=q2.frozenAt _;have z2:W2.frozen? ⟨g,r*8+2,none⟩=false:=q2.frozenAt _;have z3:W2.frozen? ⟨g,r*8+3,none⟩=false:=q2.frozenAt _;have z4:W2.frozen? ⟨g,r*8+4,none⟩=false:=q2.frozenAt _;have z5:W2.frozen? ⟨g,r*8+5,none⟩=false:=q2.frozenAt _;have z6:W2.frozen? ⟨g,r*8+6,none⟩=false:=q2.frozenAt _;have z7:W2.frozen? ⟨g,r*8+7,none⟩=false:=q2.frozenAt _;have Q1:=hid q1;have Q2:=hid q2;have Q3:=hid q3;have Q4:=hid q4;have agK:V.heap.size<=g:=hgb;have hs2:W.heap.size<=W2.heap.size:=hx2.size;clear hu hx2 kc q1 q2 q3 q4 Fu ei j7;simp only[RX.kind,RX.set,RX.mn,RX.mx,RX.subs,List.length_cons,List.length_nil,Nat.zero_add]at HU ⊢;unfold aq;go_upto_region 27 with fail
   refine ax ?_;intro W3 hW3;have K3:Hid (ae (· ≠g) W2 W3):=by rw[hW3];exact hid (((((((((ae.refl _ _).setCell (fun e=>e rfl) _).setCell (fun e=>e rfl) _).setCell (fun e=>e rfl) _).setCell (fun e=>e rfl) _).setCell (fun e=>e rfl) _).setCell (fun e=>e rfl) _).setCell (fun e=>e rfl) _).setCell (fun e=>e rfl) _)
   have R9:Hid (bV V.heap.size W3 (.slice (some ⟨g,0,none⟩) m rc) (PP.all.set r (.nd 5 0 (n3:Int) mv [y1]))):=by
    rw[hW3,HM.out];refine hid (bV.turned (by rw[<-HM.out];exact UU) Q1.out (by rw[<-HM.out];exact Q2.out) Q3.out (fun i c t hi ht=>(Q4.out i c t hi ht).mono fun x hx=>⟨hx.1,hx.2.1,fun e=>hx.2.2 (by rw[e];rfl)⟩) ?_ ?_)
    ·exact(cG _ _ _ _ _ _ _).2
    ·exact HU.out.mono fun x hx=>⟨by rcases hx.2 with h | h;exact h.1;omega,hx.1,fun e=>by rcases hx.2 with h | h;exact h.2.2 e;omega⟩
   have K9:Hid (ae (· <V.heap.size) V W3):=hid (fK.out.tr (K3.out.mono fun x (hx:x<V.heap.size)=>by show x≠g;omega));clear hW3 f0 f1 f2 f3 f4 f5 f6 f7 z0 z1 z2 z3 z4 z5 z6 z7 Q1 Q2 Q3 Q4 HU fK K3;have oP:PP.all.set r (.nd 5 0 (n3:Int) mv [y1])=PP.all.take r++ [.nd 5 0 (n3:Int) mv [y1]]:=by
    have e:=lz (l:=PP.all) (by rw[<-HM.out];omega);rw[<-HM.out, <-Xx.out]at e
    conv=>lhs;rw[e]
    rw[List.set_append_right _ _ (by rw[List.length_take];omega),List.length_take,Nat.min_eq_left (by rw[<-HM.out];omega),Nat.sub_self];rfl
   have Ht:=hid oP;clear oP;go_wp2;go_roundw;case rel=>
    refine⟨k+1,by omega,by go_num,?_,?_,?_,K9.out⟩
    ·have e7:(jn (l.take (k+1))).mE=UT:=by rw[HST.out,mG.out]
     rw[e7]
     try rfl
     try go_num
    ·have e7:(jn (l.take (k+1))).yy=gr:=by rw[HST.out,mG.out];exact lF.out.symm
     rw[e7]
     try rfl
     try go_num
    ·rw[HST.out,mG.out, <-Ht.out]
     have e8:(PP.all.set r (.nd 5 0 (n3:Int) mv [y1])).length=m:=by rw[List.length_set];exact HM.out.symm
     exact R9.out
   case measure=>simp[intOf];omega
  ·have Qo:¬ ((UT:Int)<=16):=by omega
   have hst:PP.step (s0,s1,s2)=PP:=by rw[acE.out,if_neg (by rw[<-UW.out, <-uU.out, <-HUT.out];exact Em)]
   have mG:=hid hst;clear hst Em;go_wp2;go_roundw;case rel=>
    refine⟨k+1,by omega,by go_num,by rw[HST.out,mG.out, <-uU.out],by rw[HST.out,mG.out, <-lF.out],by rw[HST.out,mG.out];exact ei.out,j7.out⟩
   case measure=>simp[intOf];omega
theorem Rs (b off c:Nat) (l:List (Nat×Nat×Nat)) (w:World) (hb:b<w.heap.size) (hc:l.length<=c) (iZ:l.length<=1000000000000000) (hS:∀ (i:Nat) (s:Nat×Nat×Nat),l[i]? =some s->s.1<256/\s.2.1<256/\s.2.2<256/\w.cell? ⟨b,off+i*3,none⟩=some (.int .u8 s.1)/\w.cell? ⟨b,off+i*3+1,none⟩=some (.int .u8 s.2.1)/\w.cell? ⟨b,off+i*3+2,none⟩=some (.int .u8 s.2.2)):(eA b off c l w hb hc iZ hS).H:=by
 have HS:=hid hS;intro iN vk jz jA jB R HR n iZ hc N l4 Fp oU Fq oQ HN xe xf xh V R0 X0 qE
 intros
 rename_i k hk wo hlt eG s0 s1 s2 PP I7 GX I8 ru rc m rM uf gr jU HST j6 HM uU lF Dz Am Ao Ap Aq Ar W1 B1 ei j7 d0 d1 d2 kd GY ku hbase ze hA hB hC hD hE hG mG a1 a2;go_upto_region 12 with fail
 go_cut [48] from 49 to 54 (fun x wx=>x=.bool false/\wx=W1)
 case first=>
  by_cases hq:kd<7
  ·have a3:(kd:Int)<7:=by omega
   have a4:¬ ((1:Int)<m):=by omega
   go_wp2_with fail
   go_meet
   exact⟨rfl,rfl⟩
  ·have a3:¬ ((kd:Int)<7):=by omega
   go_wp2_with fail
   go_meet
   exact⟨rfl,rfl⟩
 case rest=>
 obtain⟨rfl,hwc⟩:=hcut;replace hwc:=hwc.symm;subst hwc;go_upto_region 14 with fail
 go_cut [74] from 75 to 80 (fun x wx=>x=.bool false/\wx=W1)
 case first=>
  by_cases hq:kd<9
  ·have a3:(kd:Int)<9:=by omega
   have a4:¬ ((1:Int)<m):=by omega
   go_wp2_with fail
   go_meet
   exact⟨rfl,rfl⟩
  ·have a3:¬ ((kd:Int)<9):=by omega
   go_wp2_with fail
   go_meet
   exact⟨rfl,rfl⟩
 case rest=>
 obtain⟨rfl,hwc⟩:=hcut;replace hwc:=hwc.symm;subst hwc;go_upto_region 16 with fail
 go_cut [100] from 101 to 110 (fun x wx=>x=.bool false/\wx=W1)
 case first=>
  by_cases hq:kd=9
  ·have a6:((kd:Int)==9)=true:=by simp[hq]
   by_cases h0:0<m
   ·have a8:(0:Int)<m:=by omega
    have a9:¬ ((gr:Int)<9):=by omega
    clear hq;go_wp2_with fail
    go_meet
    exact⟨rfl,rfl⟩
   ·have a8:¬ ((0:Int)<m):=by omega
    clear hq;go_wp2_with fail
    go_meet
    exact⟨rfl,rfl⟩
  ·have a6:((kd:Int)==9)=false:=by simp;omega
   go_wp2_with fail
   go_meet
   exact⟨rfl,rfl⟩
 case rest=>
 obtain⟨rfl,hwc⟩:=hcut;replace hwc:=hwc.symm;subst hwc;go_upto_region 19 with fail
 go_cut [123] from 124 to 138 (fun x wx=>x=.bool false/\wx=W1)
 case first=>
  by_cases hq:9<kd
  ·have a7:(9:Int)<kd:=by omega
   have a8:¬ ((0:Int)<m):=by omega
   go_wp2_with fail
   go_meet
   exact⟨rfl,rfl⟩
  ·have a7:¬ ((9:Int)<kd):=by omega
   go_wp2_with fail
   go_meet
   exact⟨rfl,rfl⟩
 case rest=>
 obtain⟨rfl,hwc⟩:=hcut;replace hwc:=hwc.symm;subst hwc;go_wp2;go_roundw;case rel=>
  refine⟨k+1,by omega,by go_num,by rw[HST.out,mG.out, <-uU.out],by rw[HST.out,mG.out, <-lF.out],by rw[HST.out,mG.out];exact ei.out,j7.out⟩
 case measure=>simp[intOf];omega
theorem Ru (b off c:Nat) (l:List (Nat×Nat×Nat)) (w:World) (hb:b<w.heap.size) (hc:l.length<=c) (iZ:l.length<=1000000000000000) (hS:∀ (i:Nat) (s:Nat×Nat×Nat),l[i]? =some s->s.1<256/\s.2.1<256/\s.2.2<256/\w.cell? ⟨b,off+i*3,none⟩=some (.int .u8 s.1)/\w.cell? ⟨b,off+i*3+1,none⟩=some (.int .u8 s.2.1)/\w.cell? ⟨b,off+i*3+2,none⟩=some (.int .u8 s.2.2)):(eA b off c l w hb hc iZ hS).Z:=by
 have HS:=hid hS;intro iN vk jz jA jB R HR n iZ hc oQ xe xf xh V R0 X0 qE u3
 intros
 rename_i k wo hrow HX l4 Fp oU Fq HN hk hlt Ii;obtain⟨PP,YJ⟩:=ag (jn (l.take k));rw[<-YJ]at hrow ⊢;have fD:l.take k=l.take 25:=by
  rw[HN.out,oQ.out];rcases Nat.le_total l.length 25 with h | h
  ·rw[Nat.min_eq_left h,List.take_length,List.take_of_length_le h]
  ·rw[Nat.min_eq_right h]
 have mP:=wJ (l.take 25);have MX:R=abR PP.all:=by rw[HR.out,YJ,fD];rfl
 rw[<-fD, <-YJ]at mP;have hfA:=mP.fine;have hsA:RX.sizes PP.all<=25:=Nat.le_trans mP.size (by rw[List.length_take];omega);obtain⟨ru,rc,rfl⟩:=hrow.form;have ia:=hid hrow;obtain⟨A,hA⟩:=ag PP.all;rw[<-hA]at ia hfA hsA MX ⊢;have HFA:=hid hfA;have HSA:=hid hsA;have ig:=hid MX;clear hrow hfA hsA MX mP fD YJ hA;have hwV:w.heap.size<V.heap.size:=by have:=qE.out;omega
 have hVo:V.heap.size<=wo.heap.size:=HX.out.size;have X9:Hid (aa w wo):=hid (X0.out.below.trans (HX.out.mono fun x (hx:x<w.heap.size)=>by show x<V.heap.size;omega:ae (· <w.heap.size) V wo).below);have R9:=hid (R0.out.keeps HX.out R0.out.lt);match A,ia,HFA,HSA,ig with
 | [],ia,HFA,HSA,ig=>
  simp only[List.length_nil];go_wp2_with fail
  refine(nO _ [97] rfl (by decide) wo).mono ?_;rintro e w2 ⟨rfl,hx2⟩;obtain⟨S,hS⟩:=ag (pM fun c=>([97]:List Nat).contains c);rw[<-hS];have mA:R=.nd 2 S 0 0 []:=by rw[ig.out,hS];rfl
  have R2:=hid (R9.out.below hx2 R9.out.lt);have X2:Hid (aa w w2):=hid (X9.out.trans (hx2.mono X9.out.size));clear hS hx2;go_wp2_with (refine wpList_store_row rfl 97 (.tmp 2) (.tmp 188) rfl w.heap.size (aq 2 S 0 0 (.slice none 0 0)) rfl rfl 97 eM R2.out (cX _ _ _ _ _) rfl (kr _ _ _ _ _ _ _) ?_;refine Hid.out ?_);refine hid ?_;obtain⟨V3,cT⟩:=ag (w2.setRow w.heap.size (aq 2 S 0 0 (.slice none 0 0)));rw[<-cT];have RR:Hid (ar V3 w.heap.size (aq 2 S 0 0 (.slice none 0 0)) 97):=by rw[cT];exact hid R2.out.setRow
  have KK:ae (· ≠w.heap.size) w2 V3:=by rw[cT];exact bI _ _ _
  clear cT;go_wp2;obtain⟨m0,m1,m2,m3,m4,m5,m6,m7⟩:=RR.out.eight;refine bodyPost_ret (v:=.agg (aq 2 S 0 0 (.slice none 0 0))) (by simp[results,Tryz.results60,aq,go_sem,m0,m1,m2,m3,m4,m5,m6,m7]) rfl ⟨_,rfl,?_,X2.out.trans (KK.mono fun x (hx:x<w.heap.size)=>by show x≠_;omega:ae (· <w.heap.size) w2 V3).below⟩;rw[mA];exact aJ.leaf _ _ _ _ _ _ _ _
 | x::r,ia,HFA,HSA,ig=>
  obtain⟨m,hm⟩:=ag ((x::r).length);have yA:m=r.length+1:=by rw[hm];rfl
  have anC:m<=25:=by have:=wX (x::r);have:=HSA.out;omega
  rw[<-hm]at ia ⊢;obtain⟨g,p1,c1,e9,Tx,lL,hgb,Al,⟨f0,f1,f2,f3,f4,f5,f6,f7⟩,t1⟩:=ia.out.elem (i:=0) (t:=x) rfl;clear Tx;subst e9;simp only[Nat.zero_mul,Nat.zero_add]at f0 f1 f2 f3 f4 f5 f6 f7;have T1:=hid t1;have ve:(0:Int)<m:=by omega
  have rK:(1:Int)<=m:=by omega
  have tN:1<=m:=by omega
  have hc2:1<=rc:=by omega
  have hc3:(1:Int)<=rc:=by omega
  have sy:((m:Int)==0)=false:=by simp;omega
  have HMR:=hid yA;clear t1 hm yA;go_upto_region 31 with fail
  refine ax ?_;intro W1 hW1;have B13:Hid (ar W1 wo.heap.size (aq x.kind x.set x.mn x.mx (.slice p1 x.subs.length c1)) 97):=by rw[hW1];exact hid (ar.new _ _ _)
  have E1:Hid (Ext wo W1):=by rw[hW1];exact hid ((Ext.refl wo).alloc _)
  clear hW1 f0 f1 f2 f3 f4 f5 f6 f7;by_cases hrc:rc=1
  ·skip --Y3a
   obtain rfl:m=1:=by omega
   subst hrc;have hr0:r=[]:=List.eq_nil_of_length_eq_zero (by have:=HMR.out;omega);have HTR:R=x:=by rw[ig.out,hr0];rfl
   have T2:Hid (aJ (fun y=>V.heap.size<=y/\y<W1.heap.size) W1 (.agg (aq x.kind x.set x.mn x.mx (.slice p1 x.subs.length c1))) x):=hid ((T1.out.keeps E1.out.keeps fun y hy=>hy.2.1).mono fun y hy=>⟨hy.1,by have:=hy.2.1;have:=E1.out.size;omega⟩);have X1:Hid (aa w W1):=hid (X9.out.trans (E1.out.below.mono X9.out.size));have R1:=hid (R9.out.ext E1.out);clear T1 X9 R9 hr0 ia;go_wp2;go_loopw [195] (fun i wr=>i=.int .i64 0/\wr=W1) (fun _ _=>0);case atStart=>exact⟨rfl,rfl⟩
   case round=>
    obtain⟨rfl,hwr⟩:=hrel;replace hwr:=hwr.symm;subst hwr;go_wp2_with (first | (refine aY rfl 97 (.tmp 13) rfl wo.heap.size rfl (aq x.kind x.set x.mn x.mx (.slice p1 x.subs.length c1)) _ B13.out.range Tryz.underlying97 rfl (cX _ _ _ _ _) ?_) | (refine wpList_store_row rfl 97 (.tmp 2) (.tmp 203) rfl w.heap.size (aq x.kind x.set x.mn x.mx (.slice p1 x.subs.length c1)) rfl rfl 97 eM R1.out (cX _ _ _ _ _) rfl (kr _ _ _ _ _ _ _) ?_;refine Hid.out ?_));refine hid ?_;obtain⟨V3,cT⟩:=ag (W1.setRow w.heap.size (aq x.kind x.set x.mn x.mx (.slice p1 x.subs.length c1)));rw[<-cT];have RR:Hid (ar V3 w.heap.size (aq x.kind x.set x.mn x.mx (.slice p1 x.subs.length c1)) 97):=by rw[cT];exact hid R1.out.setRow
    have KK:ae (· ≠w.heap.size) W1 V3:=by rw[cT];exact bI _ _ _
    clear cT;go_wp2;obtain⟨m0,m1,m2,m3,m4,m5,m6,m7⟩:=RR.out.eight;refine bodyPost_ret (v:=.agg (aq x.kind x.set x.mn x.mx (.slice p1 x.subs.length c1))) (by simp[results,Tryz.results60,aq,go_sem,m0,m1,m2,m3,m4,m5,m6,m7]) rfl ⟨_,rfl,?_,X1.out.trans (KK.mono fun z (hz:z<w.heap.size)=>by show z≠_;omega:ae (· <w.heap.size) W1 V3).below⟩;rw[HTR];exact(T2.out.keeps KK fun z hz=>by have:=hz.1;show z≠_;omega).mono fun z hz=>aA hz.2 KK.size
  have anD:1<rc:=by omega
  have anE:(1:Int)<rc:=by omega
  have anF:rc-1≠0:=by omega
  have anG:¬ (rc=1):=hrc;have anH:¬ ((rc:Int)=1):=by omega
  have anI:¬ (rc<=1):=by omega
  go_wp2;obtain⟨J0,hJ0⟩:=ag wo.heap.size;have hJ1:J0<W1.heap.size:=by rw[hJ0];exact B13.out.lt
  have HJ0:=hid hJ0;have ei:=hid (ia.out.below E1.out.below);have T2:Hid (aJ (fun y=>V.heap.size<=y/\y<W1.heap.size/\y≠J0) W1 (.agg (aq x.kind x.set x.mn x.mx (.slice p1 x.subs.length c1))) x):=hid ((T1.out.keeps E1.out.keeps fun y hy=>hy.2.1).mono fun y hy=>⟨hy.1,by have:=hy.2.1;have:=E1.out.size;omega,fun e=>by have:=hy.2.1;omega⟩);have X1:Hid (aa w W1):=hid (X9.out.trans (E1.out.below.mono X9.out.size));have R1:=hid (R9.out.ext E1.out);have hgJ:g<J0:=by omega
  have hRJ:w.heap.size<J0:=by omega
  rw[<-hJ0]at B13 ⊢;clear T1 X9 R9 hJ0;go_loopw [195] (fun i wr=>∃ (j:Nat) (t:RX) (p':Option Addr) (c':Nat),j<=r.length/\i=.int .i64 j/\t=(r.take j).foldl (cy 4) x/\ar wr J0 (aq t.kind t.set t.mn t.mx (.slice p' t.subs.length c')) 97/\aJ (fun y=>V.heap.size<=y/\y<wr.heap.size/\y≠J0) wr (.agg (aq t.kind t.set t.mn t.mx (.slice p' t.subs.length c'))) t/\ae (fun y=>y<W1.heap.size/\y≠J0) W1 wr) (fun i _=>r.length-(intOf i).toNat);case atStart=>exact⟨0,x,p1,c1,by omega,rfl,rfl,B13.out,T2.out,ae.refl _ _⟩
  case round=>
   obtain⟨j,t,p',c',hj,rfl,ht,hB,hT,hK⟩:=hrel;obtain⟨w5,rfl⟩:=ag (wr:World);have HB:=hid hB;have HT:=hid hT;have HK:=hid hK;have UW:=hid ht;clear hB hT hK ht;have hR:=HMR.out;by_cases hlt:j<r.length
   ·obtain⟨y,hy⟩:∃ y,r[j]? =some y:=⟨_,az hlt⟩
    have hyA:(x::r)[j+1]? =some y:=by simpa using hy
    have hK2:ae (fun y=>y<J0) wo w5:=(E1.out.keeps.mono fun y (hy:y<J0)=>by have:=HJ0.out;show y<wo.heap.size;omega).tr (HK.out.mono fun y (hy:y<J0)=>⟨by omega,by omega⟩);obtain⟨g',p2,c2,e9,Tx,ajL,hgb',anK,⟨f0,f1,f2,f3,f4,f5,f6,f7⟩,t2⟩:=ia.out.elem hyA;cases e9;clear Tx;have kc:∀ (o:Nat) (v:Value),wo.cell? ⟨g,o,none⟩=some v->w5.cell? ⟨g,o,none⟩=some v:=fun o v h=>(hK2.cell (p:=⟨g,o,none⟩) hgJ).trans h
    have fx:∀ (o:Nat) (v:Value),wo.cell? ⟨g,(j+1)*8+o,none⟩=some v->w5.cell? ⟨g,8+j*8+o,none⟩=some v:=fun o v h=>by
     have:=kc _ _ h;rwa[show(j+1)*8+o=8+j*8+o by omega]at this
    have e0:=fx 0 _ f0;have e1:=fx 1 _ f1;have e2:=fx 2 _ f2;have e3:=fx 3 _ f3;have e4:=fx 4 _ f4;have e5:=fx 5 _ f5;have e6:=fx 6 _ f6;have e7:=fx 7 _ f7;simp only[Nat.add_zero]at e0;have T2':Hid (aJ (fun y=>V.heap.size<=y/\y<w5.heap.size/\y≠J0) w5 (.agg (aq y.kind y.set y.mn y.mx (.slice p2 y.subs.length c2))) y):=hid ((t2.keeps hK2 fun y hy=>by have:=HJ0.out;have:=hy.2.1;show y<J0;omega).mono fun y hy=>⟨hy.1,by have:=hy.2.1;have:=hK2.size;omega,fun e=>by have:=hy.2.1;have:=HJ0.out;omega⟩);have ki:(j:Int)<m-1:=by omega
    clear f0 f1 f2 f3 f4 f5 f6 f7 kc fx;have hyf:y.fine:=HFA.out y (bF _ (aw hy));have Ue:y.size<=1000:=by have:=oD (bF x (aw hy));have:=HSA.out;omega
    have hff:=pW (r.take j) x (HFA.out x (aW ..)) fun z hz=>HFA.out z (bF _ (List.mem_of_mem_take hz))
    have htf:t.fine:=by rw[UW.out];exact hff.1
    have LY:t.size<=1000:=by
     have h1:=hff.2.1;rw[<-UW.out]at h1;have h2:=ew (r.take j) (r.drop j);rw[List.take_append_drop]at h2;have h3:=HSA.out;rw[RX.sizes]at h3;have h4:(r.take j).length<=25:=by rw[List.length_take];omega
     omega
    have s7:(r.take (j+1)).foldl (cy 4) x=cy 4 t y:=by rw[List.take_add_one,hy,List.foldl_append, <-UW.out];rfl
    have HTN:=hid s7;have CJ:Hid (∀ W,aa w5 W->ah 106 #[.int .u8 4,.agg (aq t.kind t.set t.mn t.mx (.slice p' t.subs.length c')),.agg (aq y.kind y.set y.mn y.mx (.slice p2 y.subs.length c2))] W fun e w'=>∃ u,e=.returned u/\aJ (fun z=>z<w'.heap.size/\((V.heap.size<=z/\z<w5.heap.size/\z≠J0)\/W.heap.size<=z)) w' u (cy 4 t y)/\aa W w'):=hid fun W hW=>by
     have KC:ae (· <w5.heap.size) w5 W:=ae.ak hW fun _ h=>h
     exact lZ (fun z=>V.heap.size<=z/\z<w5.heap.size/\z≠J0) 4 (.inr rfl) _ _ t y htf hyf LY Ue W (fun z hz=>aA hz.2.1 hW.size) (HT.out.keeps KC fun z hz=>hz.2.1) (T2'.out.keeps KC fun z hz=>hz.2.1)
    obtain⟨JJ,Tw⟩:=ag (cy 4 t y);rw[<-Tw]at CJ HTN;clear hyf Ue hff htf LY s7 Tw hy hyA;clear hR;go_upto_region 34 with fail
    refine ax ?_;intro W6 uL;have B15:Hid (ar W6 w5.heap.size (aq y.kind y.set y.mn y.mx (.slice p2 y.subs.length c2)) 97):=by rw[uL];exact hid (ar.new _ _ _)
    have E6:Hid (Ext w5 W6):=by rw[uL];exact hid ((Ext.refl w5).alloc _)
    clear uL e0 e1 e2 e3 e4 e5 e6 e7;have B6:=hid (HB.out.ext E6.out);have CJ6:=hid (CJ.out W6 E6.out.below);have hJ5:J0<w5.heap.size:=HB.out.lt;have h56:w5.heap.size<=W6.heap.size:=E6.out.size;clear CJ;go_wp2_with (first | (refine aY rfl 97 (.tmp 13) rfl J0 rfl (aq t.kind t.set t.mn t.mx (.slice p' t.subs.length c')) _ B6.out.range Tryz.underlying97 rfl (cX _ _ _ _ _) ?_) | (refine aY rfl 97 (.tmp 15) rfl w5.heap.size rfl (aq y.kind y.set y.mn y.mx (.slice p2 y.subs.length c2)) _ B15.out.range Tryz.underlying97 rfl (cX _ _ _ _ _) ?_) | (go_at_call 106;refine Hid.out ?_));refine hid ?_;refine CJ6.out.mono ?_;rintro e w7 ⟨u,rfl,hu,hx7⟩;obtain⟨pu,cu,rfl⟩:=hu.form;have HU:=hid hu;have B7:=hid (B6.out.below hx7 B6.out.lt);have K7:Hid (ae (· <w5.heap.size) w5 w7):=hid (E6.out.keeps.tr (ae.ak hx7 fun z (hz:z<w5.heap.size)=>aA hz h56));clear hu hx7 B6 B15 CJ6;go_wp2_with (refine wpList_store_row rfl 97 (.tmp 13) (.tmp 201) rfl J0 (aq JJ.kind JJ.set JJ.mn JJ.mx (.slice pu JJ.subs.length cu)) rfl rfl 97 (aq t.kind t.set t.mn t.mx (.slice p' t.subs.length c')) B7.out (cX _ _ _ _ _) rfl (kr _ _ _ _ _ _ _) ?_;refine Hid.out ?_);refine hid ?_;obtain⟨W8,Wz⟩:=ag (w7.setRow J0 (aq JJ.kind JJ.set JJ.mn JJ.mx (.slice pu JJ.subs.length cu)));rw[<-Wz];have B8:Hid (ar W8 J0 (aq JJ.kind JJ.set JJ.mn JJ.mx (.slice pu JJ.subs.length cu)) 97):=by rw[Wz];exact hid B7.out.setRow
    have K8:Hid (ae (· ≠J0) w7 W8):=by rw[Wz];exact hid (bI _ _ _)
    clear Wz;go_wp2;go_roundw;case rel=>
     have q1:aJ (fun z=>V.heap.size<=z/\z<W8.heap.size/\z≠J0) W8 (.agg (aq JJ.kind JJ.set JJ.mn JJ.mx (.slice pu JJ.subs.length cu))) JJ:=(HU.out.keeps K8.out fun z hz=>by(rcases hz.2 with h | h;exact h.2.2;show z≠J0;omega)).mono fun z hz=>⟨by(rcases hz.2 with h | h;exact h.1;omega),aA hz.1 K8.out.size,by(rcases hz.2 with h | h;exact h.2.2;omega)⟩
     have Yv:=HK.out.size;exact⟨j+1,JJ,pu,cu,by omega,by go_num,HTN.out.symm,B8.out,q1,HK.out.tr ((K7.out.mono fun z (hz:z<W1.heap.size/\z≠J0)=>by have:=hz.1;show z<w5.heap.size;omega).tr (K8.out.mono fun z (hz:z<W1.heap.size/\z≠J0)=>hz.2))⟩
    case measure=>simp[intOf];omega
   ·skip --Yd
    obtain rfl:j=r.length:=by omega
    have ki:¬ ((r.length:Int)<m-1):=by omega
    have htR:R=t:=by rw[ig.out,UW.out,List.take_length];rfl
    have HTR:=hid htR;have hRl:w.heap.size<W1.heap.size:=R1.out.lt;have R5:=hid (R1.out.keeps HK.out ⟨R1.out.lt,by omega⟩);have X5:Hid (aa w w5):=hid (X1.out.trans (HK.out.mono fun z (hz:z<w.heap.size)=>⟨by omega,by omega⟩:ae (· <w.heap.size) W1 w5).below);clear hR htR;go_wp2_with (first | (refine aY rfl 97 (.tmp 13) rfl J0 rfl (aq t.kind t.set t.mn t.mx (.slice p' t.subs.length c')) _ HB.out.range Tryz.underlying97 rfl (cX _ _ _ _ _) ?_) | (refine wpList_store_row rfl 97 (.tmp 2) (.tmp 203) rfl w.heap.size (aq t.kind t.set t.mn t.mx (.slice p' t.subs.length c')) rfl rfl 97 eM R5.out (cX _ _ _ _ _) rfl (kr _ _ _ _ _ _ _) ?_;refine Hid.out ?_));refine hid ?_;obtain⟨V3,cT⟩:=ag (w5.setRow w.heap.size (aq t.kind t.set t.mn t.mx (.slice p' t.subs.length c')));rw[<-cT];have RR:Hid (ar V3 w.heap.size (aq t.kind t.set t.mn t.mx (.slice p' t.subs.length c')) 97):=by rw[cT];exact hid R5.out.setRow
    have KK:ae (· ≠w.heap.size) w5 V3:=by rw[cT];exact bI _ _ _
    clear cT;go_wp2;obtain⟨m0,m1,m2,m3,m4,m5,m6,m7⟩:=RR.out.eight;refine bodyPost_ret (v:=.agg (aq t.kind t.set t.mn t.mx (.slice p' t.subs.length c'))) (by simp[results,Tryz.results60,aq,go_sem,m0,m1,m2,m3,m4,m5,m6,m7]) rfl ⟨_,rfl,?_,X5.out.trans (KK.mono fun z (hz:z<w.heap.size)=>by show z≠_;omega:ae (· <w.heap.size) w5 V3).below⟩;rw[HTR.out];exact(HT.out.keeps KK fun z hz=>by have:=hz.1;show z≠_;omega).mono fun z hz=>aA hz.2.1 KK.size
theorem Fv (b off c:Nat) (l:List (Nat×Nat×Nat)) (w:World) (hb:b<w.heap.size) (hc:l.length<=c) (iZ:l.length<=1000000000000000) (hS:∀ (i:Nat) (s:Nat×Nat×Nat),l[i]? =some s->s.1<256/\s.2.1<256/\s.2.2<256/\w.cell? ⟨b,off+i*3,none⟩=some (.int .u8 s.1)/\w.cell? ⟨b,off+i*3+1,none⟩=some (.int .u8 s.2.1)/\w.cell? ⟨b,off+i*3+2,none⟩=some (.int .u8 s.2.2)): ah 60 #[.slice (some ⟨b,off,none⟩) l.length c] w fun e w'=>∃ u,e=.returned u/\aJ (· <w'.heap.size) w' u (hZ l)/\aa w w':=
 (eA b off c l w hb hc iZ hS).out (Rh b off c l w hb hc iZ hS) (Rk b off c l w hb hc iZ hS) (Rl b off c l w hb hc iZ hS) (Ro b off c l w hb hc iZ hS) (Rp b off c l w hb hc iZ hS) (Rq b off c l w hb hc iZ hS) (Rs b off c l w hb hc iZ hS) (Ru b off c l w hb hc iZ hS)
theorem xi (p:Option Addr) (c:Nat) (w:World): ah 60 #[.slice p 0 c] w fun e w'=>∃ u,e=.returned u/\aJ (· <w'.heap.size) w' u (hZ [])/\aa w w':=by
 go_enter Tryz.func60,Tryz.ntmps60
 have l4:min (0:Int) 25=0:=by decide
 go_wp2;refine ax ?_;intro V hV;have R0:Hid (ar V w.heap.size eM 97):=by rw[hV];exact hid (ar.new _ _ _)
 have X0:Hid (aa w V):=by rw[hV];exact hid ((Ext.refl w).alloc _).below
 clear hV;go_loopw [3,4,5,22] (fun u x y i wr=>u=.slice none 0 0/\x=.int .i64 1/\y=.int .i64 0/\i=.int .i64 0/\wr=V) (fun _ _ _ _ _=>0);case atStart=>exact⟨rfl,rfl,rfl,rfl,rfl⟩
 case round=>
  obtain⟨rfl,rfl,rfl,rfl,hwr⟩:=hrel;replace hwr:=hwr.symm;subst hwr;go_wp2_with fail
  refine(nO _ [97] rfl (by decide) V).mono ?_;rintro e w2 ⟨rfl,hx2⟩;obtain⟨S,hS⟩:=ag (pM fun c=>([97]:List Nat).contains c);rw[<-hS];have mA:hZ []=.nd 2 S 0 0 []:=by rw[hS];rfl
  have R2:=hid (R0.out.below hx2 R0.out.lt);have X2:Hid (aa w w2):=hid (X0.out.trans (hx2.mono X0.out.size));clear hS hx2;go_wp2_with (refine wpList_store_row rfl 97 (.tmp 2) (.tmp 188) rfl w.heap.size (aq 2 S 0 0 (.slice none 0 0)) rfl rfl 97 eM R2.out (cX _ _ _ _ _) rfl (kr _ _ _ _ _ _ _) ?_;refine Hid.out ?_);refine hid ?_;obtain⟨V3,cT⟩:=ag (w2.setRow w.heap.size (aq 2 S 0 0 (.slice none 0 0)));rw[<-cT];have RR:Hid (ar V3 w.heap.size (aq 2 S 0 0 (.slice none 0 0)) 97):=by rw[cT];exact hid R2.out.setRow
  have KK:ae (· ≠w.heap.size) w2 V3:=by rw[cT];exact bI _ _ _
  clear cT;go_wp2;obtain⟨m0,m1,m2,m3,m4,m5,m6,m7⟩:=RR.out.eight;refine bodyPost_ret (v:=.agg (aq 2 S 0 0 (.slice none 0 0))) (by simp[results,Tryz.results60,aq,go_sem,m0,m1,m2,m3,m4,m5,m6,m7]) rfl ⟨_,rfl,?_,X2.out.trans (KK.mono fun x (hx:x<w.heap.size)=>by show x≠_;omega:ae (· <w.heap.size) w2 V3).below⟩;rw[mA];exact aJ.leaf _ _ _ _ _ _ _ _
theorem dR.form {w:World} {v:Value} {l:List (Nat×Nat×Nat)} (h:dR w v l):∃ a c,v=.slice a l.length c:=by
 rcases h with⟨rfl,rfl⟩ | ⟨ad,c,rfl,rfl⟩ | ⟨b,off,c,rfl,_⟩
 ·exact⟨_,_,rfl⟩
 ·exact⟨_,_,rfl⟩
 ·exact⟨_,_,rfl⟩
theorem I9 (v:Value) (l:List (Nat×Nat×Nat)) (iZ:l.length<=1000000000000000) (w:World) (h:dR w v l): ah 60 #[v] w fun e w'=>∃ u,e=.returned u/\aJ (· <w'.heap.size) w' u (hZ l)/\aa w w':=by
 rcases h with⟨rfl,rfl⟩ | ⟨ad,c,rfl,rfl⟩ | ⟨b,off,c,rfl,hb,hc,_,h⟩
 ·exact xi none 0 w
 ·exact xi (some ad) c w
 ·exact Fv b off c l w hb hc iZ h
end
section
open Go Go.ChangeShapes Go.WideShapes Go.ChangeAt Go.RowKit Go.Deep
section
variable {H:Type} {enc:TypeId×Value→H} {W:World}
theorem rN {t e:TypeId} {fuel:Nat} {a:Option Addr} {n c:Nat} {x:DataW H×List MemPlace} (ht:Tryz.prog.underlying t=some (.slice e)) (hb:1<=Tryz.prog.bytesOf e) (h:DataW.trod enc Tryz.prog W 0 (fun _=>true) true fuel t [.slice a n c]=some x) (hs:∀ m∈x.1.weights Tryz.prog t,m<=reachBytes):n<=1000000000000000:=by
 rcases open_slice ht h with⟨hcs,_⟩ | ⟨a',len,cap,m,k,D,Pl,hcs,_,_,_,_,rfl,_⟩
 ·have:Value.slice a n c=.slice none 0 0:=by simpa using hcs
  cases this
  omega
 ·have:Value.slice a n c=.slice (some a') len cap:=by simpa using hcs
  cases this
  have h1:=hs ((((List.range n).map D).length+((List.range (m-n)).map fun j=>D (n+j)).length)*Tryz.prog.bytesOf e) (by simp[DataW.weights,ht]);have h2:n*1<=(((List.range n).map D).length+((List.range (m-n)).map fun j=>D (n+j)).length)*Tryz.prog.bytesOf e:=Nat.mul_le_mul (by simp) hb;unfold reachBytes at h1;omega
theorem rO {t:TypeId} (ht:Tryz.prog.underlying t=some (.int .u8)) {fuel:Nat} {c:Value} {y:DataW H×List MemPlace} (h:DataW.trod enc Tryz.prog W 0 (fun _=>true) true fuel t [c]=some y):∃ n:Nat,c=.int .u8 n/\n<256:=by
 obtain⟨z,hz,_,hw⟩:=DataW.trod_int ht h;obtain rfl:c=.int .u8 z:=by simpa using hz
 have:=Pv hw;exact⟨z.toNat,by rw[Int.toNat_of_nonneg this.1],by omega⟩
theorem Fw {fuel:Nat} {v:Value} {y:DataW H×List MemPlace} (h:DataW.trod enc Tryz.prog W 0 (fun _=>true) true fuel 116 [v]=some y) (hz:∀ m∈y.1.weights Tryz.prog 116,m<=reachBytes): ∃ l:List (Nat×Nat×Nat),dR W v l/\l.length<=1000000000000000:=by
 have hb3:1<=Tryz.prog.bytesOf 185:=by
  have:Tryz.prog.bytesOf 185=3:=by kernel_rfl
  omega
 have h0:=h;rcases open_slice Tryz.underlying116 h with⟨hcs,_⟩ | ⟨a,len,cap,m,n,D,Pl,hcs,_,hl,hm,sw,_,hi⟩
 ·obtain rfl:v=.slice none 0 0:=by simpa using hcs
  exact⟨[],.inl ⟨rfl,rfl⟩,by simp⟩
 ·obtain rfl:v=.slice (some a) len cap:=by simpa using hcs
  have YZ:=rN Tryz.underlying116 hb3 h0 hz;have hc:Tryz.prog.cellsOf 185=3:=by kernel_rfl
  rw[hc]at hi;rw[if_pos rfl]at sw;rcases Nat.eq_zero_or_pos len with h1 | h1
  ·subst h1
   exact⟨[],.inr (.inl ⟨a,cap,rfl,rfl⟩),by simp⟩
  ·obtain⟨b,off,spot⟩:=a
   have el:∀ i,i<len->∃ s:Nat×Nat×Nat,(s.1<256/\s.2.1<256/\s.2.2<256)/\W.cell? ((⟨b,off,spot⟩:Addr).add (i*3))=some (.int .u8 s.1)/\W.cell? (((⟨b,off,spot⟩:Addr).add (i*3)).add 1)=some (.int .u8 s.2.1)/\W.cell? (((⟨b,off,spot⟩:Addr).add (i*3)).add 2)=some (.int .u8 s.2.2):=fun i gL=>by
    obtain⟨cs',h2,h3⟩:=hi i (by omega);obtain⟨_,Fc,hat⟩:=World.cells?_some h2;match cs',Fc with
    | [c0,c1,c2],_=>
    obtain⟨y0,y1,y2,k,_,_,t0,t1,t2⟩:=trod_struct3 Tryz.underlying185 h3;obtain⟨n0,rfl,q0⟩:=rO Tryz.underlying5 (show DataW.trod enc Tryz.prog W 0 (fun _=>true) true k 5 [c0]=some y0 from t0);obtain⟨n1,rfl,q1⟩:=rO Tryz.underlying5 (show DataW.trod enc Tryz.prog W 0 (fun _=>true) true k 5 [c1]=some y1 from t1);obtain⟨n2,rfl,q2⟩:=rO Tryz.underlying5 (show DataW.trod enc Tryz.prog W 0 (fun _=>true) true k 5 [c2]=some y2 from t2);have g0:=hat 0 (by decide);have g1:=hat 1 (by decide);have g2:=hat 2 (by decide);refine⟨(n0,n1,n2),⟨q0,q1,q2⟩,?_,g1,g2⟩;have e:∀ A:Addr,A.add 0=A:=fun A=>by simp[Addr.add]
    rwa[e]at g0
   have hspot:spot=none:=by obtain⟨s,_,g0,_⟩:=el 0 h1;simpa[Addr.add]using World.cell?_spot g0
   subst hspot;have hb:b<W.heap.size:=by
    obtain⟨s,_,g0,_⟩:=el 0 h1;rw[nG]at g0;exact wF g0
   obtain⟨S,hS⟩:=choose_lt (α:=Nat×Nat×Nat) (p:=fun i s=>s.1<256/\s.2.1<256/\s.2.2<256/\W.cell? ⟨b,off+i*3,none⟩=some (.int .u8 s.1)/\W.cell? ⟨b,off+i*3+1,none⟩=some (.int .u8 s.2.1)/\W.cell? ⟨b,off+i*3+2,none⟩=some (.int .u8 s.2.2)) (n:=len) (fun i gL=>by
    obtain⟨s,⟨q0,q1,q2⟩,g0,g1,g2⟩:=el i gL;rw[nG]at g0 g1 g2;rw[nG]at g1 g2
    exact⟨s,q0,q1,q2,g0,g1,g2⟩)
   refine⟨(List.range len).map S,.inr (.inr ⟨b,off,cap,by simp,hb,by simpa using hl,?_,fun i s TK=>?_⟩),by simpa using YZ⟩
   ·intro e
    have:=congrArg List.length e;simp at this;omega
   ·simp only[aO,Option.map_eq_some_iff,Ov]at TK
    obtain⟨k,⟨hk,rfl⟩,rfl⟩:=TK;simp at hk ⊢;exact hS i hk
end
end
section
open Go Go.RowKit
section
variable {κ:Type} [DecidableEq κ]
def bQ (key:Nat->κ):Nat->List κ
 | 0=>[]
 | n+1=>if key n∈bQ key n then bQ key n else bQ key n++ [key n]
def dF (key:Nat->κ) (n s:Nat):Nat:=(bQ key n).idxOf (key s)
def dP (key:Nat->κ) (n:Nat):Nat:=(bQ key n).length
theorem mem_keys {key:Nat->κ} {x:κ} :∀ {n:Nat},x∈bQ key n↔ ∃ s,s<n/\key s=x
 | 0=>by simp[bQ]
 | n+1=>by
  rw[bQ];split
  ·rename_i h
   rw[mem_keys];constructor
   ·rintro⟨s,h1,h2⟩;exact⟨s,by omega,h2⟩
   ·rintro⟨s,h1,h2⟩
    by_cases e:s=n
    ·subst e
     exact mem_keys.1 (h2▸h)
    ·exact⟨s,by omega,h2⟩
  ·rw[List.mem_append,mem_keys,List.mem_singleton]
   constructor
   ·rintro(⟨s,h1,h2⟩ | h)
    ·exact⟨s,by omega,h2⟩
    ·exact⟨n,by omega,h.symm⟩
   ·rintro⟨s,h1,h2⟩
    by_cases e:s=n
    ·subst e;exact .inr h2.symm
    ·exact .inl ⟨s,by omega,h2⟩
theorem l6 (key:Nat->κ):∀ n,(bQ key n).Nodup
 | 0=>List.nodup_nil
 | n+1=>by
  rw[bQ];split
  ·exact l6 key n
  ·rename_i h
   rw[List.nodup_append];refine⟨l6 key n,by simp,fun a ha b hb=>?_⟩;rw[List.mem_singleton.1 hb];exact fun e=>h (e▸ha)
theorem Fx {key:Nat→κ} {m:Nat} :∀ {n:Nat},m≤n→∃ r,bQ key n=bQ key m++r
  | 0, h => ⟨[], by obtain rfl : m = 0 := by omega
                    simp⟩
  | n + 1, h => by
    by_cases e : m = n + 1
    · exact ⟨[], by rw [e]; simp⟩
    · obtain ⟨r, hr⟩ := Fx (key := key) (m := m) (n := n) (by omega)
      rw[bQ];split
      · exact⟨r,hr⟩
      · exact⟨r++ [key n],by rw[hr,List.append_assoc]⟩
theorem rP (key:Nat->κ):∀ n,dP key n<=n
 | 0=>aD _
 | n+1=>by
  have h:=rP key n;unfold dP at h ⊢;rw[bQ];split
  ·omega
  ·rw[aG,List.length_singleton];omega
theorem xj {key:Nat->κ} {n s:Nat} (hs:s<n):dF key n s<dP key n:=List.idxOf_lt_length_of_mem (mem_keys.2 ⟨s,hs,rfl⟩)
theorem KD {key:Nat->κ} {n s:Nat} (hs:s<n):(bQ key n)[dF key n s]? =some (key s):=by have h:=xj (key:=key) hs;rw[az h];congr 1;exact List.getElem_idxOf h
theorem dK {key:Nat->κ} {n s t:Nat} (hs:s<n) (ht:t<n):dF key n s=dF key n t↔key s=key t:=by
 constructor
 ·intro h
  have h1:=KD (key:=key) hs;rw[h,KD ht]at h1;exact(Option.some.inj h1).symm
 ·intro h
  unfold dF;rw[h]
theorem UX {key:Nat->κ} {m n s:Nat} (hs:s<m) (hm:m<=n):dF key n s=dF key m s:=by obtain⟨r,hr⟩:=Fx (key:=key) hm;unfold dF;rw[hr,List.idxOf_append,if_pos (mem_keys.2 ⟨s,hs,rfl⟩)]
theorem lG {key:Nat->κ} {n s:Nat} (hs:s<n):dF key n s=if key s∈bQ key s then(bQ key s).idxOf (key s)else(bQ key s).length:=by
 rw[UX (m:=s+1) (by omega) (by omega)];unfold dF;rw[bQ];split
 ·rfl
 ·rename_i h
  rw[List.idxOf_append,if_neg h];simp
theorem UY {key:Nat->κ} {n b:Nat} (hb:b<dP key n):∃ s,s<n/\dF key n s=b:=by obtain⟨s,hs,e⟩:=mem_keys.1 (List.getElem_mem (l:=bQ key n) hb);refine⟨s,hs,?_⟩;unfold dF;rw[e];exact(l6 key n).idxOf_getElem b hb
end
theorem rQ {κ κ':Type} [DecidableEq κ] [DecidableEq κ'] {k:Nat->κ} {k':Nat->κ'} {n:Nat} (h:∀ s t,s<n->t<n->k' s=k' t->k s=k t):dP k n<=dP k' n/\(dP k n=dP k' n->∀ s t,s<n->t<n->k s=k t->k' s=k' t):=by
 -- the numbers by k' of the first ones of each number by k
 have pick:∀ b,b<dP k n->∃ s,s<n/\dF k n s=b:=fun b hb=>UY hb
 let f:Nat->Nat:=fun b=>if hb:b<dP k n then(pick b hb).choose else 0
 have hf:∀ b,b<dP k n->f b<n/\dF k n (f b)=b:=fun b hb=>by
  show(if hb:b<dP k n then(pick b hb).choose else 0)<n/\dF k n (if hb:b<dP k n then(pick b hb).choose else 0)=b;rw[dif_pos hb];exact(pick b hb).choose_spec
 have inj:∀ a b,a<dP k n->b<dP k n->dF k' n (f a)=dF k' n (f b)->a=b:=fun a b ha hb e=>by
  obtain⟨a1,a2⟩:=hf a ha;obtain⟨b1,b2⟩:=hf b hb;have e1:=h _ _ a1 b1 ((dK a1 b1).1 e);rw[<-a2, <-b2];exact(dK a1 b1).2 e1
 have VH:((List.range (dP k n)).map fun b=>dF k' n (f b)).Nodup:=by rw[List.nodup_iff_pairwise_ne,List.pairwise_map];refine(List.nodup_iff_pairwise_ne.1 List.nodup_range).imp_of_mem fun {a b} ha hb hne e=>hne (inj a b (List.mem_range.1 ha) (List.mem_range.1 hb) e)
 have hlt:∀ x∈(List.range (dP k n)).map fun b=>dF k' n (f b),x<dP k' n:=fun x hx=>by
  obtain⟨b,hb,rfl⟩:=List.mem_map.1 hx;exact xj (hf b (List.mem_range.1 hb)).1
 have hle:dP k n<=dP k' n:=by have:=kV (dP k' n) _ VH hlt;rwa[aQ,List.length_range]at this
 refine⟨hle,fun he s t hs ht hk=>?_⟩
 -- each number by k' is that of a first one
 have cover:∀ x,x<dP k' n->∃ b,b<dP k n/\dF k' n (f b)=x:=fun x hx=>by
  refine Classical.byContradiction fun hno=>?_
  have agU:(x::(List.range (dP k n)).map fun b=>dF k' n (f b)).Nodup:=List.nodup_cons.2 ⟨fun hm=>by
   obtain⟨b,hb,e⟩:=List.mem_map.1 hm
   exact hno ⟨b,List.mem_range.1 hb,e⟩,VH⟩
  have:=kV (dP k' n) _ agU fun y hy=>by
   rcases List.mem_cons.1 hy with rfl | hy
   ·exact hx
   ·exact hlt y hy
  rw[List.length_cons,aQ,List.length_range]at this;omega
 have at':∀ u,u<n->dF k' n (f (dF k n u))=dF k' n u:=fun u hu=>by
  obtain⟨b,hb,e⟩:=cover _ (xj (key:=k') hu);obtain⟨b1,b2⟩:=hf b hb;have e1:=h _ _ b1 hu ((dK b1 hu).1 e);have e2:b=dF k n u:=by rw[<-b2];exact(dK b1 hu).2 e1
  rw[<-e2,e]
 have e1:=at' s hs;have e2:=at' t ht;rw[(dK hs ht).2 hk]at e1;exact(dK hs ht).1 (e1.symm.trans e2)
theorem KH {l:List Int} (h:rh l=true):∀ k,k<l.length->(k:Int)<=l.getD k 0/\l.getD k 0<=255:=by
 unfold rh at h;rw[List.all_eq_true]at h;intro k;induction k with
 | zero=>
  intro hk;have:=h 0 (by simpa using hk);unfold tQ ny at this;simp at this;refine⟨?_,?_⟩<;>simp at * <;>omega
 | succ k ih=>
  intro hk;have h1:=ih (by omega);have:=h (k+1) (by simpa using hk);unfold tQ ny at this;rw[if_neg (by omega),Bool.and_eq_true,decide_eq_true_eq,decide_eq_true_eq,Nat.add_sub_cancel]at this
  push_cast
  omega
end
end Go.Proofs.YtjgccapbphadjaaGreatDoor
