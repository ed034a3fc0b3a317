/- Plain facts on (*maker).make: the states by the least bytes, and one row of the table more. -/
import Derived.Test.YtjgccapbphadjaaGreatDoorOB08
set_option maxRecDepth 100000
set_option maxHeartbeats 16000000
open Go.Lib (hid)
open Go.Value renaming slice->An,int->A',agg->B',bool->Gz
open Option renaming some->As,none->AF
open Go.Lib renaming hid->AI
open List renaming getElem?_eq_some_iff->AM,length_take->AN,nodup_iff_pairwise_ne->Bs,mem_range->C_,take_length->C',mem_of_mem_take->Dl,eq_nil_of_length_eq_zero->Dm,length_cons->D_,mem_map->EV,length_nil->E_,set_append_right->FF,length_singleton->FG,getElem?_of_mem->F_,mem_singleton->GA,range->GB,idxOf_append->GG,pairwise_map->GH,length_range->GO,length_set->GW
open Go.Proofs.Tryz renaming underlying97->AS,underlying95->Cd,results60->D0
open Go.IntWalk renaming i64_in->AT
open Go.IntKind renaming i64->A_,u8->GS
open Go renaming World->Bm,wpList_store_row->By,bodyPost_ret->D'
open Int renaming ofNat->B_,tmod_eq_emod_of_nonneg->DQ
open Go.Operand renaming tmp->Dn
open Go.RowKit renaming Hid->DE
open Nat renaming sub_self->DH,min_eq_left->Ft,le_trans->GC,zero_add->GF,sub_zero->G_
open Go.Ending renaming returned->DP
namespace Go.Proofs.YtjgccapbphadjaaGreatDoor
section
open Go Go.RowKit Go.Shelf Go.Maps
theorem RD (b off c:Nat) (l:List (Nat×Nat×Nat)) (w:Bm) (hb:b<w.heap.size) (hc:l.length<=c) (iT:l.length<=1000000000000000) (hS:∀ (i:Nat) (s:Nat×Nat×Nat),l[i]? =As s->s.1<256/\s.2.1<256/\s.2.2<256/\w.cell? ⟨b,off+i*3,AF⟩=As (A' GS s.1)/\w.cell? ⟨b,off+i*3+1,AF⟩=As (A' GS s.2.1)/\w.cell? ⟨b,off+i*3+2,AF⟩=As (A' GS s.2.2)):(eC b off c l w hb hc iT hS).A:=by
 have HS:=AI hS;intro iN vu ju jw jy R HR n iT hc N l9 Fm pC Fo pA HN xi xj xm V R0 X0 qR
 intros
 rename_i k hk wo hlt eE s0 s1 s2 PP Jb GY Jc ru rc m r8 uf gr jY HST km HM uV lJ Dv Ao Ap Aq Ar Au W1 B1 eo kj d0 d1 d2 kd GZ kC hbase zf hA;have a1:(kd:Int)<4:=by omega
 have hst:PP.step (s0,s1,s2)=⟨PP.all++ [nQ s1],PP.mK,PP.yy⟩:=by unfold dC.step;dsimp only;rw[<-zf.out,if_pos hA];unfold dC.put;rw[G_,C']
 have mM:=AI hst;clear hst hA;go_wp2_with fail
 refine(ze s1 GY W1).mono ?_;rintro e W2 ⟨str,rfl,hstr,hx2⟩;have ac7:=AI hstr;have hl7:(dZ s1).length<=1000000:=by
  have q:∀ r:Nat,([[97],[98],[97,98],[97],[98],[99],[97,98,99],[98,99],[10],[0,255],[97],[98]].getD r []:List Nat).length<=3:=fun r=>by
   rcases Nat.lt_or_ge r 12 with h | h
   ·have hc:r=0\/r=1\/r=2\/r=3\/r=4\/r=5\/r=6\/r=7\/r=8\/r=9\/r=10\/r=11:=by omega
    rcases hc with rfl | rfl | rfl | rfl | rfl | rfl | rfl | rfl | rfl | rfl | rfl | rfl<;>decide
   ·rw[bu,aS (by simpa using h)];decide
  unfold dZ;exact GC (q _) (by decide)
 have Fq:=AI (eo.below hx2);have gF:DE (ae (· <V.heap.size) V W2):=AI (kj.tr (ae.ai hx2 fun x (hx:x<V.heap.size)=>aD hx hbase));clear hx2 hstr;go_wp2_with fail
 refine(nV str _ ac7 hl7 W2).mono ?_;rintro e W3 ⟨rfl,hx3⟩;obtain⟨S,hS⟩:=ag (pX fun c=>(dZ s1).contains c);rw[<-hS];have mG:nQ s1=.nd 2 S 0 0 []:=by unfold nQ;rw[<-hS]
 rw[mG]at mM;have RG:=AI (Fq.below hx3);have oy:DE (ae (· <V.heap.size) V W3):=AI (gF.tr (ae.ai hx3 fun x (hx:x<V.heap.size)=>aD hx gF.size));have hb3:V.heap.size<=W3.heap.size:=oy.size;clear hS mG hx3 eo Fq gF d0 d1 d2 B1 hl7 ac7;unfold aq;go_wp2_with (at_builtin;refine rZ rfl ?_);refine AI ?_;refine js ?_;intro W4 KM;have B4:DE (ar W4 W3.heap.size (aq 2 S 0 0 (An AF 0 0)) 97):=by rw[KM];exact AI (ar.new _ _ _)
 have E4:DE (Ext W3 W4):=by rw[KM];exact AI ((Ext.refl _).alloc _)
 clear KM;have RH:=AI (RG.below E4.below);have II:W3.heap.size<=W4.heap.size:=E4.size;obtain⟨cs,g1,g2,g3,g4⟩:=RH.out;rw[<-HM.out]at g1 g2;have G1:=AI g1;have G2:=AI g2;have G3:=AI g3;have G4:=AI g4;clear g1 g2 g3 g4 RH RG;refine eZ rfl (Dn 34) (Dn 39) 95 rfl V.heap.size 97 iN (B' eL) 8 80 Cd vu ju jw jy rfl (by decide) (An ru m rc) m (bE cs) rfl G2 ⟨W3.heap.size,0,AF⟩ 1 1 (aq 2 S 0 0 (An AF 0 0)).toList rfl (cO B4) rfl (cL _ _ _ _ _ _ _).2 (by unfold maxLen;omega) (by omega) (by omega) ?_;intro v' w' ho hg kK;have K9:DE (ae (· <V.heap.size) V w'):=AI ((oy.tr (E4.keeps.mono fun x (hx:x<V.heap.size)=>aD hx hb3)).tr (ae.bB hg fun x (hx:x<V.heap.size)=>⟨by omega,fun e=>by have:=(G2.lt x e.symm).1;omega⟩));have R9:DE (cd V.heap.size w' v' (PP.all++ [.nd 2 S 0 0 []])):=AI (cd.push (cs:=cs) (c:=aq 2 S 0 0 (An AF 0 0)) (by rw[<-HM.out];exact G1) G3 G4 (cL _ _ _ _ _ _ _) (aK.leaf _ _ _ _ _ _ _ _) (by rw[<-HM.out];exact ho) hg kK);obtain⟨va',vc',rfl⟩:=ownsRow_form ho;clear ho hg kK;go_wp2;go_roundw;case rel=>
  refine⟨k+1,by omega,by go_num,by rw[HST.out,mM.out, <-uV.out],by rw[HST.out,mM.out, <-lJ.out],by rw[HST.out,mM.out];exact R9,K9⟩
 case measure=>simp[intOf];omega
theorem RJ (b off c:Nat) (l:List (Nat×Nat×Nat)) (w:Bm) (hb:b<w.heap.size) (hc:l.length<=c) (iT:l.length<=1000000000000000) (hS:∀ (i:Nat) (s:Nat×Nat×Nat),l[i]? =As s->s.1<256/\s.2.1<256/\s.2.2<256/\w.cell? ⟨b,off+i*3,AF⟩=As (A' GS s.1)/\w.cell? ⟨b,off+i*3+1,AF⟩=As (A' GS s.2.1)/\w.cell? ⟨b,off+i*3+2,AF⟩=As (A' GS s.2.2)):(eC b off c l w hb hc iT hS).B:=by
 have HS:=AI hS;intro iN vu ju jw jy R HR n iT hc N l9 Fm pC Fo pA HN xi xj xm V R0 X0 qR
 intros
 rename_i k hk wo hlt eE s0 s1 s2 PP Jb GY Jc ru rc m r8 uf gr jY HST km HM uV lJ Dv Ao Ap Aq Ar Au W1 B1 eo kj d0 d1 d2 kd GZ kC hbase zf hA hB;have a1:¬ ((kd:Int)<4):=by omega
 have a2:((kd:Int)==4)=true:=by simp[hB]
 have hst:PP.step (s0,s1,s2)=⟨PP.all++ [.nd 1 0 0 0 []],PP.mK,PP.yy⟩:=by unfold dC.step;dsimp only;rw[<-zf.out,if_neg hA,if_pos hB];unfold dC.put;rw[G_,C'];rfl
 have mM:=AI hst;clear hst hA hB;go_wp2_with (at_builtin;refine rZ rfl ?_);refine AI ?_;clear d0 d1 d2 B1;refine js ?_;intro W4 KM;have B4:DE (ar W4 W1.heap.size (aq 1 0 0 0 (An AF 0 0)) 97):=by rw[KM,bT];exact AI (ar.new _ _ _)
 have E4:DE (Ext W1 W4):=by rw[KM];exact AI ((Ext.refl _).alloc _)
 clear KM;have RG:=eo;have oy:=kj;have hb3:=hbase;have RH:=AI (RG.below E4.below);have II:W1.heap.size<=W4.heap.size:=E4.size;obtain⟨cs,g1,g2,g3,g4⟩:=RH.out;rw[<-HM.out]at g1 g2;have G1:=AI g1;have G2:=AI g2;have G3:=AI g3;have G4:=AI g4;clear g1 g2 g3 g4 RH RG;refine eZ rfl (Dn 44) (Dn 46) 95 rfl V.heap.size 97 iN (B' eL) 8 80 Cd vu ju jw jy rfl (by decide) (An ru m rc) m (bE cs) rfl G2 ⟨W1.heap.size,0,AF⟩ 1 1 (aq 1 0 0 0 (An AF 0 0)).toList rfl (cO B4) rfl (cL _ _ _ _ _ _ _).2 (by unfold maxLen;omega) (by omega) (by omega) ?_;intro v' w' ho hg kK;have K9:DE (ae (· <V.heap.size) V w'):=AI ((oy.tr (E4.keeps.mono fun x (hx:x<V.heap.size)=>aD hx hb3)).tr (ae.bB hg fun x (hx:x<V.heap.size)=>⟨by omega,fun e=>by have:=(G2.lt x e.symm).1;omega⟩));have R9:DE (cd V.heap.size w' v' (PP.all++ [.nd 1 0 0 0 []])):=AI (cd.push (cs:=cs) (c:=aq 1 0 0 0 (An AF 0 0)) (by rw[<-HM.out];exact G1) G3 G4 (cL _ _ _ _ _ _ _) (aK.leaf _ _ _ _ _ _ _ _) (by rw[<-HM.out];exact ho) hg kK);obtain⟨va',vc',rfl⟩:=ownsRow_form ho;clear ho hg kK;go_wp2;go_roundw;case rel=>
  refine⟨k+1,by omega,by go_num,by rw[HST.out,mM.out, <-uV.out],by rw[HST.out,mM.out, <-lJ.out],by rw[HST.out,mM.out];exact R9,K9⟩
 case measure=>simp[intOf];omega
theorem RM (b off c:Nat) (l:List (Nat×Nat×Nat)) (w:Bm) (hb:b<w.heap.size) (hc:l.length<=c) (iT:l.length<=1000000000000000) (hS:∀ (i:Nat) (s:Nat×Nat×Nat),l[i]? =As s->s.1<256/\s.2.1<256/\s.2.2<256/\w.cell? ⟨b,off+i*3,AF⟩=As (A' GS s.1)/\w.cell? ⟨b,off+i*3+1,AF⟩=As (A' GS s.2.1)/\w.cell? ⟨b,off+i*3+2,AF⟩=As (A' GS s.2.2)):(eC b off c l w hb hc iT hS).C:=by
 have HS:=AI hS;intro iN vu ju jw jy R HR n iT hc N l9 Fm pC Fo pA HN xi xj xm V R0 X0 qR
 intros
 rename_i k hk wo hlt eE s0 s1 s2 PP Jb GY Jc ru rc m r8 uf gr jY HST km HM uV lJ Dv Ao Ap Aq Ar Au W1 B1 eo kj d0 d1 d2 kd GZ kC hbase zf hA hB hC;have a1:¬ ((kd:Int)<4):=by omega
 have a2:((kd:Int)==4)=false:=by simp;omega
 have a3:(kd:Int)<7:=by omega
 have a4:(1:Int)<m:=by omega
 obtain⟨q,hq⟩:=ag (m-2);obtain⟨r,hr⟩:=ag (m-1);have hw2:A_.wrap ((m:Int)-2)=(q:Int):=by rw[AT _ (by omega)];omega
 have hw1:A_.wrap ((m:Int)-1)=(r:Int):=by rw[AT _ (by omega)];omega
 have hqm:q<m:=by omega
 have Vo:r<m:=by omega
 have hqi:(q:Int)<m:=by omega
 have hri:(r:Int)<m:=by omega
 have hx2:PP.all[q]? =As PP.gX:=by unfold dC.gX;rw[<-HM.out, <-hq];exact aW _ (by rw[<-HM.out];exact hqm)
 have hx1:PP.all[r]? =As PP.last:=by unfold dC.last;rw[<-HM.out, <-hr];exact aW _ (by rw[<-HM.out];exact Vo)
 have f2:PP.gX.fine/\PP.gX.size<=1000:=⟨km.fine _ (aw hx2),by have:=oN (aw hx2);have:=km.size;have:=Dv.out;omega⟩;have f1:PP.last.fine/\PP.last.size<=1000:=⟨km.fine _ (aw hx1),by have:=oN (aw hx1);have:=km.size;have:=Dv.out;omega⟩;have hst:PP.step (s0,s1,s2)=⟨PP.all.take q++ [cF 3 PP.gX PP.last],PP.mK,PP.yy⟩:=by unfold dC.step;dsimp only;rw[<-zf.out, <-HM.out,if_neg hA,if_neg hB,if_pos hC];unfold dC.put;rw[<-HM.out, <-hq]
 obtain⟨y2,hy2⟩:=ag PP.gX;obtain⟨y1,KU⟩:=ag PP.last;rw[<-hy2]at hx2 f2 hst;rw[<-KU]at hx1 f1 hst;obtain⟨JJ,Ub⟩:=ag (cF 3 y2 y1);rw[<-Ub]at hst;have mM:=AI hst;obtain⟨g,p2,c2,e9,mQ,hgb,Am,rg2,t2⟩:=eo.iV hx2;subst e9;obtain⟨g',p1,c1,e9,_,_,_,Xf,t1⟩:=eo.iV hx1;cases e9;have Qc:q<=rc:=by omega
 have ahz:(q:Int)<=rc:=by omega
 have F2:=AI f2;have F1:=AI f1;have Zz:=AI rg2;have RP:=AI Xf;have T2:=AI t2;have T1:=AI t1;have HJJ:=AI Ub;have HQ:=AI hq;clear hst hx2 hx1 f2 f1 rg2 Xf t2 t1 hy2 KU Ub hq hr hA hB hC;obtain⟨ka,hka⟩:=ag y2.kind;obtain⟨na,Nq⟩:=ag y2.subs.length;obtain⟨sa,Ki⟩:=ag y2.set;obtain⟨ma,Dt⟩:=ag y2.mn;obtain⟨xa,Xc⟩:=ag y2.mx;obtain⟨kb,hkb⟩:=ag y1.kind;obtain⟨nb,pZ⟩:=ag y1.subs.length;obtain⟨sb,kJ⟩:=ag y1.set;obtain⟨mb,oH⟩:=ag y1.mn;obtain⟨xb,Fl⟩:=ag y1.mx;rw[<-hka, <-Nq, <-Ki, <-Dt, <-Xc]at Zz T2;rw[<-hkb, <-pZ, <-kJ, <-oH, <-Fl]at RP T1;clear hka Nq Ki Dt Xc hkb pZ kJ oH Fl;have CJ:DE (∀ W,Move false (fun _=>False) W1 W->ah 106 #[A' GS 3,B' (aq ka sa ma xa (An p2 na c2)),B' (aq kb sb mb xb (An p1 nb c1))] W fun e w'=>∃ u,e=DP u/\aK (fun x=>V.heap.size<=x/\x<w'.heap.size) w' u JJ/\aa W w'):=AI fun W hW=>by
  have KY:ae (· <W1.heap.size) W1 W:=ae.ai hW.below fun _ h=>h
  rw[HJJ.out];refine(l8 (fun x=>V.heap.size<=x/\x<W1.heap.size) 3 (.inl rfl) _ _ y2 y1 F2.1 F1.1 F2.2 F1.2 W (fun x hx=>aD hx.2 hW.size) ((T2.keeps KY fun x hx=>hx.2.1).mono fun x hx=>⟨hx.1,hx.2.1⟩) ((T1.out.keeps KY fun x hx=>hx.2.1).mono fun x hx=>⟨hx.1,hx.2.1⟩)).mono ?_;rintro e w' ⟨u,he,hu,hb⟩;exact⟨u,he,hu.mono fun x hx=>⟨by have:=hW.size;have:=hbase;rcases hx.2 with h | h;exact h.1;omega,hx.1⟩,hb⟩
 clear F2 F1 T2 T1;go_upto_region 13 with fail
 refine aL false (fun _=>False) (by kernel_rfl) 18 [0,0,2,0,8,31,0,0,128,448,960,0,0,4096,14336,30720,65472,131008,262143,524287] (fun i=>i==16 || i==17 || i==18) (by kernel_rfl) (fun i=>if i=16 then Cw.tree V.heap.size JJ else if i=17 then Cw.box V.heap.size JJ else aX.any _) ?_;intro C hC hne;have HC:=AI hC;clear hC d0 d1 d2
 repeat (refine au (fun K hK=>?_);first | (refine cg rfl ?_;try go_simp;refine hK _ _ ?_;clear hK K) | (refine bV rfl rfl ?_;unfold aF;go_simp;refine hK _ _ ?_;clear hK K))
 refine au (fun K hK=>?_);refine DU rfl rfl (B' (aq ka sa ma xa (An p2 na c2))) (fun W hW hN=>have hM:=(HC.out W).1 hW;jm 97 (Dn 64) rfl (g) (q*8) rfl (aq ka sa ma xa (An p2 na c2)) _ (fJ Zz (ae.ai hM.below fun _ h=>h:ae (· <W1.heap.size) W1 W) Am) AS rfl (dm _ _ _ _ _)) ?_;go_simp;refine hK _ _ ?_;clear hK K
 repeat (refine au (fun K hK=>?_);first | (refine cg rfl ?_;try go_simp;refine hK _ _ ?_;clear hK K) | (refine bV rfl rfl ?_;unfold aF;go_simp;refine hK _ _ ?_;clear hK K))
 refine au (fun K hK=>?_);refine DU rfl rfl (B' (aq kb sb mb xb (An p1 nb c1))) (fun W hW hN=>have hM:=(HC.out W).1 hW;jm 97 (Dn 69) rfl (g) (r*8) rfl (aq kb sb mb xb (An p1 nb c1)) _ (fJ RP (ae.ai hM.below fun _ h=>h:ae (· <W1.heap.size) W1 W) Am) AS rfl (dm _ _ _ _ _)) ?_;go_simp;refine hK _ _ ?_;clear hK K;refine au (fun K hK=>?_);refine ct rfl rfl (Cw.tree V.heap.size JJ) rfl (fun W hW hN=>?_) (fun v hv=>?_)
 ·have hM:=(HC.out W).1 hW
  clear hW hN hK K;go_simp;refine bI ((CJ W hM).mono ?_);rintro e w2 ⟨u,rfl,ht,hx⟩;exact⟨_,rfl,Move.ai hx,ht.form,ht⟩
 obtain⟨pj,cj,rfl⟩:=hv;unfold aq;go_simp;refine hK _ _ ?_;clear hK K;refine au (fun K hK=>?_);refine ct rfl rfl (Cw.box V.heap.size JJ) rfl (fun W hW hN=>?_) (fun v hv=>?_)
 ·have hM:=(HC.out W).1 hW
  have hT:aK (fun x=>V.heap.size<=x/\x<W.heap.size) W (B' (aq JJ.kind JJ.set JJ.mn JJ.mx (An pj JJ.subs.length cj))) JJ:=hN.at 0 rfl (by kernel_rfl);have HT:=AI hT;clear hW hN hK K hT;go_simp;exact⟨Move.ext ((Ext.refl _).alloc _),⟨_,rfl⟩,fun b hb=>by cases hb;exact⟨_,_,ar.new _ _ _,(HT.keeps ((Ext.refl _).alloc _).keeps fun _ hx=>hx.2).mono fun x hx=>by simp;omega⟩⟩
 obtain⟨bz,rfl⟩:=hv;go_simp;refine hK _ _ ?_;clear hK K;refine bM (fun W hW hH=>?_);have hM:=(HC.out W).1 hW;obtain⟨pz,cz,hbz,hjz⟩:∃ p c,ar W bz (aq JJ.kind JJ.set JJ.mn JJ.mx (An p JJ.subs.length c)) 97/\aK (fun x=>V.heap.size<=x/\x<W.heap.size) W (B' (aq JJ.kind JJ.set JJ.mn JJ.mx (An p JJ.subs.length c))) JJ:=(hH _ (aw (show _=As _ from rfl:_[0]? =As _))) bz rfl;have BZ:=AI hbz;have TZ:=AI hjz;have RQ:=AI (eo.below hM.below);have ZA:DE (ae (· <V.heap.size) V W):=AI (kj.tr (ae.ai hM.below fun x (hx:x<V.heap.size)=>aD hx hbase));have hbW:V.heap.size<=W.heap.size:=ZA.size;clear hM hW hH HC hne hbz hjz eo kj Zz RP CJ;obtain⟨cs,g1,g2,g3,g4⟩:=RQ.out;rw[<-HM.out]at g2;have hcs:(cs.take q).length=q:=by rw[AN,g1, <-HM.out];omega
 refine nP rfl (Dn 60) (Dn 72) 95 rfl V.heap.size 97 iN (B' eL) 8 80 Cd vu ju jw jy rfl (by decide) ⟨g,0,AF⟩ q (bE (cs.take q)) rfl (by rw[fY fun c hc=>(g3 c (Dl hc)).1,hcs]) (fun j u hj=>g2.cells (g:=g) rfl _ _ (uy hj)) ⟨bz,0,AF⟩ 1 1 (aq JJ.kind JJ.set JJ.mn JJ.mx (An pz JJ.subs.length cz)).toList rfl (cO BZ) rfl (by decide) (by unfold maxLen;omega) (by omega) hbW ?_;intro v' w' ho hx hv';have R9:DE (cd V.heap.size w' v' (PP.all.take q++ [JJ])):=AI (cd.fresh (cs:=cs) (c:=aq JJ.kind JJ.set JJ.mn JJ.mx (An pz JJ.subs.length cz)) (by rw[<-HM.out];omega) g1 g3 (fun i c t hi ht=>(g4 i c t hi ht).mono fun x hx=>⟨hx.1,hx.2.1⟩) (cL _ _ _ _ _ _ _) TZ ho hx hv');have K9:DE (ae (· <V.heap.size) V w'):=AI (ZA.tr (ae.ai hx fun x (hx:x<V.heap.size)=>aD hx hbW));obtain⟨va',vc',rfl⟩:=ownsRow_form ho;clear ho hx hv' g1 g2 g3 g4 hcs RQ BZ TZ ZA;go_wp2;go_roundw;case rel=>
  refine⟨k+1,by omega,by go_num,by rw[HST.out,mM.out, <-uV.out],by rw[HST.out,mM.out, <-lJ.out],?_,K9⟩;rw[HST.out,mM.out];have e8:(PP.all.take q++ [JJ]).length=q+1:=by rw[aJ,AN, <-HM.out];simp;omega
  exact R9
 case measure=>simp[intOf];omega
theorem RS (b off c:Nat) (l:List (Nat×Nat×Nat)) (w:Bm) (hb:b<w.heap.size) (hc:l.length<=c) (iT:l.length<=1000000000000000) (hS:∀ (i:Nat) (s:Nat×Nat×Nat),l[i]? =As s->s.1<256/\s.2.1<256/\s.2.2<256/\w.cell? ⟨b,off+i*3,AF⟩=As (A' GS s.1)/\w.cell? ⟨b,off+i*3+1,AF⟩=As (A' GS s.2.1)/\w.cell? ⟨b,off+i*3+2,AF⟩=As (A' GS s.2.2)):(eC b off c l w hb hc iT hS).D:=by
 have HS:=AI hS;intro iN vu ju jw jy R HR n iT hc N l9 Fm pC Fo pA HN xi xj xm V R0 X0 qR
 intros
 rename_i k hk wo hlt eE s0 s1 s2 PP Jb GY Jc ru rc m r8 uf gr jY HST km HM uV lJ Dv Ao Ap Aq Ar Au W1 B1 eo kj d0 d1 d2 kd GZ kC hbase zf hA hB hC hD;have a1:¬ ((kd:Int)<4):=by omega
 have a2:((kd:Int)==4)=false:=by simp;omega
 have a3:¬ ((kd:Int)<7):=by omega
 have a4:(1:Int)<m:=by omega
 have a5:(kd:Int)<9:=by omega
 obtain⟨q,hq⟩:=ag (m-2);obtain⟨r,hr⟩:=ag (m-1);have hw2:A_.wrap ((m:Int)-2)=(q:Int):=by rw[AT _ (by omega)];omega
 have hw1:A_.wrap ((m:Int)-1)=(r:Int):=by rw[AT _ (by omega)];omega
 have hqm:q<m:=by omega
 have Vo:r<m:=by omega
 have hqi:(q:Int)<m:=by omega
 have hri:(r:Int)<m:=by omega
 have hx2:PP.all[q]? =As PP.gX:=by unfold dC.gX;rw[<-HM.out, <-hq];exact aW _ (by rw[<-HM.out];exact hqm)
 have hx1:PP.all[r]? =As PP.last:=by unfold dC.last;rw[<-HM.out, <-hr];exact aW _ (by rw[<-HM.out];exact Vo)
 have f2:PP.gX.fine/\PP.gX.size<=1000:=⟨km.fine _ (aw hx2),by have:=oN (aw hx2);have:=km.size;have:=Dv.out;omega⟩;have f1:PP.last.fine/\PP.last.size<=1000:=⟨km.fine _ (aw hx1),by have:=oN (aw hx1);have:=km.size;have:=Dv.out;omega⟩;have hst:PP.step (s0,s1,s2)=⟨PP.all.take q++ [cF 4 PP.gX PP.last],PP.mK,PP.yy⟩:=by unfold dC.step;dsimp only;rw[<-zf.out, <-HM.out,if_neg hA,if_neg hB,if_neg hC,if_pos hD];unfold dC.put;rw[<-HM.out, <-hq]
 obtain⟨y2,hy2⟩:=ag PP.gX;obtain⟨y1,KU⟩:=ag PP.last;rw[<-hy2]at hx2 f2 hst;rw[<-KU]at hx1 f1 hst;obtain⟨JJ,Ub⟩:=ag (cF 4 y2 y1);rw[<-Ub]at hst;have mM:=AI hst;obtain⟨g,p2,c2,e9,mQ,hgb,Am,rg2,t2⟩:=eo.iV hx2;subst e9;obtain⟨g',p1,c1,e9,_,_,_,Xf,t1⟩:=eo.iV hx1;cases e9;have Qc:q<=rc:=by omega
 have ahz:(q:Int)<=rc:=by omega
 have F2:=AI f2;have F1:=AI f1;have Zz:=AI rg2;have RP:=AI Xf;have T2:=AI t2;have T1:=AI t1;have HJJ:=AI Ub;have HQ:=AI hq;clear hst hx2 hx1 f2 f1 rg2 Xf t2 t1 hy2 KU Ub hq hr hA hB hC hD;obtain⟨ka,hka⟩:=ag y2.kind;obtain⟨na,Nq⟩:=ag y2.subs.length;obtain⟨sa,Ki⟩:=ag y2.set;obtain⟨ma,Dt⟩:=ag y2.mn;obtain⟨xa,Xc⟩:=ag y2.mx;obtain⟨kb,hkb⟩:=ag y1.kind;obtain⟨nb,pZ⟩:=ag y1.subs.length;obtain⟨sb,kJ⟩:=ag y1.set;obtain⟨mb,oH⟩:=ag y1.mn;obtain⟨xb,Fl⟩:=ag y1.mx;rw[<-hka, <-Nq, <-Ki, <-Dt, <-Xc]at Zz T2;rw[<-hkb, <-pZ, <-kJ, <-oH, <-Fl]at RP T1;clear hka Nq Ki Dt Xc hkb pZ kJ oH Fl;have CJ:DE (∀ W,Move false (fun _=>False) W1 W->ah 106 #[A' GS 4,B' (aq ka sa ma xa (An p2 na c2)),B' (aq kb sb mb xb (An p1 nb c1))] W fun e w'=>∃ u,e=DP u/\aK (fun x=>V.heap.size<=x/\x<w'.heap.size) w' u JJ/\aa W w'):=AI fun W hW=>by
  have KY:ae (· <W1.heap.size) W1 W:=ae.ai hW.below fun _ h=>h
  rw[HJJ.out];refine(l8 (fun x=>V.heap.size<=x/\x<W1.heap.size) 4 (.inr rfl) _ _ y2 y1 F2.1 F1.1 F2.2 F1.2 W (fun x hx=>aD hx.2 hW.size) ((T2.keeps KY fun x hx=>hx.2.1).mono fun x hx=>⟨hx.1,hx.2.1⟩) ((T1.out.keeps KY fun x hx=>hx.2.1).mono fun x hx=>⟨hx.1,hx.2.1⟩)).mono ?_;rintro e w' ⟨u,he,hu,hb⟩;exact⟨u,he,hu.mono fun x hx=>⟨by have:=hW.size;have:=hbase;rcases hx.2 with h | h;exact h.1;omega,hx.1⟩,hb⟩
 clear F2 F1 T2 T1;go_upto_region 15 with fail
 refine aL false (fun _=>False) (by kernel_rfl) 18 [0,0,2,0,8,31,0,0,128,448,960,0,0,4096,14336,30720,65472,131008,262143,524287] (fun i=>i==16 || i==17 || i==18) (by kernel_rfl) (fun i=>if i=16 then Cw.tree V.heap.size JJ else if i=17 then Cw.box V.heap.size JJ else aX.any _) ?_;intro C hC hne;have HC:=AI hC;clear hC d0 d1 d2
 repeat (refine au (fun K hK=>?_);first | (refine cg rfl ?_;try go_simp;refine hK _ _ ?_;clear hK K) | (refine bV rfl rfl ?_;unfold aF;go_simp;refine hK _ _ ?_;clear hK K))
 refine au (fun K hK=>?_);refine DU rfl rfl (B' (aq ka sa ma xa (An p2 na c2))) (fun W hW hN=>have hM:=(HC.out W).1 hW;jm 97 (Dn 90) rfl (g) (q*8) rfl (aq ka sa ma xa (An p2 na c2)) _ (fJ Zz (ae.ai hM.below fun _ h=>h:ae (· <W1.heap.size) W1 W) Am) AS rfl (dm _ _ _ _ _)) ?_;go_simp;refine hK _ _ ?_;clear hK K
 repeat (refine au (fun K hK=>?_);first | (refine cg rfl ?_;try go_simp;refine hK _ _ ?_;clear hK K) | (refine bV rfl rfl ?_;unfold aF;go_simp;refine hK _ _ ?_;clear hK K))
 refine au (fun K hK=>?_);refine DU rfl rfl (B' (aq kb sb mb xb (An p1 nb c1))) (fun W hW hN=>have hM:=(HC.out W).1 hW;jm 97 (Dn 95) rfl (g) (r*8) rfl (aq kb sb mb xb (An p1 nb c1)) _ (fJ RP (ae.ai hM.below fun _ h=>h:ae (· <W1.heap.size) W1 W) Am) AS rfl (dm _ _ _ _ _)) ?_;go_simp;refine hK _ _ ?_;clear hK K;refine au (fun K hK=>?_);refine ct rfl rfl (Cw.tree V.heap.size JJ) rfl (fun W hW hN=>?_) (fun v hv=>?_)
 ·have hM:=(HC.out W).1 hW
  clear hW hN hK K;go_simp;refine bI ((CJ W hM).mono ?_);rintro e w2 ⟨u,rfl,ht,hx⟩;exact⟨_,rfl,Move.ai hx,ht.form,ht⟩
 obtain⟨pj,cj,rfl⟩:=hv;unfold aq;go_simp;refine hK _ _ ?_;clear hK K;refine au (fun K hK=>?_);refine ct rfl rfl (Cw.box V.heap.size JJ) rfl (fun W hW hN=>?_) (fun v hv=>?_)
 ·have hM:=(HC.out W).1 hW
  have hT:aK (fun x=>V.heap.size<=x/\x<W.heap.size) W (B' (aq JJ.kind JJ.set JJ.mn JJ.mx (An pj JJ.subs.length cj))) JJ:=hN.at 0 rfl (by kernel_rfl);have HT:=AI hT;clear hW hN hK K hT;go_simp;exact⟨Move.ext ((Ext.refl _).alloc _),⟨_,rfl⟩,fun b hb=>by cases hb;exact⟨_,_,ar.new _ _ _,(HT.keeps ((Ext.refl _).alloc _).keeps fun _ hx=>hx.2).mono fun x hx=>by simp;omega⟩⟩
 obtain⟨bz,rfl⟩:=hv;go_simp;refine hK _ _ ?_;clear hK K;refine bM (fun W hW hH=>?_);have hM:=(HC.out W).1 hW;obtain⟨pz,cz,hbz,hjz⟩:∃ p c,ar W bz (aq JJ.kind JJ.set JJ.mn JJ.mx (An p JJ.subs.length c)) 97/\aK (fun x=>V.heap.size<=x/\x<W.heap.size) W (B' (aq JJ.kind JJ.set JJ.mn JJ.mx (An p JJ.subs.length c))) JJ:=(hH _ (aw (show _=As _ from rfl:_[0]? =As _))) bz rfl;have BZ:=AI hbz;have TZ:=AI hjz;have RQ:=AI (eo.below hM.below);have ZA:DE (ae (· <V.heap.size) V W):=AI (kj.tr (ae.ai hM.below fun x (hx:x<V.heap.size)=>aD hx hbase));have hbW:V.heap.size<=W.heap.size:=ZA.size;clear hM hW hH HC hne hbz hjz eo kj Zz RP CJ;obtain⟨cs,g1,g2,g3,g4⟩:=RQ.out;rw[<-HM.out]at g2;have hcs:(cs.take q).length=q:=by rw[AN,g1, <-HM.out];omega
 refine nP rfl (Dn 86) (Dn 98) 95 rfl V.heap.size 97 iN (B' eL) 8 80 Cd vu ju jw jy rfl (by decide) ⟨g,0,AF⟩ q (bE (cs.take q)) rfl (by rw[fY fun c hc=>(g3 c (Dl hc)).1,hcs]) (fun j u hj=>g2.cells (g:=g) rfl _ _ (uy hj)) ⟨bz,0,AF⟩ 1 1 (aq JJ.kind JJ.set JJ.mn JJ.mx (An pz JJ.subs.length cz)).toList rfl (cO BZ) rfl (by decide) (by unfold maxLen;omega) (by omega) hbW ?_;intro v' w' ho hx hv';have R9:DE (cd V.heap.size w' v' (PP.all.take q++ [JJ])):=AI (cd.fresh (cs:=cs) (c:=aq JJ.kind JJ.set JJ.mn JJ.mx (An pz JJ.subs.length cz)) (by rw[<-HM.out];omega) g1 g3 (fun i c t hi ht=>(g4 i c t hi ht).mono fun x hx=>⟨hx.1,hx.2.1⟩) (cL _ _ _ _ _ _ _) TZ ho hx hv');have K9:DE (ae (· <V.heap.size) V w'):=AI (ZA.tr (ae.ai hx fun x (hx:x<V.heap.size)=>aD hx hbW));obtain⟨va',vc',rfl⟩:=ownsRow_form ho;clear ho hx hv' g1 g2 g3 g4 hcs RQ BZ TZ ZA;go_wp2;go_roundw;case rel=>
  refine⟨k+1,by omega,by go_num,by rw[HST.out,mM.out, <-uV.out],by rw[HST.out,mM.out, <-lJ.out],?_,K9⟩;rw[HST.out,mM.out];have e8:(PP.all.take q++ [JJ]).length=q+1:=by rw[aJ,AN, <-HM.out];simp;omega
  exact R9
 case measure=>simp[intOf];omega
theorem RU (b off c:Nat) (l:List (Nat×Nat×Nat)) (w:Bm) (hb:b<w.heap.size) (hc:l.length<=c) (iT:l.length<=1000000000000000) (hS:∀ (i:Nat) (s:Nat×Nat×Nat),l[i]? =As s->s.1<256/\s.2.1<256/\s.2.2<256/\w.cell? ⟨b,off+i*3,AF⟩=As (A' GS s.1)/\w.cell? ⟨b,off+i*3+1,AF⟩=As (A' GS s.2.1)/\w.cell? ⟨b,off+i*3+2,AF⟩=As (A' GS s.2.2)):(eC b off c l w hb hc iT hS).E:=by
 have HS:=AI hS;intro iN vu ju jw jy R HR n iT hc N l9 Fm pC Fo pA HN xi xj xm V R0 X0 qR
 intros
 rename_i k hk wo hlt eE s0 s1 s2 PP Jb GY Jc ru rc m r8 uf gr jY HST km HM uV lJ Dv Ao Ap Aq Ar Au W1 B1 eo kj d0 d1 d2 kd GZ kC hbase zf hA hB hC hD hE;have a1:¬ ((kd:Int)<4):=by omega
 have a2:((kd:Int)==4)=false:=by simp;omega
 have a3:¬ ((kd:Int)<7):=by omega
 have a5:¬ ((kd:Int)<9):=by omega
 have a6:((kd:Int)==9)=true:=by simp[hE.1]
 have a8:(0:Int)<m:=by omega
 have a9:(gr:Int)<9:=by omega
 obtain⟨r,hr⟩:=ag (m-1);have hw1:A_.wrap ((m:Int)-1)=(r:Int):=by rw[AT _ (by omega)];omega
 have Vo:r<m:=by omega
 have hri:(r:Int)<m:=by omega
 have hx1:PP.all[r]? =As PP.last:=by unfold dC.last;rw[<-HM.out, <-hr];exact aW _ (by rw[<-HM.out];exact Vo)
 obtain⟨y1,KU⟩:=ag PP.last;rw[<-KU]at hx1;have hst:PP.step (s0,s1,s2)=⟨PP.all.take r++ [.nd 6 0 0 0 [y1]],PP.mK,PP.yy+1⟩:=by unfold dC.step;dsimp only;rw[<-zf.out, <-HM.out, <-lJ.out,if_neg hA,if_neg hB,if_neg hC,if_neg hD,if_pos hE];unfold dC.put;rw[<-HM.out, <-hr, <-KU]
 have mM:=AI hst;clear hst KU hA hB hC hD hE;obtain⟨g,p1,c1,e9,RV,mQ,hgb,Am,⟨f0,f1,f2,f3,f4,f5,f6,f7⟩,t1⟩:=eo.elem hx1;subst e9;have T1:=AI t1;clear t1;obtain⟨kb,hkb⟩:=ag y1.kind;obtain⟨nb,pZ⟩:=ag y1.subs.length;obtain⟨sb,kJ⟩:=ag y1.set;obtain⟨mb,oH⟩:=ag y1.mn;obtain⟨xb,Fl⟩:=ag y1.mx;rw[<-hkb]at f0;rw[<-kJ]at f1 f2 f3 f4;rw[<-oH]at f5;rw[<-Fl]at f6;rw[<-pZ]at f7;rw[<-hkb, <-pZ, <-kJ, <-oH, <-Fl]at T1;have HKB:=AI hkb;have ahA:=AI hx1;have Yo:=AI hr;clear hkb pZ kJ oH Fl hx1 hr RV;have hgw:A_.wrap ((gr:Int)+1)=((gr+1:Nat):Int):=by rw[AT _ (by omega)];omega
 go_wp2_with fail
 refine(Fk _ y1 (fun x=>V.heap.size<=x/\x<W1.heap.size/\x≠g) W1 (fun x hx=>hx.2.1) T1.out).mono ?_;rintro e W2 ⟨u,rfl,hu,hx2⟩;have HU:=AI hu;obtain⟨pu,cu,rfl⟩:=hu.form;have Fq:=AI (eo.below hx2);have gF:DE (ae (· <V.heap.size) V W2):=AI (kj.tr (ae.ai hx2 fun x (hx:x<V.heap.size)=>aD hx hbase));obtain⟨cs,q1,q2,q3,q4⟩:=Fq.out;rw[<-HM.out]at q2;have kc:∀ (o:Nat) (v:Value),W1.cell? ⟨g,o,AF⟩=As v->W2.cell? ⟨g,o,AF⟩=As v:=fun o v h=>((ae.ai hx2 fun _ h=>h:ae (· <W1.heap.size) W1 W2).cell (p:=⟨g,o,AF⟩) Am).trans h
 replace f0:=kc _ _ f0;replace f1:=kc _ _ f1;replace f2:=kc _ _ f2;replace f3:=kc _ _ f3;replace f4:=kc _ _ f4;replace f5:=kc _ _ f5;replace f6:=kc _ _ f6;replace f7:=kc _ _ f7;have z0:W2.frozen? ⟨g,r*8,AF⟩=false:=q2.frozenAt _;have z1:W2.frozen? ⟨g,r*8+1,AF⟩=false:=q2.frozenAt _;have z2:W2.frozen? ⟨g,r*8+2,AF⟩=false:=q2.frozenAt _;have z3:W2.frozen? ⟨g,r*8+3,AF⟩=false:=q2.frozenAt _;have z4:W2.frozen? ⟨g,r*8+4,AF⟩=false:=q2.frozenAt _;have z5:W2.frozen? ⟨g,r*8+5,AF⟩=false:=q2.frozenAt _;have z6:W2.frozen? ⟨g,r*8+6,AF⟩=false:=q2.frozenAt _;have z7:W2.frozen? ⟨g,r*8+7,AF⟩=false:=q2.frozenAt _;have Q1:=AI q1;have Q2:=AI q2;have Q3:=AI q3;have Q4:=AI q4;have ahB:V.heap.size<=g:=hgb;have hs2:W1.heap.size<=W2.heap.size:=hx2.size;clear hu hx2 kc q1 q2 q3 q4 Fq eo kj d0 d1 d2 B1;simp only[RX.kind,RX.set,RX.mn,RX.mx,RX.subs,D_,E_,GF]at HU ⊢;unfold aq;go_upto_region 18 with fail
 refine aA ?_;intro W3 hW3;have K3:DE (ae (· ≠g) W2 W3):=by rw[hW3];exact AI (((((((((ae.refl _ _).setCell (fun e=>e rfl) _).setCell (fun e=>e rfl) _).setCell (fun e=>e rfl) _).setCell (fun e=>e rfl) _).setCell (fun e=>e rfl) _).setCell (fun e=>e rfl) _).setCell (fun e=>e rfl) _).setCell (fun e=>e rfl) _)
 have R9:DE (cd V.heap.size W3 (An (As ⟨g,0,AF⟩) m rc) (PP.all.set r (.nd 6 0 0 0 [y1]))):=by
  rw[hW3,HM.out];refine AI (cd.turned (by rw[<-HM.out];exact Vo) Q1 (by rw[<-HM.out];exact Q2) Q3 (fun i c t hi ht=>(Q4 i c t hi ht).mono fun x hx=>⟨hx.1,hx.2.1,fun e=>hx.2.2 (by rw[e];rfl)⟩) ?_ ?_)
  ·exact(cL _ _ _ _ _ _ _).2
  ·exact HU.mono fun x hx=>⟨by rcases hx.2 with h | h;exact h.1;omega,hx.1,fun e=>by rcases hx.2 with h | h;exact h.2.2 e;omega⟩
 have K9:DE (ae (· <V.heap.size) V W3):=AI (gF.tr (K3.mono fun x (hx:x<V.heap.size)=>by show x≠g;omega));clear hW3 f0 f1 f2 f3 f4 f5 f6 f7 z0 z1 z2 z3 z4 z5 z6 z7 Q1 Q2 Q3 Q4 HU gF K3;have pq:PP.all.set r (.nd 6 0 0 0 [y1])=PP.all.take r++ [.nd 6 0 0 0 [y1]]:=by
  have e:=lD (l:=PP.all) (by rw[<-HM.out];omega);rw[<-HM.out, <-Yo.out]at e
  conv=>lhs;rw[e]
  rw[FF _ _ (by rw[AN];omega),AN,Ft (by rw[<-HM.out];omega),DH];rfl
 have Hy:=AI pq;clear pq;go_wp2;go_roundw;case rel=>
  refine⟨k+1,by omega,by go_num,?_,?_,?_,K9⟩
  ·have e7:(jl (l.take (k+1))).mK=uf:=by rw[HST.out,mM.out];exact uV.symm
   rw[e7]
   try rfl
   try go_num
  ·have e7:(jl (l.take (k+1))).yy=gr+1:=by rw[HST.out,mM.out];rw[lJ.out]
   rw[e7]
   try rfl
   try go_num
  ·rw[HST.out,mM.out, <-Hy.out]
   have e8:(PP.all.set r (.nd 6 0 0 0 [y1])).length=m:=by rw[GW];exact HM.symm
   exact R9
 case measure=>simp[intOf];omega
theorem RY (b off c:Nat) (l:List (Nat×Nat×Nat)) (w:Bm) (hb:b<w.heap.size) (hc:l.length<=c) (iT:l.length<=1000000000000000) (hS:∀ (i:Nat) (s:Nat×Nat×Nat),l[i]? =As s->s.1<256/\s.2.1<256/\s.2.2<256/\w.cell? ⟨b,off+i*3,AF⟩=As (A' GS s.1)/\w.cell? ⟨b,off+i*3+1,AF⟩=As (A' GS s.2.1)/\w.cell? ⟨b,off+i*3+2,AF⟩=As (A' GS s.2.2)):(eC b off c l w hb hc iT hS).G:=by
 have HS:=AI hS;intro iN vu ju jw jy R HR n iT hc N l9 Fm pC Fo pA HN xi xj xm V R0 X0 qR
 intros
 rename_i k hk wo hlt eE s0 s1 s2 PP Jb GY Jc ru rc m r8 uf gr jY HST km HM uV lJ Dv Ao Ap Aq Ar Au W1 B1 eo kj d0 d1 d2 kd GZ kC hbase zf hA hB hC hD hE hG;have a1:¬ ((kd:Int)<4):=by omega
 have a2:((kd:Int)==4)=false:=by simp;omega
 have a3:¬ ((kd:Int)<7):=by omega
 have a5:¬ ((kd:Int)<9):=by omega
 have a6:((kd:Int)==9)=false:=by simp;omega
 have a7:(9:Int)<kd:=by omega
 have a8:(0:Int)<m:=by omega
 obtain⟨r,hr⟩:=ag (m-1);have hw1:A_.wrap ((m:Int)-1)=(r:Int):=by rw[AT _ (by omega)];omega
 have Vo:r<m:=by omega
 have hri:(r:Int)<m:=by omega
 have hx1:PP.all[r]? =As PP.last:=by unfold dC.last;rw[<-HM.out, <-hr];exact aW _ (by rw[<-HM.out];exact Vo)
 obtain⟨y1,KU⟩:=ag PP.last;rw[<-KU]at hx1;have Fp:PP.step (s0,s1,s2)=if 9<kd/\0<m/\y1.kind≠1 then(if PP.mK*iD s1 s2<=16 then⟨PP.put 1 (.nd 5 0 (fe s1) (jT s1 s2) [y1]),PP.mK*iD s1 s2,PP.yy⟩else PP)else PP:=by unfold dC.step;dsimp only;rw[<-zf.out, <-HM.out,if_neg hA,if_neg hB,if_neg hC,if_neg hD, <-lJ.out,if_neg hE, <-KU]
 obtain⟨g,p1,c1,e9,RV,mQ,hgb,Am,⟨f0,f1,f2,f3,f4,f5,f6,f7⟩,t1⟩:=eo.elem hx1;subst e9;have T1:=AI t1;clear t1;obtain⟨kb,hkb⟩:=ag y1.kind;obtain⟨nb,pZ⟩:=ag y1.subs.length;obtain⟨sb,kJ⟩:=ag y1.set;obtain⟨mb,oH⟩:=ag y1.mn;obtain⟨xb,Fl⟩:=ag y1.mx;rw[<-hkb]at f0;rw[<-kJ]at f1 f2 f3 f4;rw[<-oH]at f5;rw[<-Fl]at f6;rw[<-pZ]at f7;rw[<-hkb, <-pZ, <-kJ, <-oH, <-Fl]at T1;have HKB:=AI hkb;have ahA:=AI hx1;have Yo:=AI hr;clear hkb pZ kJ oH Fl hx1 hr RV;have Xf:W1.rangeAt g (r*8) (aq kb sb mb xb (An p1 nb c1)).toList:=fun j v hj=>by
  have hl:=(AM.1 hj).1;have h8:(aq kb sb mb xb (An p1 nb c1)).toList.length=8:=rfl;rw[h8]at hl;have hc:j=0\/j=1\/j=2\/j=3\/j=4\/j=5\/j=6\/j=7:=by omega
  rcases hc with rfl | rfl | rfl | rfl | rfl | rfl | rfl | rfl<;>cases hj<;>assumption
 have RP:=AI Xf;clear Xf;by_cases lM:kb=1
 ·have b0:((kb:Int)==1)=true:=by simp[lM]
  have b0':((kb:Int) != 1)=false:=by simp[lM]
  have hst:PP.step (s0,s1,s2)=PP:=by rw[Fp,if_neg (fun h=>h.2.2 (by rw[<-HKB.out];exact lM))]
  have mM:=AI hst;clear hst Fp KU hA hB hC hD hE hG lM;go_wp2;go_roundw;case rel=>
   refine⟨k+1,by omega,by go_num,by rw[HST.out,mM.out, <-uV.out],by rw[HST.out,mM.out, <-lJ.out],by rw[HST.out,mM.out];exact eo,kj⟩
  case measure=>simp[intOf];omega
 ·have b0:((kb:Int)==1)=false:=by simp;omega
  have b0':((kb:Int) != 1)=true:=by simp;omega
  rw[if_pos ⟨hG.1,hG.2,by rw[<-HKB.out];exact lM⟩]at Fp;have adf:=AI Fp;obtain⟨n3,GV⟩:=ag (s1%3);obtain⟨m4,uw⟩:=ag (s2%4);have aoh:n3<3:=by omega
  have aoi:m4<4:=by omega
  have aoj:Int.tmod (s1:Int) 3=(n3:Int):=by rw[DQ (by omega)];omega
  have aok:Int.tmod (s2:Int) 4=(m4:Int):=by rw[DQ (by omega)];omega
  have aol:A_.wrap (n3:Int)=(n3:Int):=AT _ (by omega);have aom:A_.wrap (m4:Int)=(m4:Int):=AT _ (by omega);have Mh:=Nr s1 s2;obtain⟨T,TH⟩:=ag (iD s1 s2);have HTS:DE (max (max (fe s1:Int) (jT s1 s2)) 1=(iD s1 s2:Int)):=AI Mh.2.2;have ahC:1<=T/\T<=3:=by omega
  obtain⟨UT,hUT⟩:=ag (uf*T);have aoo:(uf:Int)*(T:Int)=(UT:Int):=by rw[hUT];simp
  have akB:UT<=48:=by rw[hUT];exact GC (Nat.mul_le_mul jY ahC.2) (by decide)
  have aop:A_.wrap ((UT:Nat):Int)=(UT:Int):=AT _ (by omega);have HN3:=AI GV;have Zb:=AI uw;have Vp:=AI TH;have HUT:=AI hUT;clear Fp KU hA hB hC hD hE hG lM GV uw Mh TH hUT;go_upto_region 20 with fail
  refine aL false (fun _=>False) (by kernel_rfl) 9 [0,1,3,7,0,16,48,112,15,511] (fun i=>i==99) (by kernel_rfl) (fun _=>aX.any _) ?_;intro C hC hne;have HC:=AI hC;have q1:=aC hC (p:=⟨wo.heap.size,1,AF⟩) B1.lt (fun h=>h) d1;have q2:=aC hC (p:=⟨wo.heap.size,2,AF⟩) B1.lt (fun h=>h) d2;clear hC
  repeat (refine au (fun K hK=>?_);first | (refine cg rfl ?_;try go_simp;refine hK _ _ ?_;clear hK K) | (refine bV rfl rfl ?_;unfold aF;go_simp;refine hK _ _ ?_;clear hK K))
  refine bM (fun W hW hH=>?_);have hM:=(HC.out W).1 hW;have KY:ae (· <W1.heap.size) W1 W:=ae.ai hM.below fun _ h=>h
  have eo:=AI (eo.below hM.below);have kj:DE (ae (· <V.heap.size) V W):=AI (kj.tr (KY.mono fun x (hx:x<V.heap.size)=>aD hx hbase));have s7:W1.heap.size<=W.heap.size:=hM.size;have hbase:V.heap.size<=W.heap.size:=kj.size;have T1:DE (aK (fun x=>V.heap.size<=x/\x<W.heap.size/\x≠g) W (B' (aq kb sb mb xb (An p1 nb c1))) y1):=AI ((T1.out.keeps KY fun x hx=>hx.2.1).mono fun x hx=>⟨hx.1,by have:=hx.2.1;omega,hx.2.2⟩);have RP:=AI (fJ RP KY Am);have kw:∀ (o:Nat) (v:Value),W1.cell? ⟨g,o,AF⟩=As v->W.cell? ⟨g,o,AF⟩=As v:=fun o v h=>(KY.cell (p:=⟨g,o,AF⟩) Am).trans h
  replace f0:=kw _ _ f0;replace f1:=kw _ _ f1;replace f2:=kw _ _ f2;replace f3:=kw _ _ f3;replace f4:=kw _ _ f4;replace f5:=kw _ _ f5;replace f6:=kw _ _ f6;replace f7:=kw _ _ f7;have Am:g<W.heap.size:=by omega
  clear hM KY kw hW hH HC hne q1 q2 d0 d1 d2 B1;obtain⟨mv,Pp⟩:=ag (jT s1 s2:Int);have adg:mv=if m4<n3\/m4=0\/(n3=1/\m4=1)then-1 else(m4:Int):=by rw[Pp];unfold jT fe;rw[<-HN3.out, <-Zb.out]
  have HMV:=AI Pp;have adh:=AI adg;clear Pp adg;go_upto_region 21 with fail
  go_cut [161] from 147 to 161 (fun b wx=>b=Gz (decide (m4<n3\/m4=0\/(n3=1/\m4=1)))/\wx=W)
  case first=>
   by_cases b1:m4<n3
   ·have b1i:(m4:Int)<n3:=by omega
    have D:=AI (decide_eq_true (.inl b1:m4<n3\/m4=0\/(n3=1/\m4=1)));clear b1;go_wp2_with fail
    go_meet
    exact⟨by rw[D.out],rfl⟩
   ·have b1i:¬ ((m4:Int)<n3):=by omega
    by_cases b2:m4=0
    ·have b2i:((m4:Int)==0)=true:=by simp[b2]
     have D:=AI (decide_eq_true (.inr (.inl b2):m4<n3\/m4=0\/(n3=1/\m4=1)));clear b1 b2;go_wp2_with fail
     go_meet
     exact⟨by rw[D.out],rfl⟩
    ·have b2i:((m4:Int)==0)=false:=by simp;omega
     by_cases b3:n3=1
     ·have b3i:((n3:Int)==1)=true:=by simp[b3]
      by_cases b4:m4=1
      ·have b4i:((m4:Int)==1)=true:=by simp[b4]
       have D:=AI (decide_eq_true (.inr (.inr ⟨b3,b4⟩):m4<n3\/m4=0\/(n3=1/\m4=1)));clear b1 b2 b3 b4;go_wp2_with fail
       go_meet
       exact⟨by rw[D.out],rfl⟩
      ·have b4i:((m4:Int)==1)=false:=by simp;omega
       have D:=AI (decide_eq_false (by omega:¬ (m4<n3\/m4=0\/(n3=1/\m4=1))));clear b1 b2 b3 b4;go_wp2_with fail
       go_meet
       exact⟨by rw[D.out],rfl⟩
     ·have b3i:((n3:Int)==1)=false:=by simp;omega
      have D:=AI (decide_eq_false (by omega:¬ (m4<n3\/m4=0\/(n3=1/\m4=1))));clear b1 b2 b3;go_wp2_with fail
      go_meet
      exact⟨by rw[D.out],rfl⟩
  case rest=>
  obtain⟨rfl,hwc⟩:=hcut;replace hwc:=hwc.symm;subst hwc
  go_upto_if 161 with fail
  go_cut [11] from 161 to 161 (fun x wx=>x=A' A_ mv/\wx=W)
  case first=>
   by_cases e:m4<n3\/m4=0\/(n3=1/\m4=1)
   ·have d:=decide_eq_true e
    go_wp2_with fail
    go_meet
    exact⟨by rw[adh.out,if_pos e],rfl⟩
   ·have d:=decide_eq_false e
    go_wp2_with fail
    go_meet
    exact⟨by rw[adh.out,if_neg e],rfl⟩
  case rest=>
  obtain⟨rfl,hwc⟩:=hcut;replace hwc:=hwc.symm;subst hwc;have hT3:=HTS.out;rw[<-HMV.out]at hT3;have adi:max (max (n3:Int) mv) 1=(T:Int):=by rw[HN3.out,Vp.out];exact hT3
  have Vi:=(Vn (n3:Int) mv).trans adi;have ZE:DE (jT s1 s2=mv):=AI HMV.symm;clear hT3 adi;by_cases El:UT<=16
  ·have QK:(UT:Int)<=16:=by omega
   have hst:PP.step (s0,s1,s2)=⟨PP.all.take r++ [.nd 5 0 (n3:Int) mv [y1]],UT,PP.yy⟩:=by
    rw[adf.out,if_pos (by rw[<-Vp.out, <-uV.out, <-HUT.out];exact El),ZE.out];have e1:((fe s1:Nat):Int)=(n3:Int):=by unfold fe;rw[HN3.out]
    rw[e1, <-Vp.out, <-uV.out, <-HUT.out];unfold dC.put;rw[<-HM.out, <-Yo.out]
   have mM:=AI hst;clear hst El;go_wp2_with (first | (refine xh rfl 97 (Dn 178) rfl g (r*8) rfl (aq kb sb mb xb (An p1 nb c1)) _ RP AS rfl (dm _ _ _ _ _) ?_) | (go_at_call 108;refine Hid.out ?_));refine AI ?_;refine(Np _ y1 (n3:Int) mv (fun x=>V.heap.size<=x/\x<W.heap.size/\x≠g) W (fun x hx=>hx.2.1) T1.out).mono ?_;rintro e W2 ⟨u,rfl,hu,hx2⟩;have HU:=AI hu;obtain⟨pu,cu,rfl⟩:=hu.form;have Fq:=AI (eo.below hx2);have gF:DE (ae (· <V.heap.size) V W2):=AI (kj.tr (ae.ai hx2 fun x (hx:x<V.heap.size)=>aD hx hbase));obtain⟨cs,q1,q2,q3,q4⟩:=Fq.out;rw[<-HM.out]at q2;have kc:∀ (o:Nat) (v:Value),W.cell? ⟨g,o,AF⟩=As v->W2.cell? ⟨g,o,AF⟩=As v:=fun o v h=>((ae.ai hx2 fun _ h=>h:ae (· <W.heap.size) W W2).cell (p:=⟨g,o,AF⟩) Am).trans h
   replace f0:=kc _ _ f0;replace f1:=kc _ _ f1;replace f2:=kc _ _ f2;replace f3:=kc _ _ f3;replace f4:=kc _ _ f4;replace f5:=kc _ _ f5;replace f6:=kc _ _ f6;replace f7:=kc _ _ f7;have z0:W2.frozen? ⟨g,r*8,AF⟩=false:=q2.frozenAt _;have z1:W2.frozen? ⟨g,r*8+1,AF⟩=false:=q2.frozenAt _;have z2:W2.frozen? ⟨g,r*8+2,AF⟩=false:=q2.frozenAt _;have z3:W2.frozen? ⟨g,r*8+3,AF⟩=false:=q2.frozenAt _;have z4:W2.frozen? ⟨g,r*8+4,AF⟩=false:=q2.frozenAt _;have z5:W2.frozen? ⟨g,r*8+5,AF⟩=false:=q2.frozenAt _;have z6:W2.frozen? ⟨g,r*8+6,AF⟩=false:=q2.frozenAt _;have z7:W2.frozen? ⟨g,r*8+7,AF⟩=false:=q2.frozenAt _;have Q1:=AI q1;have Q2:=AI q2;have Q3:=AI q3;have Q4:=AI q4;have ahB:V.heap.size<=g:=hgb;have hs2:W.heap.size<=W2.heap.size:=hx2.size;clear hu hx2 kc q1 q2 q3 q4 Fq eo kj;simp only[RX.kind,RX.set,RX.mn,RX.mx,RX.subs,D_,E_,GF]at HU ⊢;unfold aq;go_upto_region 27 with fail
   refine aA ?_;intro W3 hW3;have K3:DE (ae (· ≠g) W2 W3):=by rw[hW3];exact AI (((((((((ae.refl _ _).setCell (fun e=>e rfl) _).setCell (fun e=>e rfl) _).setCell (fun e=>e rfl) _).setCell (fun e=>e rfl) _).setCell (fun e=>e rfl) _).setCell (fun e=>e rfl) _).setCell (fun e=>e rfl) _).setCell (fun e=>e rfl) _)
   have R9:DE (cd V.heap.size W3 (An (As ⟨g,0,AF⟩) m rc) (PP.all.set r (.nd 5 0 (n3:Int) mv [y1]))):=by
    rw[hW3,HM.out];refine AI (cd.turned (by rw[<-HM.out];exact Vo) Q1 (by rw[<-HM.out];exact Q2) Q3 (fun i c t hi ht=>(Q4 i c t hi ht).mono fun x hx=>⟨hx.1,hx.2.1,fun e=>hx.2.2 (by rw[e];rfl)⟩) ?_ ?_)
    ·exact(cL _ _ _ _ _ _ _).2
    ·exact HU.mono fun x hx=>⟨by rcases hx.2 with h | h;exact h.1;omega,hx.1,fun e=>by rcases hx.2 with h | h;exact h.2.2 e;omega⟩
   have K9:DE (ae (· <V.heap.size) V W3):=AI (gF.tr (K3.mono fun x (hx:x<V.heap.size)=>by show x≠g;omega));clear hW3 f0 f1 f2 f3 f4 f5 f6 f7 z0 z1 z2 z3 z4 z5 z6 z7 Q1 Q2 Q3 Q4 HU gF K3;have pq:PP.all.set r (.nd 5 0 (n3:Int) mv [y1])=PP.all.take r++ [.nd 5 0 (n3:Int) mv [y1]]:=by
    have e:=lD (l:=PP.all) (by rw[<-HM.out];omega);rw[<-HM.out, <-Yo.out]at e
    conv=>lhs;rw[e]
    rw[FF _ _ (by rw[AN];omega),AN,Ft (by rw[<-HM.out];omega),DH];rfl
   have Hy:=AI pq;clear pq;go_wp2;go_roundw;case rel=>
    refine⟨k+1,by omega,by go_num,?_,?_,?_,K9⟩
    ·have e7:(jl (l.take (k+1))).mK=UT:=by rw[HST.out,mM.out]
     rw[e7]
     try rfl
     try go_num
    ·have e7:(jl (l.take (k+1))).yy=gr:=by rw[HST.out,mM.out];exact lJ.symm
     rw[e7]
     try rfl
     try go_num
    ·rw[HST.out,mM.out, <-Hy.out]
     have e8:(PP.all.set r (.nd 5 0 (n3:Int) mv [y1])).length=m:=by rw[GW];exact HM.symm
     exact R9
   case measure=>simp[intOf];omega
  ·have QK:¬ ((UT:Int)<=16):=by omega
   have hst:PP.step (s0,s1,s2)=PP:=by rw[adf.out,if_neg (by rw[<-Vp.out, <-uV.out, <-HUT.out];exact El)]
   have mM:=AI hst;clear hst El;go_wp2;go_roundw;case rel=>
    refine⟨k+1,by omega,by go_num,by rw[HST.out,mM.out, <-uV.out],by rw[HST.out,mM.out, <-lJ.out],by rw[HST.out,mM.out];exact eo,kj⟩
   case measure=>simp[intOf];omega
theorem RZ (b off c:Nat) (l:List (Nat×Nat×Nat)) (w:Bm) (hb:b<w.heap.size) (hc:l.length<=c) (iT:l.length<=1000000000000000) (hS:∀ (i:Nat) (s:Nat×Nat×Nat),l[i]? =As s->s.1<256/\s.2.1<256/\s.2.2<256/\w.cell? ⟨b,off+i*3,AF⟩=As (A' GS s.1)/\w.cell? ⟨b,off+i*3+1,AF⟩=As (A' GS s.2.1)/\w.cell? ⟨b,off+i*3+2,AF⟩=As (A' GS s.2.2)):(eC b off c l w hb hc iT hS).H:=by
 have HS:=AI hS;intro iN vu ju jw jy R HR n iT hc N l9 Fm pC Fo pA HN xi xj xm V R0 X0 qR
 intros
 rename_i k hk wo hlt eE s0 s1 s2 PP Jb GY Jc ru rc m r8 uf gr jY HST km HM uV lJ Dv Ao Ap Aq Ar Au W1 B1 eo kj d0 d1 d2 kd GZ kC hbase zf hA hB hC hD hE hG mM a1 a2;go_upto_region 12 with fail
 go_cut [48] from 49 to 54 (fun x wx=>x=Gz false/\wx=W1)
 case first=>
  by_cases hq:kd<7
  ·have a3:(kd:Int)<7:=by omega
   have a4:¬ ((1:Int)<m):=by omega
   go_wp2_with fail
   go_meet
   exact⟨rfl,rfl⟩
  ·have a3:¬ ((kd:Int)<7):=by omega
   go_wp2_with fail
   go_meet
   exact⟨rfl,rfl⟩
 case rest=>
 obtain⟨rfl,hwc⟩:=hcut;replace hwc:=hwc.symm;subst hwc;go_upto_region 14 with fail
 go_cut [74] from 75 to 80 (fun x wx=>x=Gz false/\wx=W1)
 case first=>
  by_cases hq:kd<9
  ·have a3:(kd:Int)<9:=by omega
   have a4:¬ ((1:Int)<m):=by omega
   go_wp2_with fail
   go_meet
   exact⟨rfl,rfl⟩
  ·have a3:¬ ((kd:Int)<9):=by omega
   go_wp2_with fail
   go_meet
   exact⟨rfl,rfl⟩
 case rest=>
 obtain⟨rfl,hwc⟩:=hcut;replace hwc:=hwc.symm;subst hwc;go_upto_region 16 with fail
 go_cut [100] from 101 to 110 (fun x wx=>x=Gz false/\wx=W1)
 case first=>
  by_cases hq:kd=9
  ·have a6:((kd:Int)==9)=true:=by simp[hq]
   by_cases h0:0<m
   ·have a8:(0:Int)<m:=by omega
    have a9:¬ ((gr:Int)<9):=by omega
    clear hq;go_wp2_with fail
    go_meet
    exact⟨rfl,rfl⟩
   ·have a8:¬ ((0:Int)<m):=by omega
    clear hq;go_wp2_with fail
    go_meet
    exact⟨rfl,rfl⟩
  ·have a6:((kd:Int)==9)=false:=by simp;omega
   go_wp2_with fail
   go_meet
   exact⟨rfl,rfl⟩
 case rest=>
 obtain⟨rfl,hwc⟩:=hcut;replace hwc:=hwc.symm;subst hwc;go_upto_region 19 with fail
 go_cut [123] from 124 to 138 (fun x wx=>x=Gz false/\wx=W1)
 case first=>
  by_cases hq:9<kd
  ·have a7:(9:Int)<kd:=by omega
   have a8:¬ ((0:Int)<m):=by omega
   go_wp2_with fail
   go_meet
   exact⟨rfl,rfl⟩
  ·have a7:¬ ((9:Int)<kd):=by omega
   go_wp2_with fail
   go_meet
   exact⟨rfl,rfl⟩
 case rest=>
 obtain⟨rfl,hwc⟩:=hcut;replace hwc:=hwc.symm;subst hwc;go_wp2;go_roundw;case rel=>
  refine⟨k+1,by omega,by go_num,by rw[HST.out,mM.out, <-uV.out],by rw[HST.out,mM.out, <-lJ.out],by rw[HST.out,mM.out];exact eo,kj⟩
 case measure=>simp[intOf];omega
theorem Sa (b off c:Nat) (l:List (Nat×Nat×Nat)) (w:Bm) (hb:b<w.heap.size) (hc:l.length<=c) (iT:l.length<=1000000000000000) (hS:∀ (i:Nat) (s:Nat×Nat×Nat),l[i]? =As s->s.1<256/\s.2.1<256/\s.2.2<256/\w.cell? ⟨b,off+i*3,AF⟩=As (A' GS s.1)/\w.cell? ⟨b,off+i*3+1,AF⟩=As (A' GS s.2.1)/\w.cell? ⟨b,off+i*3+2,AF⟩=As (A' GS s.2.2)):(eC b off c l w hb hc iT hS).Z:=by
 have HS:=AI hS;intro iN vu ju jw jy R HR n iT hc pA xi xj xm V R0 X0 qR u3
 intros
 rename_i k wo hrow HX l9 Fm pC Fo HN hk hlt Il;obtain⟨PP,Zp⟩:=ag (jl (l.take k));rw[<-Zp]at hrow ⊢;have eT:l.take k=l.take 25:=by
  rw[HN.out,pA.out];rcases Nat.le_total l.length 25 with h | h
  ·rw[Ft h,C',List.take_of_length_le h]
  ·rw[Nat.min_eq_right h]
 have pE:=wN (l.take 25);have Nl:R=acu PP.all:=by rw[HR.out,Zp,eT];rfl
 rw[<-eT, <-Zp]at pE;have hfA:=pE.fine;have hsA:RX.sizes PP.all<=25:=GC pE.size (by rw[AN];omega);obtain⟨ru,rc,rfl⟩:=hrow.form;have hZ:=AI hrow;obtain⟨A,hA⟩:=ag PP.all;rw[<-hA]at hZ hfA hsA Nl ⊢;have HFA:=AI hfA;have HSA:=AI hsA;have iH:=AI Nl;clear hrow hfA hsA Nl pE eT Zp hA;have hwV:w.heap.size<V.heap.size:=by have:=qR.out;omega
 have hVo:V.heap.size<=wo.heap.size:=HX.size;have X9:DE (aa w wo):=AI (X0.below.trans (HX.mono fun x (hx:x<w.heap.size)=>by show x<V.heap.size;omega:ae (· <w.heap.size) V wo).below);have R9:=AI (R0.keeps HX R0.lt);match A,hZ,HFA,HSA,iH with
 | [],hZ,HFA,HSA,iH=>
  simp only[E_];go_wp2_with fail
  refine(nV _ [97] rfl (by decide) wo).mono ?_;rintro e w2 ⟨rfl,hx2⟩;obtain⟨S,hS⟩:=ag (pX fun c=>([97]:List Nat).contains c);rw[<-hS];have mG:R=.nd 2 S 0 0 []:=by rw[iH.out,hS];rfl
  have R2:=AI (R9.below hx2 R9.lt);have X2:DE (aa w w2):=AI (X9.trans (hx2.mono X9.size));clear hS hx2;go_wp2_with (refine By rfl 97 (Dn 2) (Dn 188) rfl w.heap.size (aq 2 S 0 0 (An AF 0 0)) rfl rfl 97 eL R2 (dm _ _ _ _ _) rfl (kB _ _ _ _ _ _ _) ?_;refine Hid.out ?_);refine AI ?_;obtain⟨V3,cX⟩:=ag (w2.setRow w.heap.size (aq 2 S 0 0 (An AF 0 0)));rw[<-cX];have RR:DE (ar V3 w.heap.size (aq 2 S 0 0 (An AF 0 0)) 97):=by rw[cX];exact AI R2.setRow
  have KK:ae (· ≠w.heap.size) w2 V3:=by rw[cX];exact bJ _ _ _
  clear cX;go_wp2;obtain⟨m0,m1,m2,m3,m4,m5,m6,m7⟩:=RR.eight;refine D' (v:=B' (aq 2 S 0 0 (An AF 0 0))) (by simp[results,D0,aq,go_sem,m0,m1,m2,m3,m4,m5,m6,m7]) rfl ⟨_,rfl,?_,X2.trans (KK.mono fun x (hx:x<w.heap.size)=>by show x≠_;omega:ae (· <w.heap.size) w2 V3).below⟩;rw[mG];exact aK.leaf _ _ _ _ _ _ _ _
 | x::r,hZ,HFA,HSA,iH=>
  obtain⟨m,hm⟩:=ag ((x::r).length);have yB:m=r.length+1:=by rw[hm];rfl
  have aou:m<=25:=by have:=xd (x::r);have:=HSA.out;omega
  rw[<-hm]at hZ ⊢;obtain⟨g,p1,c1,e9,RV,mQ,hgb,Am,⟨f0,f1,f2,f3,f4,f5,f6,f7⟩,t1⟩:=hZ.elem (i:=0) (t:=x) rfl;clear RV;subst e9;simp only[Nat.zero_mul,GF]at f0 f1 f2 f3 f4 f5 f6 f7;have T1:=AI t1;have vn:(0:Int)<m:=by omega
  have rY:(1:Int)<=m:=by omega
  have tT:1<=m:=by omega
  have hc2:1<=rc:=by omega
  have hc3:(1:Int)<=rc:=by omega
  have oH:((m:Int)==0)=false:=by simp;omega
  have HMR:=AI yB;clear t1 hm yB;go_upto_region 31 with fail
  refine aA ?_;intro W1 hW1;have B13:DE (ar W1 wo.heap.size (aq x.kind x.set x.mn x.mx (An p1 x.subs.length c1)) 97):=by rw[hW1];exact AI (ar.new _ _ _)
  have E1:DE (Ext wo W1):=by rw[hW1];exact AI ((Ext.refl wo).alloc _)
  clear hW1 f0 f1 f2 f3 f4 f5 f6 f7;by_cases hrc:rc=1
  ·skip --Y3a
   obtain rfl:m=1:=by omega
   subst hrc;have hr0:r=[]:=Dm (by have:=HMR.out;omega);have HTR:R=x:=by rw[iH.out,hr0];rfl
   have T2:DE (aK (fun y=>V.heap.size<=y/\y<W1.heap.size) W1 (B' (aq x.kind x.set x.mn x.mx (An p1 x.subs.length c1))) x):=AI ((T1.out.keeps E1.keeps fun y hy=>hy.2.1).mono fun y hy=>⟨hy.1,by have:=hy.2.1;have:=E1.size;omega⟩);have X1:DE (aa w W1):=AI (X9.trans (E1.below.mono X9.size));have R1:=AI (R9.ext E1);clear T1 X9 R9 hr0 hZ;go_wp2;go_loopw [195] (fun i wr=>i=A' A_ 0/\wr=W1) (fun _ _=>0);case atStart=>exact⟨rfl,rfl⟩
   case round=>
    obtain⟨rfl,hwr⟩:=hrel;replace hwr:=hwr.symm;subst hwr;go_wp2_with (first | (refine aZ rfl 97 (Dn 13) rfl wo.heap.size rfl (aq x.kind x.set x.mn x.mx (An p1 x.subs.length c1)) _ B13.range AS rfl (dm _ _ _ _ _) ?_) | (refine By rfl 97 (Dn 2) (Dn 203) rfl w.heap.size (aq x.kind x.set x.mn x.mx (An p1 x.subs.length c1)) rfl rfl 97 eL R1 (dm _ _ _ _ _) rfl (kB _ _ _ _ _ _ _) ?_;refine Hid.out ?_));refine AI ?_;obtain⟨V3,cX⟩:=ag (W1.setRow w.heap.size (aq x.kind x.set x.mn x.mx (An p1 x.subs.length c1)));rw[<-cX];have RR:DE (ar V3 w.heap.size (aq x.kind x.set x.mn x.mx (An p1 x.subs.length c1)) 97):=by rw[cX];exact AI R1.setRow
    have KK:ae (· ≠w.heap.size) W1 V3:=by rw[cX];exact bJ _ _ _
    clear cX;go_wp2;obtain⟨m0,m1,m2,m3,m4,m5,m6,m7⟩:=RR.eight;refine D' (v:=B' (aq x.kind x.set x.mn x.mx (An p1 x.subs.length c1))) (by simp[results,D0,aq,go_sem,m0,m1,m2,m3,m4,m5,m6,m7]) rfl ⟨_,rfl,?_,X1.trans (KK.mono fun z (hz:z<w.heap.size)=>by show z≠_;omega:ae (· <w.heap.size) W1 V3).below⟩;rw[HTR];exact(T2.keeps KK fun z hz=>by have:=hz.1;show z≠_;omega).mono fun z hz=>aD hz.2 KK.size
  have aov:1<rc:=by omega
  have aow:(1:Int)<rc:=by omega
  have aox:rc-1≠0:=by omega
  have aoy:¬ (rc=1):=hrc;have aoz:¬ ((rc:Int)=1):=by omega
  have aoA:¬ (rc<=1):=by omega
  go_wp2;obtain⟨J0,hJ0⟩:=ag wo.heap.size;have hJ1:J0<W1.heap.size:=by rw[hJ0];exact B13.lt
  have HJ0:=AI hJ0;have eo:=AI (hZ.below E1.below);have T2:DE (aK (fun y=>V.heap.size<=y/\y<W1.heap.size/\y≠J0) W1 (B' (aq x.kind x.set x.mn x.mx (An p1 x.subs.length c1))) x):=AI ((T1.out.keeps E1.keeps fun y hy=>hy.2.1).mono fun y hy=>⟨hy.1,by have:=hy.2.1;have:=E1.size;omega,fun e=>by have:=hy.2.1;omega⟩);have X1:DE (aa w W1):=AI (X9.trans (E1.below.mono X9.size));have R1:=AI (R9.ext E1);have hgJ:g<J0:=by omega
  have hRJ:w.heap.size<J0:=by omega
  rw[<-hJ0]at B13 ⊢;clear T1 X9 R9 hJ0;go_loopw [195] (fun i wr=>∃ (j:Nat) (t:RX) (p':Option Addr) (c':Nat),j<=r.length/\i=A' A_ j/\t=(r.take j).foldl (cF 4) x/\ar wr J0 (aq t.kind t.set t.mn t.mx (An p' t.subs.length c')) 97/\aK (fun y=>V.heap.size<=y/\y<wr.heap.size/\y≠J0) wr (B' (aq t.kind t.set t.mn t.mx (An p' t.subs.length c'))) t/\ae (fun y=>y<W1.heap.size/\y≠J0) W1 wr) (fun i _=>r.length-(intOf i).toNat);case atStart=>exact⟨0,x,p1,c1,by omega,rfl,rfl,B13,T2,ae.refl _ _⟩
  case round=>
   obtain⟨j,t,p',c',hj,rfl,ht,hB,hT,hK⟩:=hrel;obtain⟨w5,rfl⟩:=ag (wr:Bm);have HB:=AI hB;have HT:=AI hT;have HK:=AI hK;have Vp:=AI ht;clear hB hT hK ht;have hR:=HMR.out;by_cases hlt:j<r.length
   ·obtain⟨y,hy⟩:∃ y,r[j]? =As y:=⟨_,az hlt⟩
    have hyA:(x::r)[j+1]? =As y:=by simpa using hy
    have hK2:ae (fun y=>y<J0) wo w5:=(E1.keeps.mono fun y (hy:y<J0)=>by have:=HJ0.out;show y<wo.heap.size;omega).tr (HK.mono fun y (hy:y<J0)=>⟨by omega,by omega⟩);obtain⟨g',p2,c2,e9,RV,akG,hgb',aoC,⟨f0,f1,f2,f3,f4,f5,f6,f7⟩,t2⟩:=hZ.elem hyA;cases e9;clear RV;have kc:∀ (o:Nat) (v:Value),wo.cell? ⟨g,o,AF⟩=As v->w5.cell? ⟨g,o,AF⟩=As v:=fun o v h=>(hK2.cell (p:=⟨g,o,AF⟩) hgJ).trans h
    have fx:∀ (o:Nat) (v:Value),wo.cell? ⟨g,(j+1)*8+o,AF⟩=As v->w5.cell? ⟨g,8+j*8+o,AF⟩=As v:=fun o v h=>by
     have:=kc _ _ h;rwa[show(j+1)*8+o=8+j*8+o by omega]at this
    have e0:=fx 0 _ f0;have e1:=fx 1 _ f1;have e2:=fx 2 _ f2;have e3:=fx 3 _ f3;have e4:=fx 4 _ f4;have e5:=fx 5 _ f5;have e6:=fx 6 _ f6;have e7:=fx 7 _ f7;simp only[Nat.add_zero]at e0;have T2':DE (aK (fun y=>V.heap.size<=y/\y<w5.heap.size/\y≠J0) w5 (B' (aq y.kind y.set y.mn y.mx (An p2 y.subs.length c2))) y):=AI ((t2.keeps hK2 fun y hy=>by have:=HJ0.out;have:=hy.2.1;show y<J0;omega).mono fun y hy=>⟨hy.1,by have:=hy.2.1;have:=hK2.size;omega,fun e=>by have:=hy.2.1;have:=HJ0.out;omega⟩);have ku:(j:Int)<m-1:=by omega
    clear f0 f1 f2 f3 f4 f5 f6 f7 kc fx;have hyf:y.fine:=HFA.out y (bC _ (aw hy));have UG:y.size<=1000:=by have:=oN (bC x (aw hy));have:=HSA.out;omega
    have hff:=qp (r.take j) x (HFA x (aY ..)) fun z hz=>HFA z (bC _ (Dl hz))
    have htf:t.fine:=by rw[Vp.out];exact hff.1
    have Mh:t.size<=1000:=by
     have h1:=hff.2.1;rw[<-Vp.out]at h1;have h2:=ez (r.take j) (r.drop j);rw[List.take_append_drop]at h2;have h3:=HSA.out;rw[RX.sizes]at h3;have h4:(r.take j).length<=25:=by rw[AN];omega
     omega
    have tq:(r.take (j+1)).foldl (cF 4) x=cF 4 t y:=by rw[List.take_add_one,hy,List.foldl_append, <-Vp.out];rfl
    have HTN:=AI tq;have CJ:DE (∀ W,aa w5 W->ah 106 #[A' GS 4,B' (aq t.kind t.set t.mn t.mx (An p' t.subs.length c')),B' (aq y.kind y.set y.mn y.mx (An p2 y.subs.length c2))] W fun e w'=>∃ u,e=DP u/\aK (fun z=>z<w'.heap.size/\((V.heap.size<=z/\z<w5.heap.size/\z≠J0)\/W.heap.size<=z)) w' u (cF 4 t y)/\aa W w'):=AI fun W hW=>by
     have KY:ae (· <w5.heap.size) w5 W:=ae.ai hW fun _ h=>h
     exact l8 (fun z=>V.heap.size<=z/\z<w5.heap.size/\z≠J0) 4 (.inr rfl) _ _ t y htf hyf Mh UG W (fun z hz=>aD hz.2.1 hW.size) (HT.keeps KY fun z hz=>hz.2.1) (T2'.keeps KY fun z hz=>hz.2.1)
    obtain⟨JJ,Ub⟩:=ag (cF 4 t y);rw[<-Ub]at CJ HTN;clear hyf UG hff htf Mh tq Ub hy hyA;clear hR;go_upto_region 34 with fail
    refine aA ?_;intro W6 uM;have B15:DE (ar W6 w5.heap.size (aq y.kind y.set y.mn y.mx (An p2 y.subs.length c2)) 97):=by rw[uM];exact AI (ar.new _ _ _)
    have E6:DE (Ext w5 W6):=by rw[uM];exact AI ((Ext.refl w5).alloc _)
    clear uM e0 e1 e2 e3 e4 e5 e6 e7;have B6:=AI (HB.ext E6);have CJ6:=AI (CJ.out W6 E6.below);have hJ5:J0<w5.heap.size:=HB.lt;have h56:w5.heap.size<=W6.heap.size:=E6.size;clear CJ;go_wp2_with (first | (refine aZ rfl 97 (Dn 13) rfl J0 rfl (aq t.kind t.set t.mn t.mx (An p' t.subs.length c')) _ B6.range AS rfl (dm _ _ _ _ _) ?_) | (refine aZ rfl 97 (Dn 15) rfl w5.heap.size rfl (aq y.kind y.set y.mn y.mx (An p2 y.subs.length c2)) _ B15.range AS rfl (dm _ _ _ _ _) ?_) | (go_at_call 106;refine Hid.out ?_));refine AI ?_;refine CJ6.mono ?_;rintro e w7 ⟨u,rfl,hu,hx7⟩;obtain⟨pu,cu,rfl⟩:=hu.form;have HU:=AI hu;have B7:=AI (B6.below hx7 B6.lt);have K7:DE (ae (· <w5.heap.size) w5 w7):=AI (E6.keeps.tr (ae.ai hx7 fun z (hz:z<w5.heap.size)=>aD hz h56));clear hu hx7 B6 B15 CJ6;go_wp2_with (refine By rfl 97 (Dn 13) (Dn 201) rfl J0 (aq JJ.kind JJ.set JJ.mn JJ.mx (An pu JJ.subs.length cu)) rfl rfl 97 (aq t.kind t.set t.mn t.mx (An p' t.subs.length c')) B7 (dm _ _ _ _ _) rfl (kB _ _ _ _ _ _ _) ?_;refine Hid.out ?_);refine AI ?_;obtain⟨W8,Xg⟩:=ag (w7.setRow J0 (aq JJ.kind JJ.set JJ.mn JJ.mx (An pu JJ.subs.length cu)));rw[<-Xg];have B8:DE (ar W8 J0 (aq JJ.kind JJ.set JJ.mn JJ.mx (An pu JJ.subs.length cu)) 97):=by rw[Xg];exact AI B7.setRow
    have K8:DE (ae (· ≠J0) w7 W8):=by rw[Xg];exact AI (bJ _ _ _)
    clear Xg;go_wp2;go_roundw;case rel=>
     have q1:aK (fun z=>V.heap.size<=z/\z<W8.heap.size/\z≠J0) W8 (B' (aq JJ.kind JJ.set JJ.mn JJ.mx (An pu JJ.subs.length cu))) JJ:=(HU.keeps K8 fun z hz=>by(rcases hz.2 with h | h;exact h.2.2;show z≠J0;omega)).mono fun z hz=>⟨by(rcases hz.2 with h | h;exact h.1;omega),aD hz.1 K8.size,by(rcases hz.2 with h | h;exact h.2.2;omega)⟩
     have Zc:=HK.size;exact⟨j+1,JJ,pu,cu,by omega,by go_num,HTN.symm,B8,q1,HK.tr ((K7.mono fun z (hz:z<W1.heap.size/\z≠J0)=>by have:=hz.1;show z<w5.heap.size;omega).tr (K8.mono fun z (hz:z<W1.heap.size/\z≠J0)=>hz.2))⟩
    case measure=>simp[intOf];omega
   ·skip --Yd
    obtain rfl:j=r.length:=by omega
    have ku:¬ ((r.length:Int)<m-1):=by omega
    have htR:R=t:=by rw[iH.out,Vp.out,C'];rfl
    have HTR:=AI htR;have hRl:w.heap.size<W1.heap.size:=R1.lt;have R5:=AI (R1.keeps HK ⟨R1.lt,by omega⟩);have X5:DE (aa w w5):=AI (X1.trans (HK.mono fun z (hz:z<w.heap.size)=>⟨by omega,by omega⟩:ae (· <w.heap.size) W1 w5).below);clear hR htR;go_wp2_with (first | (refine aZ rfl 97 (Dn 13) rfl J0 rfl (aq t.kind t.set t.mn t.mx (An p' t.subs.length c')) _ HB.range AS rfl (dm _ _ _ _ _) ?_) | (refine By rfl 97 (Dn 2) (Dn 203) rfl w.heap.size (aq t.kind t.set t.mn t.mx (An p' t.subs.length c')) rfl rfl 97 eL R5 (dm _ _ _ _ _) rfl (kB _ _ _ _ _ _ _) ?_;refine Hid.out ?_));refine AI ?_;obtain⟨V3,cX⟩:=ag (w5.setRow w.heap.size (aq t.kind t.set t.mn t.mx (An p' t.subs.length c')));rw[<-cX];have RR:DE (ar V3 w.heap.size (aq t.kind t.set t.mn t.mx (An p' t.subs.length c')) 97):=by rw[cX];exact AI R5.setRow
    have KK:ae (· ≠w.heap.size) w5 V3:=by rw[cX];exact bJ _ _ _
    clear cX;go_wp2;obtain⟨m0,m1,m2,m3,m4,m5,m6,m7⟩:=RR.eight;refine D' (v:=B' (aq t.kind t.set t.mn t.mx (An p' t.subs.length c'))) (by simp[results,D0,aq,go_sem,m0,m1,m2,m3,m4,m5,m6,m7]) rfl ⟨_,rfl,?_,X5.trans (KK.mono fun z (hz:z<w.heap.size)=>by show z≠_;omega:ae (· <w.heap.size) w5 V3).below⟩;rw[HTR.out];exact(HT.keeps KK fun z hz=>by have:=hz.1;show z≠_;omega).mono fun z hz=>aD hz.2.1 KK.size
theorem Fs (b off c:Nat) (l:List (Nat×Nat×Nat)) (w:Bm) (hb:b<w.heap.size) (hc:l.length<=c) (iT:l.length<=1000000000000000) (hS:∀ (i:Nat) (s:Nat×Nat×Nat),l[i]? =As s->s.1<256/\s.2.1<256/\s.2.2<256/\w.cell? ⟨b,off+i*3,AF⟩=As (A' GS s.1)/\w.cell? ⟨b,off+i*3+1,AF⟩=As (A' GS s.2.1)/\w.cell? ⟨b,off+i*3+2,AF⟩=As (A' GS s.2.2)): ah 60 #[An (As ⟨b,off,AF⟩) l.length c] w fun e w'=>∃ u,e=DP u/\aK (· <w'.heap.size) w' u (gY l)/\aa w w':=
 (eC b off c l w hb hc iT hS).out (RD b off c l w hb hc iT hS) (RJ b off c l w hb hc iT hS) (RM b off c l w hb hc iT hS) (RS b off c l w hb hc iT hS) (RU b off c l w hb hc iT hS) (RY b off c l w hb hc iT hS) (RZ b off c l w hb hc iT hS) (Sa b off c l w hb hc iT hS)
theorem xo (p:Option Addr) (c:Nat) (w:Bm): ah 60 #[An p 0 c] w fun e w'=>∃ u,e=DP u/\aK (· <w'.heap.size) w' u (gY [])/\aa w w':=by
 go_enter Tryz.func60,Tryz.ntmps60
 have l9:min (0:Int) 25=0:=by decide
 go_wp2;refine aA ?_;intro V hV;have R0:DE (ar V w.heap.size eL 97):=by rw[hV];exact AI (ar.new _ _ _)
 have X0:DE (aa w V):=by rw[hV];exact AI ((Ext.refl w).alloc _).below
 clear hV;go_loopw [3,4,5,22] (fun u x y i wr=>u=An AF 0 0/\x=A' A_ 1/\y=A' A_ 0/\i=A' A_ 0/\wr=V) (fun _ _ _ _ _=>0);case atStart=>exact⟨rfl,rfl,rfl,rfl,rfl⟩
 case round=>
  obtain⟨rfl,rfl,rfl,rfl,hwr⟩:=hrel;replace hwr:=hwr.symm;subst hwr;go_wp2_with fail
  refine(nV _ [97] rfl (by decide) V).mono ?_;rintro e w2 ⟨rfl,hx2⟩;obtain⟨S,hS⟩:=ag (pX fun c=>([97]:List Nat).contains c);rw[<-hS];have mG:gY []=.nd 2 S 0 0 []:=by rw[hS];rfl
  have R2:=AI (R0.below hx2 R0.lt);have X2:DE (aa w w2):=AI (X0.trans (hx2.mono X0.size));clear hS hx2;go_wp2_with (refine By rfl 97 (Dn 2) (Dn 188) rfl w.heap.size (aq 2 S 0 0 (An AF 0 0)) rfl rfl 97 eL R2 (dm _ _ _ _ _) rfl (kB _ _ _ _ _ _ _) ?_;refine Hid.out ?_);refine AI ?_;obtain⟨V3,cX⟩:=ag (w2.setRow w.heap.size (aq 2 S 0 0 (An AF 0 0)));rw[<-cX];have RR:DE (ar V3 w.heap.size (aq 2 S 0 0 (An AF 0 0)) 97):=by rw[cX];exact AI R2.setRow
  have KK:ae (· ≠w.heap.size) w2 V3:=by rw[cX];exact bJ _ _ _
  clear cX;go_wp2;obtain⟨m0,m1,m2,m3,m4,m5,m6,m7⟩:=RR.eight;refine D' (v:=B' (aq 2 S 0 0 (An AF 0 0))) (by simp[results,D0,aq,go_sem,m0,m1,m2,m3,m4,m5,m6,m7]) rfl ⟨_,rfl,?_,X2.trans (KK.mono fun x (hx:x<w.heap.size)=>by show x≠_;omega:ae (· <w.heap.size) w2 V3).below⟩;rw[mG];exact aK.leaf _ _ _ _ _ _ _ _
theorem dT.form {w:Bm} {v:Value} {l:List (Nat×Nat×Nat)} (h:dT w v l):∃ a c,v=An a l.length c:=by
 rcases h with⟨rfl,rfl⟩ | ⟨ad,c,rfl,rfl⟩ | ⟨b,off,c,rfl,_⟩
 ·exact⟨_,_,rfl⟩
 ·exact⟨_,_,rfl⟩
 ·exact⟨_,_,rfl⟩
theorem Jd (v:Value) (l:List (Nat×Nat×Nat)) (iT:l.length<=1000000000000000) (w:Bm) (h:dT w v l): ah 60 #[v] w fun e w'=>∃ u,e=DP u/\aK (· <w'.heap.size) w' u (gY l)/\aa w w':=by
 rcases h with⟨rfl,rfl⟩ | ⟨ad,c,rfl,rfl⟩ | ⟨b,off,c,rfl,hb,hc,_,h⟩
 ·exact xo AF 0 w
 ·exact xo (As ad) c w
 ·exact Fs b off c l w hb hc iT h
end
section
open Go Go.RowKit
section
variable {κ:Type} [DecidableEq κ]
def bU (key:Nat->κ):Nat->List κ
 | 0=>[]
 | n+1=>if key n∈bU key n then bU key n else bU key n++ [key n]
def dL (key:Nat->κ) (n s:Nat):Nat:=(bU key n).idxOf (key s)
def dR (key:Nat->κ) (n:Nat):Nat:=(bU key n).length
theorem mem_keys {key:Nat->κ} {x:κ} :∀ {n:Nat},x∈bU key n↔ ∃ s,s<n/\key s=x
 | 0=>by simp[bU]
 | n+1=>by
  rw[bU];split
  ·rename_i h
   rw[mem_keys];constructor
   ·rintro⟨s,h1,h2⟩;exact⟨s,by omega,h2⟩
   ·rintro⟨s,h1,h2⟩
    by_cases e:s=n
    ·subst e
     exact mem_keys.1 (h2▸h)
    ·exact⟨s,by omega,h2⟩
  ·rw[List.mem_append,mem_keys,GA]
   constructor
   ·rintro(⟨s,h1,h2⟩ | h)
    ·exact⟨s,by omega,h2⟩
    ·exact⟨n,by omega,h.symm⟩
   ·rintro⟨s,h1,h2⟩
    by_cases e:s=n
    ·subst e;exact .inr h2.symm
    ·exact .inl ⟨s,by omega,h2⟩
theorem mf (key:Nat->κ):∀ n,(bU key n).Nodup
 | 0=>List.nodup_nil
 | n+1=>by
  rw[bU];split
  ·exact mf key n
  ·rename_i h
   rw[List.nodup_append];refine⟨mf key n,by simp,fun a ha b hb=>?_⟩;rw[GA.1 hb];exact fun e=>h (e▸ha)
theorem Fu {key:Nat→κ} {m:Nat} :∀ {n:Nat},m≤n→∃ r,bU key n=bU key m++r
  | 0, h => ⟨[], by obtain rfl : m = 0 := by omega
                    simp⟩
  | n + 1, h => by
    by_cases e : m = n + 1
    · exact ⟨[], by rw [e]; simp⟩
    · obtain ⟨r, hr⟩ := Fu (key := key) (m := m) (n := n) (by omega)
      rw[bU];split
      · exact⟨r,hr⟩
      · exact⟨r++ [key n],by rw[hr,List.append_assoc]⟩
theorem r9 (key:Nat->κ):∀ n,dR key n<=n
 | 0=>aG _
 | n+1=>by
  have h:=r9 key n;unfold dR at h ⊢;rw[bU];split
  ·omega
  ·rw[aJ,FG];omega
theorem xp {key:Nat->κ} {n s:Nat} (hs:s<n):dL key n s<dR key n:=List.idxOf_lt_length_of_mem (mem_keys.2 ⟨s,hs,rfl⟩)
theorem KZ {key:Nat->κ} {n s:Nat} (hs:s<n):(bU key n)[dL key n s]? =As (key s):=by have h:=xp (key:=key) hs;rw[az h];congr 1;exact List.getElem_idxOf h
theorem eD {key:Nat->κ} {n s t:Nat} (hs:s<n) (ht:t<n):dL key n s=dL key n t↔key s=key t:=by
 constructor
 ·intro h
  have h1:=KZ (key:=key) hs;rw[h,KZ ht]at h1;exact(Option.some.inj h1).symm
 ·intro h
  unfold dL;rw[h]
theorem Vq {key:Nat->κ} {m n s:Nat} (hs:s<m) (hm:m<=n):dL key n s=dL key m s:=by obtain⟨r,hr⟩:=Fu (key:=key) hm;unfold dL;rw[hr,GG,if_pos (mem_keys.2 ⟨s,hs,rfl⟩)]
theorem lK {key:Nat->κ} {n s:Nat} (hs:s<n):dL key n s=if key s∈bU key s then(bU key s).idxOf (key s)else(bU key s).length:=by
 rw[Vq (m:=s+1) (by omega) (by omega)];unfold dL;rw[bU];split
 ·rfl
 ·rename_i h
  rw[GG,if_neg h];simp
theorem Vr {key:Nat->κ} {n b:Nat} (hb:b<dR key n):∃ s,s<n/\dL key n s=b:=by obtain⟨s,hs,e⟩:=mem_keys.1 (List.getElem_mem (l:=bU key n) hb);refine⟨s,hs,?_⟩;unfold dL;rw[e];exact(mf key n).idxOf_getElem b hb
end
theorem sf {κ κ':Type} [DecidableEq κ] [DecidableEq κ'] {k:Nat->κ} {k':Nat->κ'} {n:Nat} (h:∀ s t,s<n->t<n->k' s=k' t->k s=k t):dR k n<=dR k' n/\(dR k n=dR k' n->∀ s t,s<n->t<n->k s=k t->k' s=k' t):=by
 -- the numbers by k' of the first ones of each number by k
 have pick:∀ b,b<dR k n->∃ s,s<n/\dL k n s=b:=fun b hb=>Vr hb
 let f:Nat->Nat:=fun b=>if hb:b<dR k n then(pick b hb).choose else 0
 have hf:∀ b,b<dR k n->f b<n/\dL k n (f b)=b:=fun b hb=>by
  show(if hb:b<dR k n then(pick b hb).choose else 0)<n/\dL k n (if hb:b<dR k n then(pick b hb).choose else 0)=b;rw[dif_pos hb];exact(pick b hb).choose_spec
 have inj:∀ a b,a<dR k n->b<dR k n->dL k' n (f a)=dL k' n (f b)->a=b:=fun a b ha hb e=>by
  obtain⟨a1,a2⟩:=hf a ha;obtain⟨b1,b2⟩:=hf b hb;have e1:=h _ _ a1 b1 ((eD a1 b1).1 e);rw[<-a2, <-b2];exact(eD a1 b1).2 e1
 have Wj:((GB (dR k n)).map fun b=>dL k' n (f b)).Nodup:=by rw[Bs,GH];refine(Bs.1 List.nodup_range).imp_of_mem fun {a b} ha hb hne e=>hne (inj a b (C_.1 ha) (C_.1 hb) e)
 have hlt:∀ x∈(GB (dR k n)).map fun b=>dL k' n (f b),x<dR k' n:=fun x hx=>by
  obtain⟨b,hb,rfl⟩:=EV.1 hx;exact xp (hf b (C_.1 hb)).1
 have hle:dR k n<=dR k' n:=by have:=lj (dR k' n) _ Wj hlt;rwa[aQ,GO]at this
 refine⟨hle,fun he s t hs ht hk=>?_⟩
 -- each number by k' is that of a first one
 have cover:∀ x,x<dR k' n->∃ b,b<dR k n/\dL k' n (f b)=x:=fun x hx=>by
  refine Classical.byContradiction fun hno=>?_
  have ahL:(x::(GB (dR k n)).map fun b=>dL k' n (f b)).Nodup:=List.nodup_cons.2 ⟨fun hm=>by
   obtain⟨b,hb,e⟩:=EV.1 hm
   exact hno ⟨b,C_.1 hb,e⟩,Wj⟩
  have:=lj (dR k' n) _ ahL fun y hy=>by
   rcases List.mem_cons.1 hy with rfl | hy
   ·exact hx
   ·exact hlt y hy
  rw[D_,aQ,GO]at this;omega
 have at':∀ u,u<n->dL k' n (f (dL k n u))=dL k' n u:=fun u hu=>by
  obtain⟨b,hb,e⟩:=cover _ (xp (key:=k') hu);obtain⟨b1,b2⟩:=hf b hb;have e1:=h _ _ b1 hu ((eD b1 hu).1 e);have e2:b=dL k n u:=by rw[<-b2];exact(eD b1 hu).2 e1
  rw[<-e2,e]
 have e1:=at' s hs;have e2:=at' t ht;rw[(eD hs ht).2 hk]at e1;exact(eD hs ht).1 (e1.symm.trans e2)
theorem K1 {l:List Int} (h:rG l=true):∀ k,k<l.length->(k:Int)<=l.getD k 0/\l.getD k 0<=255:=by
 unfold rG at h;rw[List.all_eq_true]at h;intro k;induction k with
 | zero=>
  intro hk;have:=h 0 (by simpa using hk);unfold tW nE at this;simp at this;refine⟨?_,?_⟩<;>simp at* <;>omega
 | succ k ih=>
  intro hk;have h1:=ih (by omega);have:=h (k+1) (by simpa using hk);unfold tW nE at this;rw[if_neg (by omega),Bool.and_eq_true,decide_eq_true_eq,decide_eq_true_eq,Nat.add_sub_cancel]at this
  push_cast
  omega
end
section
open Go Go.RowKit Go.Shelf Go.Maps
theorem La {ps:List PT} {fuel:Nat} {st:List (List (List Int))×List (List Nat)} (h:sU ps fuel=As st):Yv fuel (partsOf (cH ps)).length (pM ps) (lS ps) fuel st:=by
 unfold sU at h;split at h
 ·cases h
 ·rename_i hf
  exact Bl (by omega) (Bt ps) (fun row k hr _=>rM hr _) fuel h
theorem Sb {ps:List PT} {fuel:Nat} (hf2:fuel<=4000) {st:List (List (List Int))×List (List Nat)} (h:sU ps fuel=As st):Rt ⟨partsOf (cH ps),st.2.map fun r=>r.map B_,st.1.map (dP ps)⟩:=by
 have I:=La h;have hlen:st.2.length=st.1.length:=by have:=I.len;have:=I.le;omega
 have hrow:∀ s,s<st.2.length->((st.2.map fun r=>r.map B_).getD s [])=(st.2.getD s []).map B_/\(st.2.getD s [])∈st.2:=fun s hs=>by
  have e:=aW (l:=st.2) [] hs;refine⟨?_,aw e⟩;rw[bu,aO,e];rfl
 refine⟨?_,?_,?_,mJ _,?_,?_,?_⟩
 ·show 1<=(st.2.map fun r=>r.map B_).length
  have:=(AM.1 I.head).1;simp;omega
 ·show(st.2.map fun r=>r.map B_).length<=4000
  have:=I.le;simp;omega
 ·simp[hlen]
 ·intro s hs
  rw[aQ]at hs;obtain⟨e,hm⟩:=hrow s hs;show((st.2.map fun r=>r.map B_).getD s []).length=_;rw[e,aQ];exact(I.rows _ hm).1
 ·intro s hs t ht
  rw[aQ]at hs;obtain⟨e,hm⟩:=hrow s hs;replace ht:t∈((st.2.map fun r=>r.map B_).getD s []):=ht;rw[e]at ht;obtain⟨q,hq,rfl⟩:=EV.1 ht;have h2:=(I.rows _ hm).2 q hq;show(0:Int)<=(q:Int)/\(q:Int)<(((st.2.map fun r=>r.map B_).length:Nat):Int);rw[aQ];omega
 ·intro s hs
  rw[aQ]at hs;show rG ((st.1.map (dP ps)).getD s [])=true;rw[bu,aO,az (by omega)];exact Ij ps _
theorem Ns {ps:List PT} {fuel:Int} {d:DF} (h:lp ps fuel=(d,0)):Rt d:=by
 unfold lp at h;split at h
 ·cases h
 ·split at h
  ·cases h
  ·split at h
   ·cases h
   ·rename_i hf
    split at h
    ·cases h
    ·rename_i st hst
     have e:(⟨partsOf (cH ps),st.2.map fun r=>r.map B_,st.1.map (dP ps)⟩:DF)=d:=(Prod.mk.inj h).1;rw[<-e];exact Sb (by omega) hst
section
variable {α:Type} [DecidableEq α]
end
theorem Nu {ps:List PT} {f:Int} (h:(lp ps f).2=0):¬64<ps.length/\ps.all PT.ok=true/\0<=f/\f<=4000/\∃ st,sU ps f.toNat=As st/\(lp ps f).1=⟨partsOf (cH ps),st.2.map fun r=>r.map B_,st.1.map (dP ps)⟩:=by
 unfold lp at h ⊢;split at h
 ·exact absurd h (by decide)
 ·rename_i h1
  split at h
  ·exact absurd h (by decide)
  ·rename_i h2
   split at h
   ·exact absurd h (by decide)
   ·rename_i h3
    rw[if_neg h1,if_neg h2,if_neg h3];rcases e:sU ps f.toNat with _ | st
    ·rw[e]at h
     have h':(181:Int)=0:=h;omega
    ·exact⟨h1,by simpa using h2,by omega,by omega,st,rfl,rfl⟩
theorem Rt.ZF {d:DF} (h:Rt d):Sm d:=by
 have hn:=h.le;have hk:=h.Bk;have idx:∀ (ll:List (List Int)) (l:List Int),l∈ll->∃ i,i<ll.length/\ll.getD i []=l:=fun ll l hl=>by
  obtain⟨i,hi⟩:=F_ hl;exact⟨i,(AM.1 hi).1,getD_some hi⟩
 refine⟨by omega,by omega,by have:=h.mr;omega,fun l hl=>?_,fun l hl=>?_⟩
 ·obtain⟨i,h1,h2⟩:=idx _ _ hl
  have:=h.len i h1;rw[h2]at this;omega
 ·obtain⟨i,h1,h2⟩:=idx _ _ hl
  have hr:=h.TM i (by have:=h.mr;omega);rw[h2]at hr;by_cases h0:l.length=0
  ·omega
  ·have:=K1 hr (l.length-1) (by omega)
   omega
def Sc (v0 v1 v2 v3:Value) (x:PT):List Value:=[v0,v1,v2,v3,Gz x.nf.emp,Gz x.zQ,A' A_ x.mark]
theorem Vs {xs:List Value} {k i j:Nat} (hl:xs.length=k*7) (c:List Value) (hj:j<7) (hi:i<k):(xs++c)[i*7+j]? =xs[i*7+j]? :=bK (by omega)
theorem Je {xs:List Value} {k j:Nat} (hl:xs.length=k*7) (c:List Value):(xs++c)[k*7+j]? =c[j]? :=by rw[cM (by omega),hl];congr 1;omega
theorem ik.form {base:Nat} {w:Bm} {v:Value} {a:NF} (h:ik base w v a):∃ a0 n0 c0 a1 n1 c1 a2 n2 c2 a3 n3 c3,v=B' #[An a0 n0 c0,An a1 n1 c1,An a2 n2 c2,An a3 n3 c3,Gz a.emp]:=by obtain⟨v0,v1,v2,v3,rfl,h0,h1,h2,h3⟩:=h;obtain⟨a0,c0,rfl⟩:=ownsRow_form h0;obtain⟨a1,c1,rfl⟩:=h1.form;obtain⟨a2,c2,rfl⟩:=ownsRow_form h2;obtain⟨a3,c3,rfl⟩:=ownsRow_form h3;exact⟨_,_,_,_,_,_,_,_,_,_,_,_,rfl⟩
theorem Tryz.ZG:(Tryz.prog.info? 124).map (fun i=>(i.zero,i.size,i.bytes))=As (As (B' #[An AF 0 0,An AF 0 0,An AF 0 0,An AF 0 0,Gz false,Gz false,A' A_ 0]),7,120):=by kernel_rfl
def fh (base:Nat) (w:Bm) (v:Value) (ps:List PT):Prop:=∃ cs:List Value,w.ownsRow base 124 7 v ps.length cs/\∀ (i:Nat) (x:PT),ps[i]? =As x->QI (ik base) w x fun j=>cs[i*7+j]?
theorem fh.nil (base:Nat) (w:Bm):fh base w (An AF 0 0) []:=⟨[],World.ownsRow_nil _ _ _ _,fun i x h=>by simp at h⟩
theorem fh.form {base:Nat} {w:Bm} {v:Value} {ps:List PT} (h:fh base w v ps):∃ a c,v=An a ps.length c:=by obtain⟨cs,h1,_⟩:=h;exact ownsRow_form h1
theorem fh.below {base:Nat} {w w':Bm} {v:Value} {ps:List PT} (h:fh base w v ps) (hk:aa w w'):fh base w' v ps:=by obtain⟨cs,h1,h2⟩:=h;exact⟨cs,ak h1 hk,fun i x hx=>(h2 i x hx).mono (fun _ hv=>hv.below hk) fun _ _ _ hu=>hu⟩
theorem fh.pts {base:Nat} {w:Bm} {v:Value} {ps:List PT} (h:fh base w v ps):ji w v ps:=by
 obtain⟨cs,h1,h2⟩:=h;have hlt:=h1.lt;rcases h1.2 with⟨rfl,e2⟩ | ⟨g,cap,cur,rfl,e2,e3,e4,e5,_⟩
 ·exact .inl ⟨rfl,Dm e2⟩
 ·refine .inr ⟨g,0,cap,rfl,(hlt g rfl).2,fun i x hx=>?_⟩
  obtain⟨v0,v1,v2,v3,h0,c0,c1,c2,c3,c4,c5,c6⟩:=h2 i x hx;have ce:∀ (j:Nat) (u:Value),cs[i*7+j]? =As u->w.cell? ⟨g,0+i*7+j,AF⟩=As u:=fun j u hj=>by
   have:=h1.cells (g:=g) rfl _ _ hj;rw[Addr.add_mid]at this;rw[show 0+i*7+j=i*7+j by omega];simpa using this
  exact⟨v0,v1,v2,v3,h0.nf,ce 0 _ c0,ce 1 _ c1,ce 2 _ c2,ce 3 _ c3,ce 4 _ c4,ce 5 _ c5,ce 6 _ c6⟩
theorem fh.more {base:Nat} {w w':Bm} {v v' v0 v1 v2 v3:Value} {ps:List PT} {cs:List Value} {x:PT} (h1:w.ownsRow base 124 7 v ps.length cs) (h2:∀ (i:Nat) (x:PT),ps[i]? =As x->QI (ik base) w x fun j=>cs[i*7+j]?) (hn:ik base w (B' #[v0,v1,v2,v3,Gz x.nf.emp]) x.nf) (hg:w.grownBy w' v.ownBlock) (ho:w'.ownsRow base 124 7 v' (ps.length+1) (cs++Sc v0 v1 v2 v3 x)):fh base w' v' (ps++ [x]):=by
 have uz:ae (fun y=>y<w.heap.size/\v.ownBlock≠As y) w w':=ae.bB hg fun y hy=>⟨hy.1,fun e=>hy.2 e.symm⟩
 have hl:=h1.1;refine⟨cs++Sc v0 v1 v2 v3 x,by rw[aJ];exact ho,fun i y hy=>?_⟩;by_cases e:i<ps.length
 ·rw[bK e]at hy
  exact(h2 i y hy).mono (fun _ hv=>hv.far h1 (by decide) (by decide) (by decide) uz) fun j hj u hu=>(Vs hl _ hj e).trans hu
 ·have hl2:=(AM.1 hy).1
  rw[aJ,FG]at hl2;obtain rfl:i=ps.length:=by omega
  rw[cM (aG _),DH]at hy;cases hy;refine⟨v0,v1,v2,v3,hn.far h1 (by decide) (by decide) (by decide) uz,?_,?_,?_,?_,?_,?_,?_⟩<;>exact Je hl _
theorem xq {n:Nat} {l:List Int} (h:dV 0 ((n:Int)-1) l=true):l.length<=n:=by
 obtain⟨h1,h2⟩:=dW h;have hn:(l.map fun x=>x.toNat).Nodup:=by rw[Bs,GH];exact h1.imp_of_mem fun {a b} ha hb hab=>by have:=h2 a ha;have:=h2 b hb;omega
 have:=List.Nodup.length_le_of_subset hn (l₂:=GB n) fun x hx=>by
  obtain⟨y,hy,rfl⟩:=EV.1 hx;have:=h2 y hy;exact C_.2 (by omega)
 simpa using this
theorem Nt.smn {a:NF} (h:Nt a):Qs a:=by have hle:=h.le;refine⟨by omega,by have:=h.cK;omega,by have:=xq h.fst;omega,by have:=xq h.cW;omega,fun l hl=>?_⟩;obtain⟨p,hp⟩:=F_ hl;have hpl:=(AM.1 hp).1;have:=xq (h.row p (by rw[<-h.cK];exact hpl));rw[bu,hp]at this;have e:(As l).getD []=l:=rfl;rw[e]at this;omega
def ZH (s:List (Nat×Nat×Nat)×Bool×Nat):PT:=⟨(gY s.1).nf,s.2.1,s.2.2⟩
def Vt (l:List (List (Nat×Nat×Nat)×Bool×Nat)):List PT:=(l.take 4).map ZH
def qB (n0 n1 n2:Nat) (code:Int) (d:DF) (W:Bm) (e:Ending) (w':Bm):Prop:=
 ∃ a0 c0 a1 c1 a2 c2,e=DP (.tuple #[B' #[An a0 n0 c0,An a1 n1 c1,An a2 n2 c2],A' A_ code])/\bN W.heap.size w' (B' #[An a0 n0 c0,An a1 n1 c1,An a2 n2 c2]) d/\aa W w'
theorem bN.qC {w:Bm} {b:Nat} {t:TypeId} {v0 v1 v2:Value} (h:ar w b #[v0,v1,v2] t):w.cell? ⟨b,0,AF⟩=As v0/\w.cell? ⟨b,1,AF⟩=As v1/\w.cell? ⟨b,2,AF⟩=As v2:=⟨h.cell 0,h.cell 1,h.cell 2⟩
def dG (ps:List PT) (ls:List Nat) (row:List (List Int)) (k:Nat):List (List Int):=eX ps row (ls.getD k 0)
def xr (ps:List PT) (ls:List Nat) (f:Nat):Option (List (List (List Int))×List (List Nat)):=
 if f=0 then AF else jq f (dG ps ls) ls.length (lS ps) f
theorem Vu {f:Nat} {rows:List (List (List Int))} {row:List Nat} {q:List (List Int)} (h:q∈rows):uP f (rows,row) q=As (rows,row++ [YI rows q]):=Qp (st:=(rows,row)) h
theorem Sd {f:Nat} {rows:List (List (List Int))} {row:List Nat} {q:List (List Int)} (h:q∉rows) (hf:rows.length<f):uP f (rows,row) q=As (rows++ [q],row++ [rows.length]):=Qo (st:=(rows,row)) h (Nat.ne_of_lt hf)
theorem Nv {f:Nat} {rows:List (List (List Int))} {row:List Nat} {q:List (List Int)} (h:q∉rows) (hf:rows.length=f):uP f (rows,row) q=none:=Mp (st:=(rows,row)) h hf
theorem Lb {ps:List PT} {ls:List Nat} {f n:Nat} (hf:1<=f) {st:List (List (List Int))×List (List Nat)} (h:jq f (dG ps ls) ls.length (lS ps) n=As st):Yv f ls.length (pM ps) (lS ps) n st:=
 Bl hf (Bt ps) (fun _ _ hr _=>rM hr _) n h
theorem Vv {ps:List PT} {ls:List Nat} {f n:Nat} (hf:1<=f) {st:List (List (List Int))×List (List Nat)} (h:jq f (dG ps ls) ls.length (lS ps) n=As st) (hn:st.1.length=n):xr ps ls f=As st:=by unfold xr;rw[if_neg (by omega)];exact Qg h (by omega) f (by have:=(Lb hf h).le;omega)
theorem Sg {ps:List PT} {ls:List Nat} {f n:Nat} {rows:List (List (List Int))} {Bn:List (List Nat)} (h:jq f (dG ps ls) ls.length (lS ps) n=As (rows,Bn)) {p:List (List Int)} (hp:rows[n]? =As p): jq f (dG ps ls) ls.length (lS ps) (n+1)=(gT f (dG ps ls p) rows ls.length).map fun r=>(r.1,Bn++ [r.2]):=by rw[jq,h];show qg f (dG ps ls) ls.length n (rows,Bn)=_;unfold qg;simp only[hp]
theorem Vw {ps:List PT} {ls:List Nat} {f n k:Nat} (hf:1<=f) {rows:List (List (List Int))} {Bn:List (List Nat)} (h:jq f (dG ps ls) ls.length (lS ps) n=As (rows,Bn)) {p:List (List Int)} (hp:rows[n]? =As p) {Sh:List (List (List Int))} {row':List Nat} (hr:gT f (dG ps ls p) rows k=As (Sh,row')) (hk:k<ls.length) (hq:dG ps ls p k∉Sh) (pG:f<=Sh.length):xr ps ls f=none:=by
 have I:=Lb hf h;have R:=rH (P:=fun _=>True) I.nodup I.le (fun _ _=>trivial) k (fun _ _=>trivial) hr;have h1:gT f (dG ps ls p) rows (k+1)=none:=by rw[gT,hr];exact Nv hq (Nat.le_antisymm R.le pG)
 have h2:=H8 h1 ls.length (by omega);have h3:=Sg h hp;rw[h2]at h3;have hn:n<rows.length:=(AM.1 hp).1;have hle:rows.length<=f:=I.le;unfold xr;rw[if_neg (by omega)];exact Ml h3 f (by omega)
theorem xw {wm wg:Bm} {mb base L:Nat} {cs:Array Value} {nv:Value} {ns:List Value} (hb:ar wm mb cs 196) (hn:wm.ownsRow base 39 1 nv L ns) (K:ae (fun x=>x<wm.heap.size/\x≠mb/\nv.ownBlock≠As x) wm wg) {b n:Nat} {e:TypeId} {v:Value} {xs:List Value} (h:wm.ownsRow b e 1 v n xs) (h1:196≠e) (h3:e≠39\/∀ x,v.ownBlock=As x->nv.ownBlock≠As x):wg.ownsRow b e 1 v n xs:=
 aj h K fun x hx=>⟨(h.lt x hx).2,cy hb h h1 x hx,fun e2=>by
  rcases h3 with h3 | h3
  ·rcases ownBlock_ne h3 h hn with h5 | h5
   ·rw[h5]at hx;cases hx
   ·exact h5 (by rw[hx,e2])
  ·exact h3 x hx e2⟩
theorem pK.not {u v:Value} (h:pK u v):∀ x,u.ownBlock=As x->v.ownBlock≠As x:=fun x e e2=>by
 rcases h with h | h
 ·rw[h]at e;cases e
 ·exact h (by rw[e,e2])
theorem pK.not' {u v:Value} (h:pK u v):∀ x,v.ownBlock=As x->u.ownBlock≠As x:=fun x e e2=>h.not x e2 e
theorem Mk.next {F:Nat->Prop} {wm wg:Bm} {base mb ob f L:Nat} {pv cv:Value} {ps:List PT} {rows:List (List (List Int))} {nx:List (List Int)} {sv nv kv nv' xv:Value} {us ns ks:List Value} {l:List Int} (M:Mk F wm base mb ob f pv cv ps rows nx sv nv kv us ns ks) (hL:L=nx.length) (K:ae (fun x=>x<wm.heap.size/\x≠mb/\nv.ownBlock≠As x) wm wg) (hblk:ar wg mb #[pv,A' A_ f,sv,.map (As ob),cv,nv',kv] 196) (Uc:ig F wg base 39 nv' (L+1) (ns++ [xv])) (hx:ig F wg base 3 xv l.length (l.map aM)) (Dr:nv'.ownBlock=nv.ownBlock\/∀ x,nv'.ownBlock=As x->wm.heap.size<=x):Mk F wg base mb ob f pv cv ps rows (nx++ [l]) sv nv' kv us (ns++ [xv]) ks where
 blk:=hblk
 map:=M.map.keeps K ⟨M.map.lt,(fun e=>by have h2:wm.heap[mb]? =_:=M.blk;have h3:wm.heap[ob]? =_:=M.map;rw[e,h2]at h3;cases h3),fun e=>lZ M.uT.1 M.map (fun c fz e=>by cases e) ob e rfl⟩
 fm:=M.fm
 fo:=M.fo
 bm:=M.bm
 bo:=M.bo
 st:=⟨xw M.blk M.uT.1 K M.st.1 (by decide) (.inl (by decide)),M.st.2⟩
 TR:=fun i u q hu hq=>by
  obtain⟨⟨vs,h1,h2⟩,h3,h4⟩:=M.TR i u q hu hq;exact⟨⟨vs,⟨xw M.blk M.uT.1 K h1.1 (by decide) (.inr h3.not),h1.2⟩,fun i u l hu hl=>⟨xw M.blk M.uT.1 K (h2 i u l hu hl).1 (by decide) (.inl (by decide)),(h2 i u l hu hl).2⟩⟩,h3.step Dr fun b e=>(h1.1.lt b e).2,h4⟩
 uT:=by rw[aJ, <-hL];exact Uc
 OH:=fun i u l' hu hl=>by
  have Re:ns.length=L:=by have:=M.uT.1.1;omega
  by_cases hi:i<L
  ·rw[bK (by omega)]at hu
   rw[bK (by omega)]at hl;exact⟨xw M.blk M.uT.1 K (M.OH i u l' hu hl).1 (by decide) (.inl (by decide)),(M.OH i u l' hu hl).2⟩
  ·have gJ:=(AM.1 hu).1
   simp at gJ;obtain rfl:i=L:=by omega
   rw[cM (by omega),Re,DH]at hu;rw[cM (by omega), <-hL,DH]at hl;cases hu;cases hl;exact hx
 uu:=⟨xw M.blk M.uT.1 K M.uu.1 (by decide) (.inr M.far.not'),M.uu.2⟩
 OI:=fun i u l hu hl=>⟨xw M.blk M.uT.1 K (M.OI i u l hu hl).1 (by decide) (.inl (by decide)),(M.OI i u l hu hl).2⟩
 far:=by
  rcases Dr with h | h
  ·rcases M.far with h5 | h5
   ·exact .inl (h.trans h5)
   ·exact .inr (by rw[h];exact h5)
  ·cases e:nv'.ownBlock with
   | none=>exact .inl e
   | some x=>exact .inr fun e2=>by have:=h x e;have:=(M.uu.1.lt x (by rw[<-e2,e])).2;omega
end
end Go.Proofs.YtjgccapbphadjaaGreatDoor
