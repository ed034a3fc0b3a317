/- The law's Made of small steps: its block Z. Printed by wip/gen/made08.py. -/
import Derived.Test.YtalombmiochpmaaGreatDoorOR27
set_option maxRecDepth 100000
set_option maxHeartbeats 16000000
open Go.Lib (hid)
namespace Go.Proofs.YtalombmiochpmaaGreatDoor
open Go Go.RowKit Go.Shelf Go.Maps
theorem T9 (b off c:Nat) (l:List (Nat×Nat×Nat)) (w:World) (hb:b<w.heap.size) (hc:l.length<=c) (lL:l.length<=1000000000000000) (hS:∀ (i:Nat) (s:Nat×Nat×Nat),l[i]? =some s->s.1<256/\s.2.1<256/\s.2.2<256/\w.cell? ⟨b,off+i*3,none⟩=some (.int .u8 s.1)/\w.cell? ⟨b,off+i*3+1,none⟩=some (.int .u8 s.2.1)/\w.cell? ⟨b,off+i*3+2,none⟩=some (.int .u8 s.2.2)):(eN b off c l w hb hc lL hS).G:=by
 have HS:=hid hS;intro iN xJ j3 j4 j5 R HR n lL hc N il JI rF JK vu HN zx zy zz V R0 X0 uE
 intros
 rename_i k hk wo hlt gz s0 s1 s2 PP Lv JL Lx ru rc m tV uf gr kS HST oD HM xm sD Gn Dp Dq Dr Dt Du W1 B1 eF lI d0 d1 d2 kd MZ lU hbase Bc hA hB hC hD hE hG;have a1:¬ ((kd:Int)<4):=by omega
 have a2:((kd:Int)==4)=false:=by simp;omega
 have a3:¬ ((kd:Int)<7):=by omega
 have a5:¬ ((kd:Int)<9):=by omega
 have a6:((kd:Int)==9)=false:=by simp;omega
 have a7:(9:Int)<kd:=by omega
 have a8:(0:Int)<m:=by omega
 obtain⟨r,hr⟩:∃ r,r=m-1:=⟨_,rfl⟩;have hw1:IntKind.i64.wrap ((m:Int)-1)=(r:Int):=by rw[IntWalk.i64_in _ (by omega)];omega
 have Xh:r<m:=by omega
 have hri:(r:Int)<m:=by omega
 have hx1:PP.all[r]? =some PP.last:=by unfold dH.last;rw[<-HM.out, <-hr];exact aI _ (by rw[<-HM.out];exact Xh)
 obtain⟨y1,JM⟩:∃ y,y=PP.last:=⟨_,rfl⟩;rw[<-JM]at hx1;have IM:PP.step (s0,s1,s2)=if 9<kd/\0<m/\y1.kind≠1 then(if PP.oC*jo s1 s2<=16 then⟨PP.put 1 (.nd 5 0 (fH s1) (kM s1 s2) [y1]),PP.oC*jo s1 s2,PP.Ap⟩else PP)else PP:=by unfold dH.step;dsimp only;rw[<-Bc.out, <-HM.out,if_neg hA,if_neg hB,if_neg hC,if_neg hD, <-sD.out,if_neg hE, <-JM]
 obtain⟨g,p1,c1,e9,hmc,lZ,hgb,Fs,⟨f0,f1,f2,f3,f4,f5,f6,f7⟩,t1⟩:=eF.out.elem hx1;subst e9;have T1:=hid t1;clear t1;obtain⟨kb,hkb⟩:∃ x,x=y1.kind:=⟨_,rfl⟩;obtain⟨nb,uD⟩:∃ x,x=y1.subs.length:=⟨_,rfl⟩;obtain⟨sb,sW⟩:∃ x,x=y1.set:=⟨_,rfl⟩;obtain⟨mb,xg⟩:∃ x,x=y1.mn:=⟨_,rfl⟩;obtain⟨xb,JH⟩:∃ x,x=y1.mx:=⟨_,rfl⟩;rw[<-hkb]at f0;rw[<-sW]at f1 f2 f3 f4;rw[<-xg]at f5;rw[<-JH]at f6;rw[<-uD]at f7;rw[<-hkb, <-uD, <-sW, <-xg, <-JH]at T1;have HKB:=hid hkb;have akD:=hid hx1;have HR1:=hid hr;clear hkb uD sW xg JH hx1 hr hmc;have YY:W1.rangeAt g (r*8) (au kb sb mb xb (.slice p1 nb c1)).toList:=fun j v hj=>by
  have hl:=(List.getElem?_eq_some_iff.1 hj).1;have h8:(au kb sb mb xb (.slice p1 nb c1)).toList.length=8:=rfl;rw[h8]at hl;have hc:j=0\/j=1\/j=2\/j=3\/j=4\/j=5\/j=6\/j=7:=by omega
  rcases hc with rfl | rfl | rfl | rfl | rfl | rfl | rfl | rfl<;>cases hj<;>assumption
 have Pr:=hid YY;clear YY;by_cases uO:kb=1
 ·have b0:((kb:Int)==1)=true:=by simp[uO]
  have b0':((kb:Int) != 1)=false:=by simp[uO]
  have hst:PP.step (s0,s1,s2)=PP:=by rw[IM,if_neg (fun h=>h.2.2 (by rw[<-HKB.out];exact uO))]
  have mA:=hid hst;clear hst IM JM hA hB hC hD hE hG uO;go_wp2;go_roundw;case rel=>
   refine⟨k+1,by omega,by go_num,by rw[HST.out,mA.out, <-xm.out],by rw[HST.out,mA.out, <-sD.out],by rw[HST.out,mA.out];exact eF.out,lI.out⟩
  case measure=>simp[intOf];omega
 ·have b0:((kb:Int)==1)=false:=by simp;omega
  have b0':((kb:Int) != 1)=true:=by simp;omega
  rw[if_pos ⟨hG.1,hG.2,by rw[<-HKB.out];exact uO⟩]at IM;have afD:=hid IM;obtain⟨n3,JF⟩:∃ x,x=s1%3:=⟨_,rfl⟩;obtain⟨m4,Gm⟩:∃ x,x=s2%4:=⟨_,rfl⟩;have asz:n3<3:=by omega
  have asA:m4<4:=by omega
  have asB:Int.tmod (s1:Int) 3=(n3:Int):=by rw[Int.tmod_eq_emod_of_nonneg (by omega)];omega
  have asC:Int.tmod (s2:Int) 4=(m4:Int):=by rw[Int.tmod_eq_emod_of_nonneg (by omega)];omega
  have asD:IntKind.i64.wrap (n3:Int)=(n3:Int):=IntWalk.i64_in _ (by omega);have asE:IntKind.i64.wrap (m4:Int)=(m4:Int):=IntWalk.i64_in _ (by omega);have U5:=Pq s1 s2;obtain⟨T,UU⟩:∃ T,T=jo s1 s2:=⟨_,rfl⟩;have HTS:Hid (max (max (fH s1:Int) (kM s1 s2)) 1=(jo s1 s2:Int)):=hid U5.2.2;have akF:1<=T/\T<=3:=by omega
  obtain⟨UT,hUT⟩:∃ U,U=uf*T:=⟨_,rfl⟩;have asG:(uf:Int)*(T:Int)=(UT:Int):=by rw[hUT];simp
  have anD:UT<=48:=by rw[hUT];exact Nat.le_trans (Nat.mul_le_mul kS akF.2) (by decide)
  have asH:IntKind.i64.wrap ((UT:Nat):Int)=(UT:Int):=IntWalk.i64_in _ (by omega);have HN3:=hid JF;have HM4:=hid Gm;have Xi:=hid UU;have HUT:=hid hUT;clear IM JM hA hB hC hD hE hG uO JF Gm U5 UU hUT;go_upto_region 20 with fail
  refine aD false (fun _=>False) (by kernel_rfl) 9 [0,1,3,7,0,16,48,112,15,511] (fun i=>i==99) (by kernel_rfl) (fun _=>aH.any _) ?_;intro C hC hne;have HC:=hid hC;have q1:=ak hC (p:=⟨wo.heap.size,1,none⟩) B1.out.lt (fun h=>h) d1;have q2:=ak hC (p:=⟨wo.heap.size,2,none⟩) B1.out.lt (fun h=>h) d2;clear hC
  repeat (refine ae (fun K hK=>?_);first | (refine aR rfl ?_;try go_simp;refine hK _ _ ?_;clear hK K) | (refine aO rfl rfl ?_;unfold ai;go_simp;refine hK _ _ ?_;clear hK K))
  refine bh (fun W hW hH=>?_);have hM:=(HC.out W).1 hW;have M0:aa (· <W1.heap.size) W1 W:=aa.ag hM.below fun _ h=>h
  have eF:=hid (eF.out.below hM.below);have lI:Hid (aa (· <V.heap.size) V W):=hid (lI.out.tr (M0.mono fun x (hx:x<V.heap.size)=>Nat.lt_of_lt_of_le hx hbase));have xI:W1.heap.size<=W.heap.size:=hM.size;have hbase:V.heap.size<=W.heap.size:=lI.out.size;have T1:Hid (aL (fun x=>V.heap.size<=x/\x<W.heap.size/\x≠g) W (.agg (au kb sb mb xb (.slice p1 nb c1))) y1):=hid ((T1.out.keeps M0 fun x hx=>hx.2.1).mono fun x hx=>⟨hx.1,by have:=hx.2.1;omega,hx.2.2⟩);have Pr:=hid (gF Pr.out M0 Fs);have kw:∀ (o:Nat) (v:Value),W1.cell? ⟨g,o,none⟩=some v->W.cell? ⟨g,o,none⟩=some v:=fun o v h=>(M0.cell (p:=⟨g,o,none⟩) Fs).trans h
  replace f0:=kw _ _ f0;replace f1:=kw _ _ f1;replace f2:=kw _ _ f2;replace f3:=kw _ _ f3;replace f4:=kw _ _ f4;replace f5:=kw _ _ f5;replace f6:=kw _ _ f6;replace f7:=kw _ _ f7;have Fs:g<W.heap.size:=by omega
  clear hM M0 kw hW hH HC hne q1 q2 d0 d1 d2 B1;obtain⟨mv,Mm⟩:∃ mv:Int,mv=kM s1 s2:=⟨_,rfl⟩;have afE:mv=if m4<n3\/m4=0\/(n3=1/\m4=1)then-1 else(m4:Int):=by rw[Mm];unfold kM fH;rw[<-HN3.out, <-HM4.out]
  have HMV:=hid Mm;have afF:=hid afE;clear Mm afE;go_upto_region 21 with fail
  go_cut [161] from 147 to 161 (fun b wx=>b=.bool (decide (m4<n3\/m4=0\/(n3=1/\m4=1)))/\wx=W)
  case first=>
   by_cases b1:m4<n3
   ·have b1i:(m4:Int)<n3:=by omega
    have D:=hid (decide_eq_true (.inl b1:m4<n3\/m4=0\/(n3=1/\m4=1)));clear b1;go_wp2_with fail
    go_meet
    exact⟨by rw[D.out],rfl⟩
   ·have b1i:¬ ((m4:Int)<n3):=by omega
    by_cases b2:m4=0
    ·have b2i:((m4:Int)==0)=true:=by simp[b2]
     have D:=hid (decide_eq_true (.inr (.inl b2):m4<n3\/m4=0\/(n3=1/\m4=1)));clear b1 b2;go_wp2_with fail
     go_meet
     exact⟨by rw[D.out],rfl⟩
    ·have b2i:((m4:Int)==0)=false:=by simp;omega
     by_cases b3:n3=1
     ·have b3i:((n3:Int)==1)=true:=by simp[b3]
      by_cases b4:m4=1
      ·have b4i:((m4:Int)==1)=true:=by simp[b4]
       have D:=hid (decide_eq_true (.inr (.inr ⟨b3,b4⟩):m4<n3\/m4=0\/(n3=1/\m4=1)));clear b1 b2 b3 b4;go_wp2_with fail
       go_meet
       exact⟨by rw[D.out],rfl⟩
      ·have b4i:((m4:Int)==1)=false:=by simp;omega
       have D:=hid (decide_eq_false (by omega:¬ (m4<n3\/m4=0\/(n3=1/\m4=1))));clear b1 b2 b3 b4;go_wp2_with fail
       go_meet
       exact⟨by rw[D.out],rfl⟩
     ·have b3i:((n3:Int)==1)=false:=by simp;omega
      have D:=hid (decide_eq_false (by omega:¬ (m4<n3\/m4=0\/(n3=1/\m4=1))));clear b1 b2 b3;go_wp2_with fail
      go_meet
      exact⟨by rw[D.out],rfl⟩
  case rest=>
  obtain⟨rfl,hwc⟩:=hcut;replace hwc:=hwc.symm;subst hwc
  go_upto_if 161 with fail
  go_cut [11] from 161 to 161 (fun x wx=>x=.int .i64 mv/\wx=W)
  case first=>
   by_cases e:m4<n3\/m4=0\/(n3=1/\m4=1)
   ·have d:=decide_eq_true e
    go_wp2_with fail
    go_meet
    exact⟨by rw[afF.out,if_pos e],rfl⟩
   ·have d:=decide_eq_false e
    go_wp2_with fail
    go_meet
    exact⟨by rw[afF.out,if_neg e],rfl⟩
  case rest=>
  obtain⟨rfl,hwc⟩:=hcut;replace hwc:=hwc.symm;subst hwc;have hT3:=HTS.out;rw[<-HMV.out]at hT3;have afG:max (max (n3:Int) mv) 1=(T:Int):=by rw[HN3.out,Xi.out];exact hT3
  have Xb:=(Xg (n3:Int) mv).trans afG;have MH:Hid (kM s1 s2=mv):=hid HMV.out.symm;clear hT3 afG;by_cases Hd:UT<=16
  ·have Oc:(UT:Int)<=16:=by omega
   have hst:PP.step (s0,s1,s2)=⟨PP.all.take r++ [.nd 5 0 (n3:Int) mv [y1]],UT,PP.Ap⟩:=by
    rw[afD.out,if_pos (by rw[<-Xi.out, <-xm.out, <-HUT.out];exact Hd),MH.out];have e1:((fH s1:Nat):Int)=(n3:Int):=by unfold fH;rw[HN3.out]
    rw[e1, <-Xi.out, <-xm.out, <-HUT.out];unfold dH.put;rw[<-HM.out, <-HR1.out]
   have mA:=hid hst;clear hst Hd;go_wp2_with (first | (refine zw rfl 62 (.tmp 178) rfl g (r*8) rfl (au kb sb mb xb (.slice p1 nb c1)) _ Pr.out Tryz.underlying62 rfl (dE _ _ _ _ _) ?_) | (go_at_call 52;refine Hid.out ?_));refine hid ?_;refine(Pp _ y1 (n3:Int) mv (fun x=>V.heap.size<=x/\x<W.heap.size/\x≠g) W (fun x hx=>hx.2.1) T1.out).mono ?_;rintro e W2 ⟨u,rfl,hu,hx2⟩;have HU:=hid hu;obtain⟨pu,cu,rfl⟩:=hu.form;have IU:=hid (eF.out.below hx2);have gP:Hid (aa (· <V.heap.size) V W2):=hid (lI.out.tr (aa.ag hx2 fun x (hx:x<V.heap.size)=>Nat.lt_of_lt_of_le hx hbase));obtain⟨cs,q1,q2,q3,q4⟩:=IU.out;rw[<-HM.out]at q2;have kc:∀ (o:Nat) (v:Value),W.cell? ⟨g,o,none⟩=some v->W2.cell? ⟨g,o,none⟩=some v:=fun o v h=>((aa.ag hx2 fun _ h=>h:aa (· <W.heap.size) W W2).cell (p:=⟨g,o,none⟩) Fs).trans h
   replace f0:=kc _ _ f0;replace f1:=kc _ _ f1;replace f2:=kc _ _ f2;replace f3:=kc _ _ f3;replace f4:=kc _ _ f4;replace f5:=kc _ _ f5;replace f6:=kc _ _ f6;replace f7:=kc _ _ f7;have z0:W2.frozen? ⟨g,r*8,none⟩=false:=q2.frozenAt _;have z1:W2.frozen? ⟨g,r*8+1,none⟩=false:=q2.frozenAt _;have z2:W2.frozen? ⟨g,r*8+2,none⟩=false:=q2.frozenAt _;have z3:W2.frozen? ⟨g,r*8+3,none⟩=false:=q2.frozenAt _;have z4:W2.frozen? ⟨g,r*8+4,none⟩=false:=q2.frozenAt _;have z5:W2.frozen? ⟨g,r*8+5,none⟩=false:=q2.frozenAt _;have z6:W2.frozen? ⟨g,r*8+6,none⟩=false:=q2.frozenAt _;have z7:W2.frozen? ⟨g,r*8+7,none⟩=false:=q2.frozenAt _;have Q1:=hid q1;have Q2:=hid q2;have Q3:=hid q3;have Q4:=hid q4;have akE:V.heap.size<=g:=hgb;have hs2:W.heap.size<=W2.heap.size:=hx2.size;clear hu hx2 kc q1 q2 q3 q4 IU eF lI;simp only[RX.kind,RX.set,RX.mn,RX.mx,RX.subs,List.length_cons,List.length_nil,Nat.zero_add]at HU ⊢;unfold au;go_upto_region 27 with fail
   refine aw ?_;intro W3 hW3;have K3:Hid (aa (· ≠g) W2 W3):=by rw[hW3];exact hid (((((((((aa.refl _ _).setCell (fun e=>e rfl) _).setCell (fun e=>e rfl) _).setCell (fun e=>e rfl) _).setCell (fun e=>e rfl) _).setCell (fun e=>e rfl) _).setCell (fun e=>e rfl) _).setCell (fun e=>e rfl) _).setCell (fun e=>e rfl) _)
   have R9:Hid (cd V.heap.size W3 (.slice (some ⟨g,0,none⟩) m rc) (PP.all.set r (.nd 5 0 (n3:Int) mv [y1]))):=by
    rw[hW3,HM.out];refine hid (cd.turned (by rw[<-HM.out];exact Xh) Q1.out (by rw[<-HM.out];exact Q2.out) Q3.out (fun i c t hi ht=>(Q4.out i c t hi ht).mono fun x hx=>⟨hx.1,hx.2.1,fun e=>hx.2.2 (by rw[e];rfl)⟩) ?_ ?_)
    ·exact(cP _ _ _ _ _ _ _).2
    ·exact HU.out.mono fun x hx=>⟨by rcases hx.2 with h | h;exact h.1;omega,hx.1,fun e=>by rcases hx.2 with h | h;exact h.2.2 e;omega⟩
   have K9:Hid (aa (· <V.heap.size) V W3):=hid (gP.out.tr (K3.out.mono fun x (hx:x<V.heap.size)=>by show x≠g;omega));clear hW3 f0 f1 f2 f3 f4 f5 f6 f7 z0 z1 z2 z3 z4 z5 z6 z7 Q1 Q2 Q3 Q4 HU gP K3;have pD:PP.all.set r (.nd 5 0 (n3:Int) mv [y1])=PP.all.take r++ [.nd 5 0 (n3:Int) mv [y1]]:=by
    have e:=mU (l:=PP.all) (by rw[<-HM.out];omega);rw[<-HM.out, <-HR1.out]at e
    conv=>lhs;rw[e]
    rw[List.set_append_right _ _ (by rw[List.length_take];omega),List.length_take,Nat.min_eq_left (by rw[<-HM.out];omega),Nat.sub_self];rfl
   have AO:=hid pD;clear pD;go_wp2;go_roundw;case rel=>
    refine⟨k+1,by omega,by go_num,?_,?_,?_,K9.out⟩
    ·have e7:(jQ (l.take (k+1))).oC=UT:=by rw[HST.out,mA.out]
     rw[e7]
     try rfl
     try go_num
    ·have e7:(jQ (l.take (k+1))).Ap=gr:=by rw[HST.out,mA.out];exact sD.out.symm
     rw[e7]
     try rfl
     try go_num
    ·rw[HST.out,mA.out, <-AO.out]
     have e8:(PP.all.set r (.nd 5 0 (n3:Int) mv [y1])).length=m:=by rw[List.length_set];exact HM.out.symm
     exact R9.out
   case measure=>simp[intOf];omega
  ·have Oc:¬ ((UT:Int)<=16):=by omega
   have hst:PP.step (s0,s1,s2)=PP:=by rw[afD.out,if_neg (by rw[<-Xi.out, <-xm.out, <-HUT.out];exact Hd)]
   have mA:=hid hst;clear hst Hd;go_wp2;go_roundw;case rel=>
    refine⟨k+1,by omega,by go_num,by rw[HST.out,mA.out, <-xm.out],by rw[HST.out,mA.out, <-sD.out],by rw[HST.out,mA.out];exact eF.out,lI.out⟩
   case measure=>simp[intOf];omega
theorem Ua (b off c:Nat) (l:List (Nat×Nat×Nat)) (w:World) (hb:b<w.heap.size) (hc:l.length<=c) (lL:l.length<=1000000000000000) (hS:∀ (i:Nat) (s:Nat×Nat×Nat),l[i]? =some s->s.1<256/\s.2.1<256/\s.2.2<256/\w.cell? ⟨b,off+i*3,none⟩=some (.int .u8 s.1)/\w.cell? ⟨b,off+i*3+1,none⟩=some (.int .u8 s.2.1)/\w.cell? ⟨b,off+i*3+2,none⟩=some (.int .u8 s.2.2)):(eN b off c l w hb hc lL hS).H:=by
 have HS:=hid hS;intro iN xJ j3 j4 j5 R HR n lL hc N il JI rF JK vu HN zx zy zz V R0 X0 uE
 intros
 rename_i k hk wo hlt gz s0 s1 s2 PP Lv JL Lx ru rc m tV uf gr kS HST oD HM xm sD Gn Dp Dq Dr Dt Du W1 B1 eF lI d0 d1 d2 kd MZ lU hbase Bc hA hB hC hD hE hG mA a1 a2;go_upto_region 12 with fail
 go_cut [48] from 49 to 54 (fun x wx=>x=.bool false/\wx=W1)
 case first=>
  by_cases hq:kd<7
  ·have a3:(kd:Int)<7:=by omega
   have a4:¬ ((1:Int)<m):=by omega
   go_wp2_with fail
   go_meet
   exact⟨rfl,rfl⟩
  ·have a3:¬ ((kd:Int)<7):=by omega
   go_wp2_with fail
   go_meet
   exact⟨rfl,rfl⟩
 case rest=>
 obtain⟨rfl,hwc⟩:=hcut;replace hwc:=hwc.symm;subst hwc;go_upto_region 14 with fail
 go_cut [74] from 75 to 80 (fun x wx=>x=.bool false/\wx=W1)
 case first=>
  by_cases hq:kd<9
  ·have a3:(kd:Int)<9:=by omega
   have a4:¬ ((1:Int)<m):=by omega
   go_wp2_with fail
   go_meet
   exact⟨rfl,rfl⟩
  ·have a3:¬ ((kd:Int)<9):=by omega
   go_wp2_with fail
   go_meet
   exact⟨rfl,rfl⟩
 case rest=>
 obtain⟨rfl,hwc⟩:=hcut;replace hwc:=hwc.symm;subst hwc;go_upto_region 16 with fail
 go_cut [100] from 101 to 110 (fun x wx=>x=.bool false/\wx=W1)
 case first=>
  by_cases hq:kd=9
  ·have a6:((kd:Int)==9)=true:=by simp[hq]
   by_cases h0:0<m
   ·have a8:(0:Int)<m:=by omega
    have a9:¬ ((gr:Int)<9):=by omega
    clear hq;go_wp2_with fail
    go_meet
    exact⟨rfl,rfl⟩
   ·have a8:¬ ((0:Int)<m):=by omega
    clear hq;go_wp2_with fail
    go_meet
    exact⟨rfl,rfl⟩
  ·have a6:((kd:Int)==9)=false:=by simp;omega
   go_wp2_with fail
   go_meet
   exact⟨rfl,rfl⟩
 case rest=>
 obtain⟨rfl,hwc⟩:=hcut;replace hwc:=hwc.symm;subst hwc;go_upto_region 19 with fail
 go_cut [123] from 124 to 138 (fun x wx=>x=.bool false/\wx=W1)
 case first=>
  by_cases hq:9<kd
  ·have a7:(9:Int)<kd:=by omega
   have a8:¬ ((0:Int)<m):=by omega
   go_wp2_with fail
   go_meet
   exact⟨rfl,rfl⟩
  ·have a7:¬ ((9:Int)<kd):=by omega
   go_wp2_with fail
   go_meet
   exact⟨rfl,rfl⟩
 case rest=>
 obtain⟨rfl,hwc⟩:=hcut;replace hwc:=hwc.symm;subst hwc;go_wp2;go_roundw;case rel=>
  refine⟨k+1,by omega,by go_num,by rw[HST.out,mA.out, <-xm.out],by rw[HST.out,mA.out, <-sD.out],by rw[HST.out,mA.out];exact eF.out,lI.out⟩
 case measure=>simp[intOf];omega
theorem Ub (b off c:Nat) (l:List (Nat×Nat×Nat)) (w:World) (hb:b<w.heap.size) (hc:l.length<=c) (lL:l.length<=1000000000000000) (hS:∀ (i:Nat) (s:Nat×Nat×Nat),l[i]? =some s->s.1<256/\s.2.1<256/\s.2.2<256/\w.cell? ⟨b,off+i*3,none⟩=some (.int .u8 s.1)/\w.cell? ⟨b,off+i*3+1,none⟩=some (.int .u8 s.2.1)/\w.cell? ⟨b,off+i*3+2,none⟩=some (.int .u8 s.2.2)):(eN b off c l w hb hc lL hS).Z:=by
 have HS:=hid hS;intro iN xJ j3 j4 j5 R HR n lL hc vu zx zy zz V R0 X0 uE u3
 intros
 rename_i k wo hrow HX il JI rF JK HN hk hlt KD;obtain⟨PP,hPP⟩:∃ PP,PP=jQ (l.take k):=⟨_,rfl⟩;rw[<-hPP]at hrow ⊢;have eH:l.take k=l.take 25:=by
  rw[HN.out,vu.out];rcases Nat.le_total l.length 25 with h | h
  ·rw[Nat.min_eq_left h,List.take_length,List.take_of_length_le h]
  ·rw[Nat.min_eq_right h]
 have ou:=zf (l.take 25);have Pk:R=aeW PP.all:=by rw[HR.out,hPP,eH];rfl
 rw[<-eH, <-hPP]at ou;have hfA:=ou.fine;have hsA:RX.sizes PP.all<=25:=Nat.le_trans ou.size (by rw[List.length_take];omega);obtain⟨ru,rc,rfl⟩:=hrow.form;have gY:=hid hrow;obtain⟨A,hA⟩:∃ A,A=PP.all:=⟨_,rfl⟩;rw[<-hA]at gY hfA hsA Pk ⊢;have HFA:=hid hfA;have Xj:=hid hsA;have lC:=hid Pk;clear hrow hfA hsA Pk ou eH hPP hA;have hwV:w.heap.size<V.heap.size:=by have:=uE.out;omega
 have hVo:V.heap.size<=wo.heap.size:=HX.out.size;have X9:Hid (Below w.heap.size w wo):=hid (X0.out.below.trans (HX.out.mono fun x (hx:x<w.heap.size)=>by show x<V.heap.size;omega:aa (· <w.heap.size) V wo).below);have R9:=hid (R0.out.keeps HX.out R0.out.lt);match A,gY,HFA,Xj,lC with
 | [],gY,HFA,Xj,lC=>
  simp only[List.length_nil];go_wp2_with fail
  refine(qx _ [97] rfl (by decide) wo).mono ?_;rintro e w2 ⟨rfl,hx2⟩;obtain⟨S,hS⟩:∃ S,S=oJ fun c=>([97]:List Nat).contains c:=⟨_,rfl⟩
  rw[<-hS];have jV:R=.nd 2 S 0 0 []:=by rw[lC.out,hS];rfl
  have R2:=hid (R9.out.below hx2 R9.out.lt);have X2:Hid (Below w.heap.size w w2):=hid (X9.out.trans (hx2.mono X9.out.size));clear hS hx2;go_wp2_with (refine wpList_store_row rfl 62 (.tmp 2) (.tmp 188) rfl w.heap.size (au 2 S 0 0 (.slice none 0 0)) rfl rfl 62 gN R2.out (dE _ _ _ _ _) rfl (nQ _ _ _ _ _ _ _) ?_;refine Hid.out ?_);refine hid ?_;obtain⟨V3,di⟩:∃ W,W=w2.setRow w.heap.size (au 2 S 0 0 (.slice none 0 0)):=⟨_,rfl⟩;rw[<-di];have RR:Hid (ah V3 w.heap.size (au 2 S 0 0 (.slice none 0 0)) 62):=by rw[di];exact hid R2.out.setRow
  have KK:aa (· ≠w.heap.size) w2 V3:=by rw[di];exact bP _ _ _
  clear di;go_wp2;obtain⟨m0,m1,m2,m3,m4,m5,m6,m7⟩:=RR.out.eight;refine bodyPost_ret (v:=.agg (au 2 S 0 0 (.slice none 0 0))) (by simp[results,Tryz.results24,au,go_sem,m0,m1,m2,m3,m4,m5,m6,m7]) rfl ⟨_,rfl,?_,X2.out.trans (KK.mono fun x (hx:x<w.heap.size)=>by show x≠_;omega:aa (· <w.heap.size) w2 V3).below⟩;rw[jV];exact aL.leaf _ _ _ _ _ _ _ _
 | x::r,gY,HFA,Xj,lC=>
  obtain⟨m,hm⟩:∃ m,m=(x::r).length:=⟨_,rfl⟩;have Vd:m=r.length+1:=by rw[hm];rfl
  have asM:m<=25:=by have:=zt (x::r);have:=Xj.out;omega
  rw[<-hm]at gY ⊢;obtain⟨g,p1,c1,e9,hmc,lZ,hgb,Fs,⟨f0,f1,f2,f3,f4,f5,f6,f7⟩,t1⟩:=gY.out.elem (i:=0) (t:=x) rfl;clear hmc;subst e9;simp only[Nat.zero_mul,Nat.zero_add]at f0 f1 f2 f3 f4 f5 f6 f7;have T1:=hid t1;have oU:(0:Int)<m:=by omega
  have oQ:(1:Int)<=m:=by omega
  have mz:1<=m:=by omega
  have hc2:1<=rc:=by omega
  have hc3:(1:Int)<=rc:=by omega
  have xg:((m:Int)==0)=false:=by simp;omega
  have HMR:=hid Vd;clear t1 hm Vd;go_upto_region 31 with fail
  refine aw ?_;intro W1 hW1;have B13:Hid (ah W1 wo.heap.size (au x.kind x.set x.mn x.mx (.slice p1 x.subs.length c1)) 62):=by rw[hW1];exact hid (ah.new _ _ _)
  have E1:Hid (Ext wo W1):=by rw[hW1];exact hid ((Ext.refl wo).alloc _)
  clear hW1 f0 f1 f2 f3 f4 f5 f6 f7;by_cases hrc:rc=1
  ·skip --Y3a
   obtain rfl:m=1:=by omega
   subst hrc;have ZT:r=[]:=List.eq_nil_of_length_eq_zero (by have:=HMR.out;omega);have HTR:R=x:=by rw[lC.out,ZT];rfl
   have T2:Hid (aL (fun y=>V.heap.size<=y/\y<W1.heap.size) W1 (.agg (au x.kind x.set x.mn x.mx (.slice p1 x.subs.length c1))) x):=hid ((T1.out.keeps E1.out.keeps fun y hy=>hy.2.1).mono fun y hy=>⟨hy.1,by have:=hy.2.1;have:=E1.out.size;omega⟩);have X1:Hid (Below w.heap.size w W1):=hid (X9.out.trans (E1.out.below.mono X9.out.size));have R1:=hid (R9.out.ext E1.out);clear T1 X9 R9 ZT gY;go_wp2;go_loopw [195] (fun i wr=>i=.int .i64 0/\wr=W1) (fun _ _=>0);case atStart=>exact⟨rfl,rfl⟩
   case round=>
    obtain⟨rfl,hwr⟩:=hrel;replace hwr:=hwr.symm;subst hwr;go_wp2_with (first | (refine bD rfl 62 (.tmp 13) rfl wo.heap.size rfl (au x.kind x.set x.mn x.mx (.slice p1 x.subs.length c1)) _ B13.out.range Tryz.underlying62 rfl (dE _ _ _ _ _) ?_) | (refine wpList_store_row rfl 62 (.tmp 2) (.tmp 203) rfl w.heap.size (au x.kind x.set x.mn x.mx (.slice p1 x.subs.length c1)) rfl rfl 62 gN R1.out (dE _ _ _ _ _) rfl (nQ _ _ _ _ _ _ _) ?_;refine Hid.out ?_));refine hid ?_;obtain⟨V3,di⟩:∃ W,W=W1.setRow w.heap.size (au x.kind x.set x.mn x.mx (.slice p1 x.subs.length c1)):=⟨_,rfl⟩;rw[<-di];have RR:Hid (ah V3 w.heap.size (au x.kind x.set x.mn x.mx (.slice p1 x.subs.length c1)) 62):=by rw[di];exact hid R1.out.setRow
    have KK:aa (· ≠w.heap.size) W1 V3:=by rw[di];exact bP _ _ _
    clear di;go_wp2;obtain⟨m0,m1,m2,m3,m4,m5,m6,m7⟩:=RR.out.eight;refine bodyPost_ret (v:=.agg (au x.kind x.set x.mn x.mx (.slice p1 x.subs.length c1))) (by simp[results,Tryz.results24,au,go_sem,m0,m1,m2,m3,m4,m5,m6,m7]) rfl ⟨_,rfl,?_,X1.out.trans (KK.mono fun z (hz:z<w.heap.size)=>by show z≠_;omega:aa (· <w.heap.size) W1 V3).below⟩;rw[HTR];exact(T2.out.keeps KK fun z hz=>by have:=hz.1;show z≠_;omega).mono fun z hz=>Nat.lt_of_lt_of_le hz.2 KK.size
  have asN:1<rc:=by omega
  have asO:(1:Int)<rc:=by omega
  have asP:rc-1≠0:=by omega
  have asQ:¬ (rc=1):=hrc;have asR:¬ ((rc:Int)=1):=by omega
  have asS:¬ (rc<=1):=by omega
  go_wp2;obtain⟨J0,hJ0⟩:∃ b,b=wo.heap.size:=⟨_,rfl⟩;have hJ1:J0<W1.heap.size:=by rw[hJ0];exact B13.out.lt
  have HJ0:=hid hJ0;have eF:=hid (gY.out.below E1.out.below);have T2:Hid (aL (fun y=>V.heap.size<=y/\y<W1.heap.size/\y≠J0) W1 (.agg (au x.kind x.set x.mn x.mx (.slice p1 x.subs.length c1))) x):=hid ((T1.out.keeps E1.out.keeps fun y hy=>hy.2.1).mono fun y hy=>⟨hy.1,by have:=hy.2.1;have:=E1.out.size;omega,fun e=>by have:=hy.2.1;omega⟩);have X1:Hid (Below w.heap.size w W1):=hid (X9.out.trans (E1.out.below.mono X9.out.size));have R1:=hid (R9.out.ext E1.out);have hgJ:g<J0:=by omega
  have hRJ:w.heap.size<J0:=by omega
  rw[<-hJ0]at B13 ⊢;clear T1 X9 R9 hJ0;go_loopw [195] (fun i wr=>∃ (j:Nat) (t:RX) (p':Option Addr) (c':Nat),j<=r.length/\i=.int .i64 j/\t=(r.take j).foldl (cF 4) x/\ah wr J0 (au t.kind t.set t.mn t.mx (.slice p' t.subs.length c')) 62/\aL (fun y=>V.heap.size<=y/\y<wr.heap.size/\y≠J0) wr (.agg (au t.kind t.set t.mn t.mx (.slice p' t.subs.length c'))) t/\aa (fun y=>y<W1.heap.size/\y≠J0) W1 wr) (fun i _=>r.length-(intOf i).toNat);case atStart=>exact⟨0,x,p1,c1,by omega,rfl,rfl,B13.out,T2.out,aa.refl _ _⟩
  case round=>
   obtain⟨j,t,p',c',hj,rfl,ht,hB,hT,hK⟩:=hrel;obtain⟨w5,rfl⟩:∃ w5:World,w5=wr:=⟨_,rfl⟩;have HB:=hid hB;have HT:=hid hT;have HK:=hid hK;have Xi:=hid ht;clear hB hT hK ht;have hR:=HMR.out;by_cases hlt:j<r.length
   ·obtain⟨y,hy⟩:∃ y,r[j]? =some y:=⟨_,List.getElem?_eq_getElem hlt⟩
    have hyA:(x::r)[j+1]? =some y:=by simpa using hy
    have hK2:aa (fun y=>y<J0) wo w5:=(E1.out.keeps.mono fun y (hy:y<J0)=>by have:=HJ0.out;show y<wo.heap.size;omega).tr (HK.out.mono fun y (hy:y<J0)=>⟨by omega,by omega⟩);obtain⟨g',p2,c2,e9,hmc,anG,hgb',asU,⟨f0,f1,f2,f3,f4,f5,f6,f7⟩,t2⟩:=gY.out.elem hyA;cases e9;clear hmc;have kc:∀ (o:Nat) (v:Value),wo.cell? ⟨g,o,none⟩=some v->w5.cell? ⟨g,o,none⟩=some v:=fun o v h=>(hK2.cell (p:=⟨g,o,none⟩) hgJ).trans h
    have fx:∀ (o:Nat) (v:Value),wo.cell? ⟨g,(j+1)*8+o,none⟩=some v->w5.cell? ⟨g,8+j*8+o,none⟩=some v:=fun o v h=>by
     have:=kc _ _ h;rwa[show(j+1)*8+o=8+j*8+o by omega]at this
    have e0:=fx 0 _ f0;have e1:=fx 1 _ f1;have e2:=fx 2 _ f2;have e3:=fx 3 _ f3;have e4:=fx 4 _ f4;have e5:=fx 5 _ f5;have e6:=fx 6 _ f6;have e7:=fx 7 _ f7;simp only[Nat.add_zero]at e0;have T2':Hid (aL (fun y=>V.heap.size<=y/\y<w5.heap.size/\y≠J0) w5 (.agg (au y.kind y.set y.mn y.mx (.slice p2 y.subs.length c2))) y):=hid ((t2.keeps hK2 fun y hy=>by have:=HJ0.out;have:=hy.2.1;show y<J0;omega).mono fun y hy=>⟨hy.1,by have:=hy.2.1;have:=hK2.size;omega,fun e=>by have:=hy.2.1;have:=HJ0.out;omega⟩);have nz:(j:Int)<m-1:=by omega
    clear f0 f1 f2 f3 f4 f5 f6 f7 kc fx;have hyf:y.fine:=HFA.out y (List.mem_cons_of_mem _ (List.mem_of_getElem? hy));have NK:y.size<=1000:=by have:=ri (List.mem_cons_of_mem x (List.mem_of_getElem? hy));have:=Xj.out;omega
    have hff:=se (r.take j) x (HFA.out x (List.mem_cons_self ..)) fun z hz=>HFA.out z (List.mem_cons_of_mem _ (List.mem_of_mem_take hz))
    have htf:t.fine:=by rw[Xi.out];exact hff.1
    have U5:t.size<=1000:=by
     have h1:=hff.2.1;rw[<-Xi.out]at h1;have h2:=eK (r.take j) (r.drop j);rw[List.take_append_drop]at h2;have h3:=Xj.out;rw[RX.sizes]at h3;have h4:(r.take j).length<=25:=by rw[List.length_take];omega
     omega
    have yL:(r.take (j+1)).foldl (cF 4) x=cF 4 t y:=by rw[List.take_add_one,hy,List.foldl_append, <-Xi.out];rfl
    have HTN:=hid yL;have CJ:Hid (∀ W,Below w5.heap.size w5 W->Calls Tryz.prog 50 #[.int .u8 4,.agg (au t.kind t.set t.mn t.mx (.slice p' t.subs.length c')),.agg (au y.kind y.set y.mn y.mx (.slice p2 y.subs.length c2))] W fun e w'=>∃ u,e=.returned u/\aL (fun z=>z<w'.heap.size/\((V.heap.size<=z/\z<w5.heap.size/\z≠J0)\/W.heap.size<=z)) w' u (cF 4 t y)/\Below W.heap.size W w'):=hid fun W hW=>by
     have M0:aa (· <w5.heap.size) w5 W:=aa.ag hW fun _ h=>h
     exact nR (fun z=>V.heap.size<=z/\z<w5.heap.size/\z≠J0) 4 (.inr rfl) _ _ t y htf hyf U5 NK W (fun z hz=>Nat.lt_of_lt_of_le hz.2.1 hW.size) (HT.out.keeps M0 fun z hz=>hz.2.1) (T2'.out.keeps M0 fun z hz=>hz.2.1)
    obtain⟨JJ,Vk⟩:∃ J,J=cF 4 t y:=⟨_,rfl⟩;rw[<-Vk]at CJ HTN;clear hyf NK hff htf U5 yL Vk hy hyA;clear hR;go_upto_region 34 with fail
    refine aw ?_;intro W6 xD;have B15:Hid (ah W6 w5.heap.size (au y.kind y.set y.mn y.mx (.slice p2 y.subs.length c2)) 62):=by rw[xD];exact hid (ah.new _ _ _)
    have E6:Hid (Ext w5 W6):=by rw[xD];exact hid ((Ext.refl w5).alloc _)
    clear xD e0 e1 e2 e3 e4 e5 e6 e7;have B6:=hid (HB.out.ext E6.out);have CJ6:=hid (CJ.out W6 E6.out.below);have hJ5:J0<w5.heap.size:=HB.out.lt;have h56:w5.heap.size<=W6.heap.size:=E6.out.size;clear CJ;go_wp2_with (first | (refine bD rfl 62 (.tmp 13) rfl J0 rfl (au t.kind t.set t.mn t.mx (.slice p' t.subs.length c')) _ B6.out.range Tryz.underlying62 rfl (dE _ _ _ _ _) ?_) | (refine bD rfl 62 (.tmp 15) rfl w5.heap.size rfl (au y.kind y.set y.mn y.mx (.slice p2 y.subs.length c2)) _ B15.out.range Tryz.underlying62 rfl (dE _ _ _ _ _) ?_) | (go_at_call 50;refine Hid.out ?_));refine hid ?_;refine CJ6.out.mono ?_;rintro e w7 ⟨u,rfl,hu,hx7⟩;obtain⟨pu,cu,rfl⟩:=hu.form;have HU:=hid hu;have B7:=hid (B6.out.below hx7 B6.out.lt);have K7:Hid (aa (· <w5.heap.size) w5 w7):=hid (E6.out.keeps.tr (aa.ag hx7 fun z (hz:z<w5.heap.size)=>Nat.lt_of_lt_of_le hz h56));clear hu hx7 B6 B15 CJ6;go_wp2_with (refine wpList_store_row rfl 62 (.tmp 13) (.tmp 201) rfl J0 (au JJ.kind JJ.set JJ.mn JJ.mx (.slice pu JJ.subs.length cu)) rfl rfl 62 (au t.kind t.set t.mn t.mx (.slice p' t.subs.length c')) B7.out (dE _ _ _ _ _) rfl (nQ _ _ _ _ _ _ _) ?_;refine Hid.out ?_);refine hid ?_;obtain⟨W8,Xk⟩:∃ W,W=w7.setRow J0 (au JJ.kind JJ.set JJ.mn JJ.mx (.slice pu JJ.subs.length cu)):=⟨_,rfl⟩;rw[<-Xk];have B8:Hid (ah W8 J0 (au JJ.kind JJ.set JJ.mn JJ.mx (.slice pu JJ.subs.length cu)) 62):=by rw[Xk];exact hid B7.out.setRow
    have K8:Hid (aa (· ≠J0) w7 W8):=by rw[Xk];exact hid (bP _ _ _)
    clear Xk;go_wp2;go_roundw;case rel=>
     have q1:aL (fun z=>V.heap.size<=z/\z<W8.heap.size/\z≠J0) W8 (.agg (au JJ.kind JJ.set JJ.mn JJ.mx (.slice pu JJ.subs.length cu))) JJ:=(HU.out.keeps K8.out fun z hz=>by(rcases hz.2 with h | h;exact h.2.2;show z≠J0;omega)).mono fun z hz=>⟨by(rcases hz.2 with h | h;exact h.1;omega),Nat.lt_of_lt_of_le hz.1 K8.out.size,by(rcases hz.2 with h | h;exact h.2.2;omega)⟩
     have hW5:=HK.out.size;exact⟨j+1,JJ,pu,cu,by omega,by go_num,HTN.out.symm,B8.out,q1,HK.out.tr ((K7.out.mono fun z (hz:z<W1.heap.size/\z≠J0)=>by have:=hz.1;show z<w5.heap.size;omega).tr (K8.out.mono fun z (hz:z<W1.heap.size/\z≠J0)=>hz.2))⟩
    case measure=>simp[intOf];omega
   ·skip --Yd
    obtain rfl:j=r.length:=by omega
    have nz:¬ ((r.length:Int)<m-1):=by omega
    have htR:R=t:=by rw[lC.out,Xi.out,List.take_length];rfl
    have HTR:=hid htR;have hRl:w.heap.size<W1.heap.size:=R1.out.lt;have R5:=hid (R1.out.keeps HK.out ⟨R1.out.lt,by omega⟩);have X5:Hid (Below w.heap.size w w5):=hid (X1.out.trans (HK.out.mono fun z (hz:z<w.heap.size)=>⟨by omega,by omega⟩:aa (· <w.heap.size) W1 w5).below);clear hR htR;go_wp2_with (first | (refine bD rfl 62 (.tmp 13) rfl J0 rfl (au t.kind t.set t.mn t.mx (.slice p' t.subs.length c')) _ HB.out.range Tryz.underlying62 rfl (dE _ _ _ _ _) ?_) | (refine wpList_store_row rfl 62 (.tmp 2) (.tmp 203) rfl w.heap.size (au t.kind t.set t.mn t.mx (.slice p' t.subs.length c')) rfl rfl 62 gN R5.out (dE _ _ _ _ _) rfl (nQ _ _ _ _ _ _ _) ?_;refine Hid.out ?_));refine hid ?_;obtain⟨V3,di⟩:∃ W,W=w5.setRow w.heap.size (au t.kind t.set t.mn t.mx (.slice p' t.subs.length c')):=⟨_,rfl⟩;rw[<-di];have RR:Hid (ah V3 w.heap.size (au t.kind t.set t.mn t.mx (.slice p' t.subs.length c')) 62):=by rw[di];exact hid R5.out.setRow
    have KK:aa (· ≠w.heap.size) w5 V3:=by rw[di];exact bP _ _ _
    clear di;go_wp2;obtain⟨m0,m1,m2,m3,m4,m5,m6,m7⟩:=RR.out.eight;refine bodyPost_ret (v:=.agg (au t.kind t.set t.mn t.mx (.slice p' t.subs.length c'))) (by simp[results,Tryz.results24,au,go_sem,m0,m1,m2,m3,m4,m5,m6,m7]) rfl ⟨_,rfl,?_,X5.out.trans (KK.mono fun z (hz:z<w.heap.size)=>by show z≠_;omega:aa (· <w.heap.size) w5 V3).below⟩;rw[HTR.out];exact(HT.out.keeps KK fun z hz=>by have:=hz.1;show z≠_;omega).mono fun z hz=>Nat.lt_of_lt_of_le hz.2.1 KK.size
end Go.Proofs.YtalombmiochpmaaGreatDoor
