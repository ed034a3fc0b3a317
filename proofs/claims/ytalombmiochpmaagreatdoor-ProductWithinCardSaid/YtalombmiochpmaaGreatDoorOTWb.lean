/- ProductWithin returns true for any small steps, any small steps, any bool, any bytes; the arguments read behind the call as they did. No condition. A tied card: the three listed tables hold at the call what the program's text lays. Printed by wip/gen/drow.py. -/
import Derived.Test.YtalombmiochpmaaGreatDoorOTWa
set_option maxRecDepth 100000
set_option maxHeartbeats 16000000
open Go.Lib (hid)
namespace Go.Proofs.YtalombmiochpmaaGreatDoor
open Go Go.RowKit Go.Shelf Go.Maps
structure ag3 (P:Prop) where
 A:Prop
 B:Prop
 C:Prop
 out:Hid A->Hid B->Hid C->P
def nZ (va:Option Addr) (vn vc:Nat) (wa:Option Addr) (wn wc:Nat) (p q:DF) (n0 n1 n2 m0 m1 m2:Nat) (lJ:Hid (n0=p.cl.length)) (ku:Hid (n1=p.nx.length)) (j9:Hid (n2=p.mr.length)) (Gp:Hid (Rt p/\Rt q/\p.nx.length<=40/\q.nx.length<=40)) (cG:Bool) (ba:Option Addr) (bc bn bm:Nat) (il:min (bn:Int) 40=(bm:Int)) (nu:bm<=40) (vD:bm<=bc) (bb:List Nat) (w:World) (kq:Hid (∀ W,Below w.heap.size w W->aZ bu W (.slice ba bm bc) bb)) (Ag:Hid (∀ c∈bb,c<256)) (FP:Hid (bm=bb.length)) (HA:Hid (∀ W,Below w.heap.size w W->Calls Tryz.prog 9 #[] W fun e w'=>e=.returned (.bool true)/\Below W.heap.size W w')) (HT:Hid (∀ W,Below w.heap.size w W->Calls Tryz.prog 10 #[.slice va vn vc,.slice wa wn wc,.bool cG] W (lh p q true n0 n1 n2 m0 m1 m2 W))): ag3 (Calls Tryz.prog 8 #[.slice va vn vc,.slice wa wn wc,.bool cG,.slice ba bn bc] w fun e w'=>e=.returned (.bool true)/\Below w.heap.size w w'):=by
 apply ag3.mk;case out=>
 intro gA gB gC;go_enter Tryz.func8,Tryz.ntmps8;go_wp2_with fail
 refine(HA.out w (Below.refl _ _)).mono ?_;rintro e w1 ⟨rfl,hx⟩;have X1:=hid hx;clear hx;go_wp2_with fail
 refine(HT.out w1 X1.out).mono ?_;rintro e w2 ⟨a0,c0,a1,c1,a2,c2,b0,d0,b1,d1,b2,d2,rfl,ho,uJ,hx⟩;have OP:=hid ho;have OQ:=hid uJ;have X2:=hid (X1.out.trans (hx.mono X1.out.size));clear ho uJ hx;go_upto_region 4 with fail
 refine aw ?_;intro V hV;have BP:Hid (ah V w2.heap.size #[.slice a0 n0 c0,.slice a1 n1 c1,.slice a2 n2 c2] 28):=hid (by rw[hV];exact(ah.new w2 _ _).alloc _);have BQ:Hid (ah V (w2.heap.size+1) #[.slice b0 m0 d0,.slice b1 m1 d1,.slice b2 m2 d2] 28):=hid (by rw[hV];exact(ah.new (w2.alloc _) _ _).at (by simp));have XV:Hid (Below w2.heap.size w2 V):=hid (by rw[hV];exact(((Ext.refl w2).alloc _).alloc _).below);clear hV;have IP:=hid (OP.out.below XV.out);have IQ:=hid (OQ.out.below XV.out);have X3:=hid (X2.out.trans (XV.out.mono X2.out.size));clear OP OQ XV X2;obtain⟨rp,rq,Hz,UC⟩:=Gp.out;have RP:=hid rp;have RQ:=hid rq;have Ba:=hid Hz;have P6:=hid UC;clear rp rq Hz UC;obtain⟨s,t,u,i,o,m,dd,hW⟩:=Qe RP.out RQ.out Ba.out P6.out bb Ag.out;obtain⟨sn,Gl⟩:∃ n,n=s.length:=⟨_,rfl⟩;obtain⟨tn,yL⟩:∃ n,n=t.length:=⟨_,rfl⟩;obtain⟨un,Jy⟩:∃ n,n=u.length:=⟨_,rfl⟩;obtain⟨k0,Ge⟩:∃ n,n=dd.cl.length:=⟨_,rfl⟩;obtain⟨k1,uO⟩:∃ n,n=dd.nx.length:=⟨_,rfl⟩;obtain⟨k2,hk2⟩:∃ n,n=dd.mr.length:=⟨_,rfl⟩;have C1:Hid (∀ W v v',aT W v p->aT W v' q->Calls Tryz.prog 22 #[v,v',.int .i64 1600] W (uA sn s i W)):=hid fun W v v' h h'=>(DU RP.out.sm RQ.out.sm hW.h1 W v v' h h').mono fun e w' h=>.of Gl h
 have C2:Hid (∀ W v v',aT W v q->aT W v' p->Calls Tryz.prog 22 #[v,v',.int .i64 1600] W (uA tn t o W)):=hid fun W v v' h h'=>(DU RQ.out.sm RP.out.sm hW.h2 W v v' h h').mono fun e w' h=>.of yL h
 have C3:Hid (∀ W v v',aT W v p->aT W v' q->Calls Tryz.prog 17 #[v,v',.int .i64 1600] W (uA un u m W)):=hid fun W v v' h h'=>(Jv RP.out.sm RQ.out.sm hW.h3 W v v' h h').mono fun e w' h=>.of Jy h
 have C4:Hid (∀ W v,aT W v p->Calls Tryz.prog 14 #[v] W (fW n0 n1 n2 0 (aK p) W)):=hid fun W v h=>by
  rw[lJ.out,ku.out,j9.out];exact sI RP.out RP.out.sm W v h
 have RN:=hid (fh RP.out);have C5:Hid (∀ W v v',aT W v p->aT W v' (aK p)->Calls Tryz.prog 17 #[v,v',.int .i64 1600] W (uA 0 [] false W)):=hid fun W v v' h h'=>(Jv RP.out.sm RN.out.sm hW.h4 W v v' h h').mono fun e w' h=>.of rfl h
 have C6:Hid (∀ W v v',aT W v p->aT W v' (aK p)->Calls Tryz.prog 12 #[v,v',.int .u8 1,.int .i64 1600] W (fW k0 k1 k2 0 dd W)):=hid fun W v v' h h'=>by
  rw[Ge,uO,hk2];exact fY RP.out.sm RN.out.sm hW.h5 W v v' h h'
 have C7:Hid (∀ W v,aT W v dd->Calls Tryz.prog 25 #[v] W fun e w'=>e=.returned (.tuple #[.bool true,.int .i64 0])/\Below W.heap.size W w'):=hid fun W v h=>by
  have h5:=nW v dd hW.rd.sm W h;rwa[hW.em,(aC dd).2 hW.rd,show(bH dd).2.2=0 by unfold bH;rw[if_pos ((aC dd).2 hW.rd)]]at h5
 have hb4:bb.length<=4000/\∀ c∈bb,c<256:=⟨by rw[<-FP.out];omega,Ag.out⟩;obtain⟨pb,wU⟩:∃ x,x=aG p bb:=⟨_,rfl⟩;obtain⟨qb,Am⟩:∃ x,x=aG q bb:=⟨_,rfl⟩;obtain⟨ps,Mh⟩:∃ x,x=aG p s:=⟨_,rfl⟩;obtain⟨qs,hqs⟩:∃ x,x=aG q s:=⟨_,rfl⟩;obtain⟨pt,YQ⟩:∃ x,x=aG p t:=⟨_,rfl⟩;obtain⟨qt,hqt⟩:∃ x,x=aG q t:=⟨_,rfl⟩;obtain⟨pn,ER⟩:∃ x,x=aG p []:=⟨_,rfl⟩;obtain⟨qn,MC⟩:∃ x,x=aG q []:=⟨_,rfl⟩;obtain⟨pu,hpu⟩:∃ x,x=aG p u:=⟨_,rfl⟩;obtain⟨qu,hqu⟩:∃ x,x=aG q u:=⟨_,rfl⟩;have Mc:Hid (∀ v,fq p v bb pb):=hid fun v=>eD RP.out v hb4 wU
 have Md:Hid (∀ v,fq q v bb qb):=hid fun v=>eD RQ.out v hb4 Am
 have Vp:Hid (∀ v,fq p v s ps):=hid fun v=>eD RP.out v hW.ls Mh
 have Vq:Hid (∀ v,fq q v s qs):=hid fun v=>eD RQ.out v hW.ls hqs
 have Vr:Hid (∀ v,fq p v t pt):=hid fun v=>eD RP.out v hW.lt YQ
 have Vs:Hid (∀ v,fq q v t qt):=hid fun v=>eD RQ.out v hW.lt hqt
 have Vt:Hid (∀ v,fq p v [] pn):=hid fun v=>eD RP.out v ⟨Nat.zero_le _,fun _ hc=>by cases hc⟩ ER
 have Vu:Hid (∀ v,fq q v [] qn):=hid fun v=>eD RQ.out v ⟨Nat.zero_le _,fun _ hc=>by cases hc⟩ MC
 have ZE:Hid (∀ v,fq p v u pu):=hid fun v=>eD RP.out v hW.lu hpu
 have ZF:Hid (∀ v,fq q v u qu):=hid fun v=>eD RQ.out v hW.lu hqu
 have FS:Hid (m=(i&&o)):=hid hW.same;have FI:Hid (i=true->sn=0/\(pb=true->qb=true)):=hid fun e=>by
  obtain⟨e1,e2⟩:=hW.iT e;rw[Gl,e1,wU,Am];exact⟨rfl,e2⟩
 have FJ:Hid (i=false->ps=true/\qs=false):=hid fun e=>by rw[Mh,hqs];exact hW.iF e
 have FO:Hid (o=false->qt=true/\pt=false):=hid fun e=>by rw[hqt,YQ];exact hW.oF e
 have FM:Hid (m=true->un=0/\pb=qb/\pn=qn):=hid fun e=>by
  obtain⟨e1,e2,e3⟩:=hW.mT e;rw[Jy,e1,wU,Am,ER,MC];exact⟨rfl,e2,e3⟩
 have FU:Hid (m=false->pu= !qu):=hid fun e=>by rw[hpu,hqu];exact(hW.mF e).1
 have FN:Hid (m=false->un=0->pn= !qn):=hid fun e e2=>by
  have e3:u=[]:=List.eq_nil_of_length_eq_zero (Jy▸e2);have:=(hW.mF e).1;rw[e3]at this;rw[ER,MC];exact this
 have FC:Hid (m=false->pb=qb\/un<bm\/bm=un/\0<=Lib.compareBytes (dP bb) (dP u)):=hid fun e=>by
  rw[wU,Am,Jy,FP.out];exact(hW.mF e).2
 have HUL:Hid (u.length<=4000/\∀ c∈u,c<256):=hid hW.lu;clear hW Gl yL Jy Ge uO hk2 hb4 wU Am Mh hqs YQ hqt ER MC hpu hqu;obtain⟨p0,p1,p2⟩:=ay.dB BP.out;obtain⟨r0,r1,r2⟩:=ay.dB BQ.out;go_wp2_with fail
 refine(C1.out V _ _ IP.out.df IQ.out.df).mono ?_;rintro e w3 ⟨sa,sc,rfl,hs,hx⟩;have HS:=hid hs;have Y1:=hid hx;clear hs hx p0 p1 p2 r0 r1 r2 C1;obtain⟨p0,p1,p2⟩:=ay.dB (BP.out.below Y1.out BP.out.lt);obtain⟨r0,r1,r2⟩:=ay.dB (BQ.out.below Y1.out BQ.out.lt);go_wp2_with fail
 refine(C2.out w3 _ _ (IQ.out.below Y1.out).df (IP.out.below Y1.out).df).mono ?_;rintro e w4 ⟨ta,tc,rfl,hs,hx⟩;have HT1:=hid hs;have HS1:=hid (HS.out.below hx);have Y2:=hid (Y1.out.trans (hx.mono Y1.out.size));clear hs hx p0 p1 p2 r0 r1 r2 C2 HS Y1;obtain⟨p0,p1,p2⟩:=ay.dB (BP.out.below Y2.out BP.out.lt);obtain⟨r0,r1,r2⟩:=ay.dB (BQ.out.below Y2.out BQ.out.lt);go_wp2_with fail
 refine(C3.out w4 _ _ (IP.out.below Y2.out).df (IQ.out.below Y2.out).df).mono ?_;rintro e w5 ⟨ua,uc,rfl,hs,hx⟩;have HU1:=hid hs;have NW:=hid (HT1.out.below hx);have Vj:=hid (HS1.out.below hx);have Y3:=hid (Y2.out.trans (hx.mono Y2.out.size));clear hs hx p0 p1 p2 r0 r1 r2 C3 HS1 HT1 Y2;obtain⟨p0,p1,p2⟩:=ay.dB (BP.out.below Y3.out BP.out.lt);go_wp2_with fail
 refine(C4.out w5 _ (IP.out.below Y3.out).df).mono ?_;rintro e w6 ⟨f0,g0,f1,g1,f2,g2,rfl,ho,hx⟩;have ON:=hid ho;have HU2:=hid (HU1.out.below hx);have HT3:=hid (NW.out.below hx);have HS3:=hid (Vj.out.below hx);have Y4:=hid (Y3.out.trans (hx.mono Y3.out.size));clear ho hx p0 p1 p2 C4 Vj NW HU1 Y3;go_upto_region 10 with fail
 refine aw ?_;intro V1 hV;have BN:Hid (ah V1 w6.heap.size #[.slice f0 n0 g0,.slice f1 n1 g1,.slice f2 n2 g2] 28):=hid (by rw[hV];exact ah.new w6 _ _);have XN:Hid (Below w6.heap.size w6 V1):=hid (by rw[hV];exact((Ext.refl w6).alloc _).below);clear hV;have INN:=hid (ON.out.below XN.out);have HU3:=hid (HU2.out.below XN.out);have HT4:=hid (HT3.out.below XN.out);have HS4:=hid (HS3.out.below XN.out);have Y5:=hid (Y4.out.trans (XN.out.mono Y4.out.size));clear ON XN HU2 HT3 HS3 Y4;obtain⟨p0,p1,p2⟩:=ay.dB (BP.out.below Y5.out BP.out.lt);obtain⟨r0,r1,r2⟩:=ay.dB BN.out;go_wp2_with fail
 refine(C5.out V1 _ _ (IP.out.below Y5.out).df INN.out.df).mono ?_;rintro e w7 ⟨ea,ec,rfl,hs,hx⟩;have HX7:=hid hx;have HU4:=hid (HU3.out.below hx);have HT5:=hid (HT4.out.below hx);have HS5:=hid (HS4.out.below hx);have Y6:=hid (Y5.out.trans (hx.mono Y5.out.size));clear hs hx p0 p1 p2 r0 r1 r2 C5 HU3 HT4 HS4 Y5;obtain⟨p0,p1,p2⟩:=ay.dB (BP.out.below Y6.out BP.out.lt);obtain⟨r0,r1,r2⟩:=ay.dB (BN.out.below HX7.out BN.out.lt);go_wp2_with fail
 refine(C6.out w7 _ _ (IP.out.below Y6.out).df (INN.out.below HX7.out).df).mono ?_;rintro e w8 ⟨h0,j0,h1,j1,h2,j2,rfl,ho,hx⟩;have OD:=hid ho;have HU5:=hid (HU4.out.below hx);have HT6:=hid (HT5.out.below hx);have HS6:=hid (HS5.out.below hx);have Y7:=hid (Y6.out.trans (hx.mono Y6.out.size));clear ho hx p0 p1 p2 r0 r1 r2 C6 HU4 HT5 HS5 Y6 HX7 INN BN;go_upto_region 12 with fail
 refine aw ?_;intro V2 hV;have BD:Hid (ah V2 w8.heap.size #[.slice h0 k0 j0,.slice h1 k1 j1,.slice h2 k2 j2] 28):=hid (by rw[hV];exact ah.new w8 _ _);have XN:Hid (Below w8.heap.size w8 V2):=hid (by rw[hV];exact((Ext.refl w8).alloc _).below);clear hV;have IDD:=hid (OD.out.below XN.out);have HU6:=hid (HU5.out.below XN.out);have HT7:=hid (HT6.out.below XN.out);have HS7:=hid (HS6.out.below XN.out);have Y8:=hid (Y7.out.trans (XN.out.mono Y7.out.size));clear OD XN HU5 HT6 HS6 Y7;obtain⟨p0,p1,p2⟩:=ay.dB BD.out;go_wp2_with fail
 refine(C7.out V2 _ IDD.out.df).mono ?_;rintro e w9 ⟨rfl,hx⟩;have HU:=hid (HU6.out.below hx);have HT:=hid (HT7.out.below hx);have HS:=hid (HS7.out.below hx);have Y9:=hid (Y8.out.trans (hx.mono Y8.out.size));clear hx p0 p1 p2 C7 HU6 HT7 HS7 Y8 IDD BD;have DK:=hid (IP.out.below Y9.out);have DO:=hid (IQ.out.below Y9.out);have Qb:=hid (BP.out.below Y9.out BP.out.lt);have Qc:=hid (BQ.out.below Y9.out BQ.out.lt);have X9:=hid (X3.out.trans (Y9.out.mono X3.out.size));have HB:=hid (kq.out w9 X9.out);clear IP IQ BP BQ X3 Y9;go_upto_region 13 with fail
 go_cut [126] from 93 to 126 (fun v wx=>v=.bool false/\wx=w9)
 case first=>
  have FS2:=FS.out;subst FS2;cases i<;>cases o<;>(go_wp2_with fail;go_meet;exact⟨rfl,rfl⟩)
 case rest=>
 obtain⟨rfl,hwc⟩:=hcut;replace hwc:=hwc.symm;subst hwc;go_upto_region 16 with fail
 obtain⟨p0,p1,p2⟩:=ay.dB Qb.out;obtain⟨r0,r1,r2⟩:=ay.dB Qc.out;go_cut [192] from 132 to 192 (fun v wx=>v=.bool false/\Below w9.heap.size w9 wx);case first=>
  refine aD false (fun _=>False) (by kernel_rfl) 61 [0,1,3,7,15,31,63,63,255,511,1023,1023,4095,8191,16383,32767,65535,131071,262143,524287,1048575,2097151,2097151,8388607,16777215,33554431,67108863,67108863,268435455,536870911,1073741823,2147483647,4294967295,8589934591,17179869183,34359738367,68719476735,68719476735,274877906943,549755813887,1099511627775,2199023255551,2199023255551,8796093022207,17592186044415,35184372088831,70368744177663,140737488355327,281474976710655,281474976710655,844424930131967,1970324836974591,4222124650659839,8725724278030335,17732923532771327,8725724278030335,71776119061217279,143833713099145215,287948901175001087,576460752303423487,1152921504606846975] (fun i=>i==8 || i==12 || i==23 || i==28 || i==38 || i==43 || i==54 || i==56) (by kernel_rfl) (fun i=>if i=8 then aH.gU _ (.bool pb)else if i=12 then aH.gU _ (.bool qb)else if i=23 then aH.gU _ (.bool ps)else if i=28 then aH.gU _ (.bool qs)else if i=38 then aH.gU _ (.bool qt)else if i=43 then aH.gU _ (.bool pt)else if i=54 then aH.gU _ (.bool pn)else if i=56 then aH.gU _ (.bool qn)else aH.any _) ?_;intro C hC hne;have HC:=hid hC;have wM:=ak hC (p:=⟨w2.heap.size,0,none⟩) Qb.out.lt (fun h=>h) p0;have wN:=ak hC (p:=⟨w2.heap.size,1,none⟩) Qb.out.lt (fun h=>h) p1;have wO:=ak hC (p:=⟨w2.heap.size,2,none⟩) Qb.out.lt (fun h=>h) p2;have DC:=ak hC (p:=⟨w2.heap.size+1,0,none⟩) Qc.out.lt (fun h=>h) r0;have DD:=ak hC (p:=⟨w2.heap.size+1,1,none⟩) Qc.out.lt (fun h=>h) r1;have DG:=ak hC (p:=⟨w2.heap.size+1,2,none⟩) Qc.out.lt (fun h=>h) r2;clear hC p0 p1 p2 r0 r1 r2;rcases Jw FS.out FI.out FJ.out FO.out FM.out FN.out with⟨rfl,rfl,rfl,rfl,rfl,h⟩ | ⟨rfl,rfl,rfl,rfl,rfl,rfl,h⟩ | ⟨rfl,rfl,rfl,rfl,h⟩
  ·rename_i zz0 ZG ZH ZI ZJ ZL ZM ZN ZO
   revert zz0 w1 X1 w2 a0 c0 a1 c1 a2 c2 b0 d0 b1 d1 b2 d2 V RP RQ Ba P6 s t u dd tn k0 k1 k2 RN pb qb ps qs pt qt pn qn pu qu Mc Md Vp Vq Vr Vs Vt Vu ZE ZF HUL w3 sa sc w4 ta tc w5 ua uc w6 f0 g0 f1 g1 f2 g2 V1 w7 ea ec w8 h0 j0 h1 j1 h2 j2 V2 w9 HT DK DO Qb Qc X9 HB u93 u94 u95 u96 u97 u98 u99 u100 u101 u102 u103 u104 u105 u106 u107 u108 u109 u110 u111 u112 u113 u114 u115 u116 u117 u118 u119 u120 u121 u122 u123 u124 u125 ZG ZH ZI ZJ ZL ZM ZN C hne HC wM wN wO DC DD DG FJ FO FU FS HS FI h HU FM FN FC ZO;exact gA.out
  ·rename_i zz0 ZG ZH ZI ZJ ZL ZM ZN ZO
   revert zz0 w1 X1 w2 a0 c0 a1 c1 a2 c2 b0 d0 b1 d1 b2 d2 V RP RQ Ba P6 s t u dd tn un k0 k1 k2 RN pb qb ps qs pn qn pu qu Mc Md Vp Vq Vt Vu ZE ZF HUL w3 sa sc w4 ta tc w5 ua uc w6 f0 g0 f1 g1 f2 g2 V1 w7 ea ec w8 h0 j0 h1 j1 h2 j2 V2 w9 HU HT DK DO Qb Qc X9 HB u93 u94 u95 u96 u97 u98 u99 u100 u101 u102 u103 u104 u105 u106 u107 u108 u109 u110 u111 u112 u113 u114 u115 u116 u117 u118 u119 u120 u121 u122 u123 u124 u125 ZG ZH ZI ZJ ZL ZM ZN C hne HC wM wN wO DC DD DG FJ FM FU FN FC FS HS FI ZO Vs h Vr FO;exact gB.out
  ·rename_i zz0 ZG ZH ZI ZJ ZL ZM ZN ZO
   revert zz0 w1 X1 w2 a0 c0 a1 c1 a2 c2 b0 d0 b1 d1 b2 d2 V RP RQ Ba P6 s t u o dd sn tn un k0 k1 k2 RN pb qb pt qt pn qn pu qu Mc Md Vr Vs Vt Vu ZE ZF FO HUL w3 sa sc w4 ta tc w5 ua uc w6 f0 g0 f1 g1 f2 g2 V1 w7 ea ec w8 h0 j0 h1 j1 h2 j2 V2 w9 HU HT HS DK DO Qb Qc X9 HB u93 u94 u95 u96 u97 u98 u99 u100 u101 u102 u103 u104 u105 u106 u107 u108 u109 u110 u111 u112 u113 u114 u115 u116 u117 u118 u119 u120 u121 u122 u123 u124 u125 ZG ZH ZI ZJ ZL ZM ZN C hne HC wM wN wO DC DD DG FI FM FU FN FC FS ZO Vp h Vq FJ;exact gC.out
 case rest=>
 obtain⟨rfl,hwc⟩:=hcut;obtain⟨WC,rfl⟩:∃ W:World,W=wc:=⟨_,rfl⟩;have XC:=hid hwc;have X10:=hid (X9.out.trans (hwc.mono X9.out.size));have IPC:=hid (DK.out.below hwc);have IQC:=hid (DO.out.below hwc);have UQ:=hid (Qb.out.below hwc Qb.out.lt);have UR:=hid (Qc.out.below hwc Qc.out.lt);have HBC:=hid (HB.out.below hwc);have HUC:=hid (HU.out.below hwc);clear hwc XC X9 DK DO Qb Qc HB HU HT HS Vp Vq Vr Vs Vt Vu FI FJ FO FN FS;cases m with
 | true=>
  obtain⟨_,rfl,_⟩:=FM.out rfl;clear FM FU FC;go_upto_region 19 with fail
  obtain⟨p0,p1,p2⟩:=ay.dB UQ.out;obtain⟨r0,r1,r2⟩:=ay.dB UR.out;refine aD false (fun _=>False) (by kernel_rfl) 8 [0,0,3,0,0,31,63,127] (fun i=>i==2 || i==5) (by kernel_rfl) (fun i=>if i=2 then aH.gU _ (.bool pb)else if i=5 then aH.gU _ (.bool pb)else aH.any _) ?_;intro C hC hne;have HC:=hid hC;have wM:=ak hC (p:=⟨w2.heap.size,0,none⟩) UQ.out.lt (fun h=>h) p0;have wN:=ak hC (p:=⟨w2.heap.size,1,none⟩) UQ.out.lt (fun h=>h) p1;have wO:=ak hC (p:=⟨w2.heap.size,2,none⟩) UQ.out.lt (fun h=>h) p2;have DC:=ak hC (p:=⟨w2.heap.size+1,0,none⟩) UR.out.lt (fun h=>h) r0;have DD:=ak hC (p:=⟨w2.heap.size+1,1,none⟩) UR.out.lt (fun h=>h) r1;have DG:=ak hC (p:=⟨w2.heap.size+1,2,none⟩) UR.out.lt (fun h=>h) r2;clear hC p0 p1 p2 r0 r1 r2
  repeat (refine ae (fun K hK=>?_);first | (refine aR rfl ?_;try go_simp;refine hK _ _ ?_;clear hK K) | (refine aO rfl rfl ?_;unfold ai;go_simp;refine hK _ _ ?_;clear hK K))
  refine ae (fun K hK=>?_);refine bg rfl rfl (aH.gU _ (.bool pb)) rfl (fun W hW hN=>?_) (fun v hv=>?_)
  ·have hM:=(HC.out W).1 hW
   clear hW;go_simp;refine aB ((Mc.out _ W _ (IPC.out.below hM.below).df (HBC.out.below hM.below)).mono ?_);rintro e w2 ⟨rfl,hx⟩;exact⟨_,rfl,Move.ag hx,rfl,trivial⟩
  replace hv:v=_:=hv;subst hv;go_simp;refine hK _ _ ?_;clear hK K
  repeat (refine ae (fun K hK=>?_);first | (refine aR rfl ?_;try go_simp;refine hK _ _ ?_;clear hK K) | (refine aO rfl rfl ?_;unfold ai;go_simp;refine hK _ _ ?_;clear hK K))
  refine ae (fun K hK=>?_);refine bg rfl rfl (aH.gU _ (.bool pb)) rfl (fun W hW hN=>?_) (fun v hv=>?_)
  ·have hM:=(HC.out W).1 hW
   clear hW;go_simp;refine aB ((Md.out _ W _ (IQC.out.below hM.below).df (HBC.out.below hM.below)).mono ?_);rintro e w2 ⟨rfl,hx⟩;exact⟨_,rfl,Move.ag hx,rfl,trivial⟩
  replace hv:v=_:=hv;subst hv;go_simp;refine hK _ _ ?_;clear hK K
  repeat (refine ae (fun K hK=>?_);first | (refine aR rfl ?_;try go_simp;refine hK _ _ ?_;clear hK K) | (refine aO rfl rfl ?_;unfold ai;go_simp;refine hK _ _ ?_;clear hK K))
  refine bh (fun W hW hH=>?_);have hM:=(HC.out W).1 hW;have XW:=hid hM.below;clear hM hW hH HC hne wM wN wO DC DD DG;go_wp2;go_ret;exact⟨by simp,X10.out.trans (XW.out.mono X10.out.size)⟩
 | false=>
  have hpu:=FU.out rfl;subst hpu;have hfc:=FC.out rfl;clear FM FU FC;go_upto_region 20 with fail
  obtain⟨p0,p1,p2⟩:=ay.dB UQ.out;obtain⟨r0,r1,r2⟩:=ay.dB UR.out;refine aD false (fun _=>False) (by kernel_rfl) 7 [0,0,3,0,0,31,63] (fun i=>i==2 || i==5) (by kernel_rfl) (fun i=>if i=2 then aH.gU _ (.bool (!qu))else if i=5 then aH.gU _ (.bool qu)else aH.any _) ?_;intro C hC hne;have HC:=hid hC;have wM:=ak hC (p:=⟨w2.heap.size,0,none⟩) UQ.out.lt (fun h=>h) p0;have wN:=ak hC (p:=⟨w2.heap.size,1,none⟩) UQ.out.lt (fun h=>h) p1;have wO:=ak hC (p:=⟨w2.heap.size,2,none⟩) UQ.out.lt (fun h=>h) p2;have DC:=ak hC (p:=⟨w2.heap.size+1,0,none⟩) UR.out.lt (fun h=>h) r0;have DD:=ak hC (p:=⟨w2.heap.size+1,1,none⟩) UR.out.lt (fun h=>h) r1;have DG:=ak hC (p:=⟨w2.heap.size+1,2,none⟩) UR.out.lt (fun h=>h) r2;clear hC p0 p1 p2 r0 r1 r2
  repeat (refine ae (fun K hK=>?_);first | (refine aR rfl ?_;try go_simp;refine hK _ _ ?_;clear hK K) | (refine aO rfl rfl ?_;unfold ai;go_simp;refine hK _ _ ?_;clear hK K))
  refine ae (fun K hK=>?_);refine bg rfl rfl (aH.gU _ (.bool (!qu))) rfl (fun W hW hN=>?_) (fun v hv=>?_)
  ·have hM:=(HC.out W).1 hW
   clear hW;go_simp;refine aB ((ZE.out _ W _ (IPC.out.below hM.below).df (HUC.out.below hM.below)).mono ?_);rintro e w2 ⟨rfl,hx⟩;exact⟨_,rfl,Move.ag hx,rfl,trivial⟩
  replace hv:v=_:=hv;subst hv;go_simp;refine hK _ _ ?_;clear hK K
  repeat (refine ae (fun K hK=>?_);first | (refine aR rfl ?_;try go_simp;refine hK _ _ ?_;clear hK K) | (refine aO rfl rfl ?_;unfold ai;go_simp;refine hK _ _ ?_;clear hK K))
  refine ae (fun K hK=>?_);refine bg rfl rfl (aH.gU _ (.bool qu)) rfl (fun W hW hN=>?_) (fun v hv=>?_)
  ·have hM:=(HC.out W).1 hW
   clear hW;go_simp;refine aB ((ZF.out _ W _ (IQC.out.below hM.below).df (HUC.out.below hM.below)).mono ?_);rintro e w2 ⟨rfl,hx⟩;exact⟨_,rfl,Move.ag hx,rfl,trivial⟩
  replace hv:v=_:=hv;subst hv;go_simp;refine hK _ _ ?_;clear hK K
  repeat (refine ae (fun K hK=>?_);first | (refine aR rfl ?_;try go_simp;refine hK _ _ ?_;clear hK K) | (refine aO rfl rfl ?_;unfold ai;go_simp;refine hK _ _ ?_;clear hK K))
  refine bh (fun W hW hH=>?_);have hM:=(HC.out W).1 hW;have XW:=hid hM.below;have X11:=hid (X10.out.trans (hM.below.mono X10.out.size));have IPD:=hid (IPC.out.below hM.below);have IQD:=hid (IQC.out.below hM.below);have Vw:=hid (UQ.out.below hM.below UQ.out.lt);have Vx:=hid (UR.out.below hM.below UR.out.lt);have HBD:=hid (HBC.out.below hM.below);have HUD:=hid (HUC.out.below hM.below);clear hM hW hH HC hne wM wN wO DC DD DG XW IPC IQC UQ UR HBC HUC ZE ZF X10;have hqq:((!qu)==qu)=false:=by cases qu<;>rfl
  go_upto_region 22 with fail
  obtain⟨p0,p1,p2⟩:=ay.dB Vw.out;obtain⟨r0,r1,r2⟩:=ay.dB Vx.out;by_cases Eu:pb=qb
  ·subst Eu
   refine aD false (fun _=>False) (by kernel_rfl) 28 [0,0,3,0,0,31,63,127,255,511,255,1279,4095,8191,16383,32767,65535,32767,163839,524287,1048575,2097151,2097151,8388607,16777215,33554431,67108863,134217727] (fun i=>i==2 || i==5 || i==23) (by kernel_rfl) (fun i=>if i=2 then aH.gU _ (.bool pb)else if i=5 then aH.gU _ (.bool pb)else aH.any _) ?_;intro C hC hne;have HC:=hid hC;have wM:=ak hC (p:=⟨w2.heap.size,0,none⟩) Vw.out.lt (fun h=>h) p0;have wN:=ak hC (p:=⟨w2.heap.size,1,none⟩) Vw.out.lt (fun h=>h) p1;have wO:=ak hC (p:=⟨w2.heap.size,2,none⟩) Vw.out.lt (fun h=>h) p2;have DC:=ak hC (p:=⟨w2.heap.size+1,0,none⟩) Vx.out.lt (fun h=>h) r0;have DD:=ak hC (p:=⟨w2.heap.size+1,1,none⟩) Vx.out.lt (fun h=>h) r1;have DG:=ak hC (p:=⟨w2.heap.size+1,2,none⟩) Vx.out.lt (fun h=>h) r2;clear hC p0 p1 p2 r0 r1 r2
   repeat (refine ae (fun K hK=>?_);first | (refine aR rfl ?_;try go_simp;refine hK _ _ ?_;clear hK K) | (refine aO rfl rfl ?_;unfold ai;go_simp;refine hK _ _ ?_;clear hK K))
   refine ae (fun K hK=>?_);refine bg rfl rfl (aH.gU _ (.bool pb)) rfl (fun W hW hN=>?_) (fun v hv=>?_)
   ·have hM:=(HC.out W).1 hW
    clear hW;go_simp;refine aB ((Mc.out _ W _ (IPD.out.below hM.below).df (HBD.out.below hM.below)).mono ?_);rintro e w2 ⟨rfl,hx⟩;exact⟨_,rfl,Move.ag hx,rfl,trivial⟩
   replace hv:v=_:=hv;subst hv;go_simp;refine hK _ _ ?_;clear hK K
   repeat (refine ae (fun K hK=>?_);first | (refine aR rfl ?_;try go_simp;refine hK _ _ ?_;clear hK K) | (refine aO rfl rfl ?_;unfold ai;go_simp;refine hK _ _ ?_;clear hK K))
   refine ae (fun K hK=>?_);refine bg rfl rfl (aH.gU _ (.bool pb)) rfl (fun W hW hN=>?_) (fun v hv=>?_)
   ·have hM:=(HC.out W).1 hW
    clear hW;go_simp;refine aB ((Md.out _ W _ (IQD.out.below hM.below).df (HBD.out.below hM.below)).mono ?_);rintro e w2 ⟨rfl,hx⟩;exact⟨_,rfl,Move.ag hx,rfl,trivial⟩
   replace hv:v=_:=hv;subst hv;go_simp;refine hK _ _ ?_;clear hK K
   repeat (refine ae (fun K hK=>?_);first | (refine aR rfl ?_;try go_simp;refine hK _ _ ?_;clear hK K) | (refine aO rfl rfl ?_;unfold ai;go_simp;refine hK _ _ ?_;clear hK K))
   refine bh (fun W hW hH=>?_);have hM:=(HC.out W).1 hW;have XW:=hid hM.below;clear hM hW hH HC hne wM wN wO DC DD DG;go_wp2;go_ret;exact⟨by simp,X11.out.trans (XW.out.mono X11.out.size)⟩
  ·have Yj:qb= !pb:=by revert Eu;cases pb<;>cases qb<;>simp
   subst Yj;have hfd:=hfc.resolve_left Eu;by_cases hlt:un<bm
   ·have g1:(un:Int)<(bm:Int):=by omega
    have g2:(pb==(!pb))=false:=by cases pb<;>rfl
    clear hfc hfd Eu hlt;refine aD false (fun _=>False) (by kernel_rfl) 28 [0,0,3,0,0,31,63,127,255,511,255,1279,4095,8191,16383,32767,65535,32767,163839,524287,1048575,2097151,2097151,8388607,16777215,33554431,67108863,134217727] (fun i=>i==2 || i==5 || i==23) (by kernel_rfl) (fun i=>if i=2 then aH.gU _ (.bool pb)else if i=5 then aH.gU _ (.bool (!pb))else aH.any _) ?_;intro C hC hne;have HC:=hid hC;have wM:=ak hC (p:=⟨w2.heap.size,0,none⟩) Vw.out.lt (fun h=>h) p0;have wN:=ak hC (p:=⟨w2.heap.size,1,none⟩) Vw.out.lt (fun h=>h) p1;have wO:=ak hC (p:=⟨w2.heap.size,2,none⟩) Vw.out.lt (fun h=>h) p2;have DC:=ak hC (p:=⟨w2.heap.size+1,0,none⟩) Vx.out.lt (fun h=>h) r0;have DD:=ak hC (p:=⟨w2.heap.size+1,1,none⟩) Vx.out.lt (fun h=>h) r1;have DG:=ak hC (p:=⟨w2.heap.size+1,2,none⟩) Vx.out.lt (fun h=>h) r2;clear hC p0 p1 p2 r0 r1 r2
    repeat (refine ae (fun K hK=>?_);first | (refine aR rfl ?_;try go_simp;refine hK _ _ ?_;clear hK K) | (refine aO rfl rfl ?_;unfold ai;go_simp;refine hK _ _ ?_;clear hK K))
    refine ae (fun K hK=>?_);refine bg rfl rfl (aH.gU _ (.bool pb)) rfl (fun W hW hN=>?_) (fun v hv=>?_)
    ·have hM:=(HC.out W).1 hW
     clear hW;go_simp;refine aB ((Mc.out _ W _ (IPD.out.below hM.below).df (HBD.out.below hM.below)).mono ?_);rintro e w2 ⟨rfl,hx⟩;exact⟨_,rfl,Move.ag hx,rfl,trivial⟩
    replace hv:v=_:=hv;subst hv;go_simp;refine hK _ _ ?_;clear hK K
    repeat (refine ae (fun K hK=>?_);first | (refine aR rfl ?_;try go_simp;refine hK _ _ ?_;clear hK K) | (refine aO rfl rfl ?_;unfold ai;go_simp;refine hK _ _ ?_;clear hK K))
    refine ae (fun K hK=>?_);refine bg rfl rfl (aH.gU _ (.bool (!pb))) rfl (fun W hW hN=>?_) (fun v hv=>?_)
    ·have hM:=(HC.out W).1 hW
     clear hW;go_simp;refine aB ((Md.out _ W _ (IQD.out.below hM.below).df (HBD.out.below hM.below)).mono ?_);rintro e w2 ⟨rfl,hx⟩;exact⟨_,rfl,Move.ag hx,rfl,trivial⟩
    replace hv:v=_:=hv;subst hv;go_simp;refine hK _ _ ?_;clear hK K
    repeat (refine ae (fun K hK=>?_);first | (refine aR rfl ?_;try go_simp;refine hK _ _ ?_;clear hK K) | (refine aO rfl rfl ?_;unfold ai;go_simp;refine hK _ _ ?_;clear hK K))
    refine bh (fun W hW hH=>?_);have hM:=(HC.out W).1 hW;have XW:=hid hM.below;clear hM hW hH HC hne wM wN wO DC DD DG;go_wp2;go_ret;exact⟨by simp,X11.out.trans (XW.out.mono X11.out.size)⟩
   ·obtain⟨hbu,Ma⟩:=hfd.resolve_left hlt
    have g1:¬ ((un:Int)<(bm:Int)):=by omega
    have g3:((bm:Int)==(un:Int))=true:=by simp[hbu]
    have g2:(pb==(!pb))=false:=by cases pb<;>rfl
    obtain⟨cc,hcc⟩:∃ c,c=Lib.compareBytes (dP bb) (dP u):=⟨_,rfl⟩;rw[<-hcc]at Ma;have CMP:Hid (∀ W u1 v1,aZ bu W u1 bb->aZ bu W v1 u->Calls Tryz.prog 26 #[u1,v1] W fun e w'=>e=.returned (.int .i64 cc)/\w'=W):=hid fun W u1 v1 h h'=>by
     rw[hcc];exact FH u1 v1 bb u W h h'
    have g4:(0:Int)<=cc:=Ma;clear hfc hfd Eu hlt hbu Ma hcc;refine aD false (fun _=>False) (by kernel_rfl) 28 [0,0,3,0,0,31,63,127,255,511,255,1279,4095,8191,16383,32767,65535,32767,163839,524287,1048575,2097151,2097151,8388607,16777215,33554431,67108863,134217727] (fun i=>i==2 || i==5 || i==23) (by kernel_rfl) (fun i=>if i=2 then aH.gU _ (.bool pb)else if i=5 then aH.gU _ (.bool (!pb))else if i=23 then aH.gU _ (.int .i64 cc)else aH.any _) ?_;intro C hC hne;have HC:=hid hC;have wM:=ak hC (p:=⟨w2.heap.size,0,none⟩) Vw.out.lt (fun h=>h) p0;have wN:=ak hC (p:=⟨w2.heap.size,1,none⟩) Vw.out.lt (fun h=>h) p1;have wO:=ak hC (p:=⟨w2.heap.size,2,none⟩) Vw.out.lt (fun h=>h) p2;have DC:=ak hC (p:=⟨w2.heap.size+1,0,none⟩) Vx.out.lt (fun h=>h) r0;have DD:=ak hC (p:=⟨w2.heap.size+1,1,none⟩) Vx.out.lt (fun h=>h) r1;have DG:=ak hC (p:=⟨w2.heap.size+1,2,none⟩) Vx.out.lt (fun h=>h) r2;clear hC p0 p1 p2 r0 r1 r2
    repeat (refine ae (fun K hK=>?_);first | (refine aR rfl ?_;try go_simp;refine hK _ _ ?_;clear hK K) | (refine aO rfl rfl ?_;unfold ai;go_simp;refine hK _ _ ?_;clear hK K))
    refine ae (fun K hK=>?_);refine bg rfl rfl (aH.gU _ (.bool pb)) rfl (fun W hW hN=>?_) (fun v hv=>?_)
    ·have hM:=(HC.out W).1 hW
     clear hW;go_simp;refine aB ((Mc.out _ W _ (IPD.out.below hM.below).df (HBD.out.below hM.below)).mono ?_);rintro e w2 ⟨rfl,hx⟩;exact⟨_,rfl,Move.ag hx,rfl,trivial⟩
    replace hv:v=_:=hv;subst hv;go_simp;refine hK _ _ ?_;clear hK K
    repeat (refine ae (fun K hK=>?_);first | (refine aR rfl ?_;try go_simp;refine hK _ _ ?_;clear hK K) | (refine aO rfl rfl ?_;unfold ai;go_simp;refine hK _ _ ?_;clear hK K))
    refine ae (fun K hK=>?_);refine bg rfl rfl (aH.gU _ (.bool (!pb))) rfl (fun W hW hN=>?_) (fun v hv=>?_)
    ·have hM:=(HC.out W).1 hW
     clear hW;go_simp;refine aB ((Md.out _ W _ (IQD.out.below hM.below).df (HBD.out.below hM.below)).mono ?_);rintro e w2 ⟨rfl,hx⟩;exact⟨_,rfl,Move.ag hx,rfl,trivial⟩
    replace hv:v=_:=hv;subst hv;go_simp;refine hK _ _ ?_;clear hK K
    repeat (refine ae (fun K hK=>?_);first | (refine aR rfl ?_;try go_simp;refine hK _ _ ?_;clear hK K) | (refine aO rfl rfl ?_;unfold ai;go_simp;refine hK _ _ ?_;clear hK K))
    refine ae (fun K hK=>?_);refine bg rfl rfl (aH.gU _ (.int .i64 cc)) rfl (fun W hW hN=>?_) (fun v hv=>?_)
    ·have hM:=(HC.out W).1 hW
     clear hW;go_simp;refine aB ((CMP.out W _ _ (HBD.out.below hM.below) (HUD.out.below hM.below)).mono ?_);rintro e w2 ⟨rfl,rfl⟩;exact⟨_,rfl,Move.ag (Below.refl _ _),rfl,trivial⟩
    replace hv:v=_:=hv;subst hv;go_simp;refine hK _ _ ?_;clear hK K
    repeat (refine ae (fun K hK=>?_);first | (refine aR rfl ?_;try go_simp;refine hK _ _ ?_;clear hK K) | (refine aO rfl rfl ?_;unfold ai;go_simp;refine hK _ _ ?_;clear hK K))
    refine bh (fun W hW hH=>?_);have hM:=(HC.out W).1 hW;have XW:=hid hM.below;clear hM hW hH HC hne wM wN wO DC DD DG;go_wp2;go_ret;exact⟨by simp,X11.out.trans (XW.out.mono X11.out.size)⟩
end Go.Proofs.YtalombmiochpmaaGreatDoor
