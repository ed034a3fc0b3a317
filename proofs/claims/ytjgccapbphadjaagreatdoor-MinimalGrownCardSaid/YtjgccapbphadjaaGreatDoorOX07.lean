/- A position put into a part in memory. -/
import Derived.Test.YtjgccapbphadjaaGreatDoorOX06
set_option maxRecDepth 100000
set_option maxHeartbeats 16000000
open Go.Lib (hid)
open Go.Value renaming int->An,slice->AN,agg->Bs,pointer->B',bool->D_
open Go.IntKind renaming u64->As
open Bool renaming false->AF,true->A_
open Option renaming some->AI,none->AM
open Go renaming World->AS,wpList_store_row->By,bodyPost_ret->C_,TypeId->C'
open Go.Lib renaming hid->AT
open Go.Ending renaming returned->A'
open Go.Proofs.Tryz renaming underlying181->Bm,results203->Cd,ntmps203->DH,func203->DQ,prog->E_
open List renaming eq_nil_of_length_eq_zero->B_,getElem?_eq_some_iff->DE,map_append->D',replicate->EV
open Go.RowKit renaming Hid->DP
open Nat renaming sub_self->DS
open Option.some renaming inj->D0
namespace Go.Proofs.YtjgccapbphadjaaGreatDoor
open Go Go.RowKit Go.Shelf Go.Maps
theorem ar.part {w:AS} {b:Nat} {a:GP} {t:C'} (h:ar w b (aA a) t):w.cell? ⟨b,0,AM⟩=AI (An As (bW a.fst 0).toNat)/\w.cell? ⟨b,1,AM⟩=AI (An As (bW a.fst 1).toNat)/\w.cell? ⟨b,2,AM⟩=AI (An As (bW a.fst 2).toNat)/\w.cell? ⟨b,3,AM⟩=AI (An As (bW a.fst 3).toNat)/\w.cell? ⟨b,4,AM⟩=AI (An As (bW a.fst 4).toNat)/\w.cell? ⟨b,5,AM⟩=AI (An As (bW a.fst 5).toNat)/\w.cell? ⟨b,6,AM⟩=AI (An As (bW a.fst 6).toNat)/\w.cell? ⟨b,7,AM⟩=AI (An As (bW a.cL 0).toNat)/\w.cell? ⟨b,8,AM⟩=AI (An As (bW a.cL 1).toNat)/\w.cell? ⟨b,9,AM⟩=AI (An As (bW a.cL 2).toNat)/\w.cell? ⟨b,10,AM⟩=AI (An As (bW a.cL 3).toNat)/\w.cell? ⟨b,11,AM⟩=AI (An As (bW a.cL 4).toNat)/\w.cell? ⟨b,12,AM⟩=AI (An As (bW a.cL 5).toNat)/\w.cell? ⟨b,13,AM⟩=AI (An As (bW a.cL 6).toNat)/\w.cell? ⟨b,14,AM⟩=AI (D_ a.emp):=
 ⟨h.cell 0,h.cell 1,h.cell 2,h.cell 3,h.cell 4,h.cell 5,h.cell 6,h.cell 7,h.cell 8,h.cell 9,h.cell 10,h.cell 11,h.cell 12,h.cell 13,h.cell 14⟩
theorem ar.nJ {w:AS} {b:Nat} {a:GP} {t:C'} (h:ar w b (aA a) t):w.frozen? ⟨b,0,AM⟩=AF/\w.frozen? ⟨b,1,AM⟩=AF/\w.frozen? ⟨b,2,AM⟩=AF/\w.frozen? ⟨b,3,AM⟩=AF/\w.frozen? ⟨b,4,AM⟩=AF/\w.frozen? ⟨b,5,AM⟩=AF/\w.frozen? ⟨b,6,AM⟩=AF/\w.frozen? ⟨b,7,AM⟩=AF/\w.frozen? ⟨b,8,AM⟩=AF/\w.frozen? ⟨b,9,AM⟩=AF/\w.frozen? ⟨b,10,AM⟩=AF/\w.frozen? ⟨b,11,AM⟩=AF/\w.frozen? ⟨b,12,AM⟩=AF/\w.frozen? ⟨b,13,AM⟩=AF/\w.frozen? ⟨b,14,AM⟩=false:=
 ⟨h.frozen 0,h.frozen 1,h.frozen 2,h.frozen 3,h.frozen 4,h.frozen 5,h.frozen 6,h.frozen 7,h.frozen 8,h.frozen 9,h.frozen 10,h.frozen 11,h.frozen 12,h.frozen 13,h.frozen 14⟩
theorem bG (W:AS) (b:Nat) (c:Array Value):ae (· ≠b) W (W.setRow b c):=(ae.refl _ _).setRow (fun h=>h rfl) c
theorem bE (a:GP):(E_.info? 181).map (·.size)=AI (aA a).size:=by show _=AI 15;kernel_rfl
theorem ew (a:GP):(aA a).all (·.oneCell')=true:=by unfold aA;simp[Value.oneCell']
theorem rj (base M:Nat) (F:Nat->Prop) (m:GM) (af al bf bl:PB) (w:AS) (h:fE base M F w m) (ha:dy al m.cB.length) (hn:m.cB.length<=448): ah 203 #[B' (AI ⟨M,0,AM⟩),Bs (aA ⟨af,al,AF⟩),Bs (aA ⟨bf,bl,AF⟩)] w fun e w'=>e=A' (Bs (aA (cH m ⟨af,al,AF⟩ ⟨bf,bl,AF⟩).2))/\fE base M F w' (cH m ⟨af,al,AF⟩ ⟨bf,bl,AF⟩).1/\ae (fun x=>x<w.heap.size/\¬F x) w w':=by
 have CL:DP (∀ W,ae (fun x=>x<w.heap.size) w W->ah 234 #[B' (AI ⟨M,0,AM⟩),Bs (cA (bW al)),Bs (cA (bW bf))] W fun e w'=>(∃ u,e=A' u)/\fE base M F w' (iD m al bf)/\ae (fun x=>x<W.heap.size/\¬F x) W w'):=AT fun W hW=>lp base M F m al bf W (h.keeps hW fun x hx=>(h.lt x hx).2) ha hn
 have HF:DP (∀ x,F x->x<w.heap.size):=AT fun x hx=>(h.lt x hx).2
 obtain⟨m2,mE⟩:=ag (iD m al bf);rw[<-mE]at CL;have hg1:(cH m ⟨af,al,AF⟩ ⟨bf,bl,AF⟩).1=m2:=mE.symm;have hg2:(cH m ⟨af,al,AF⟩ ⟨bf,bl,AF⟩).2=⟨af,bl,AF⟩:=rfl;rw[hg1,hg2];clear h ha hn mE hg1 hg2;generalize Qi:aA ⟨af,al,AF⟩=pa;generalize lG:aA ⟨bf,bl,AF⟩=pb;have YE:=AT Qi;have Cn:=AT lG;clear Qi lG;rw[<-YE.out, <-Cn.out];unfold aA;dsimp only;go_enter DQ,DH;go_wp2_with fail
 refine aK ?_;intro V hV;have A1:DP (ar V w.heap.size (aA ⟨af,al,AF⟩) 181):=by rw[hV];exact AT (((ar.new _ _ _).alloc _).alloc _)
 have B1:DP (ar V (w.heap.size+1) (aA ⟨bf,bl,AF⟩) 181):=by rw[hV];exact AT (((ar.new _ _ _).at (by simp)).alloc _)
 have R1:DP (ar V (w.heap.size+1+1) #[An As 0,An As 0,An As 0,An As 0,An As 0,An As 0,An As 0,An As 0,An As 0,An As 0,An As 0,An As 0,An As 0,An As 0,D_ AF] 181):=by rw[hV];exact AT ((ar.new _ _ _).at (by simp))
 have X1:DP (ae (· <w.heap.size) w V):=by rw[hV];exact AT ((((Ext.refl _).alloc _).alloc _).alloc _).keeps
 clear hV;refine(CL V X1).mono ?_;rintro e w2 ⟨⟨u,rfl⟩,hm,hx⟩;have ox:∀ k,w.heap.size<=k->¬F k:=fun k hk e=>by have:=HF.out k e;omega
 have A2:=AT (A1.keeps hx ⟨A1.lt,ox _ (by omega)⟩);have B2:=AT (B1.keeps hx ⟨B1.lt,ox _ (by omega)⟩);have R2:=AT (R1.keeps hx ⟨R1.lt,ox _ (by omega)⟩);have X2:DP (ae (fun x=>x<w.heap.size/\¬F x) w w2):=AT ((X1.mono fun x hx=>hx.1).tr (hx.mono fun x hx=>⟨by have:=A1.lt;have:=hx.1;omega,hx.2⟩));have hs2:w.heap.size+1+1<w2.heap.size:=R2.lt;have HM:=AT hm;have JS:=AT ox;clear hx hm A1 B1 R1 X1 CL ox;obtain⟨a0,a1,a2,a3,a4,a5,a6,a7,a8,a9,jZ,j3,a12,j4,jo⟩:=(A2.out).part;obtain⟨b0,b1,b2,b3,b4,b5,b6,b7,b8,b9,p8,nK,qd,qf,oy⟩:=(B2.out).part;dsimp only at a0 a1 a2 a3 a4 a5 a6 a7 a8 a9 jZ j3 a12 j4 jo b0 b1 b2 b3 b4 b5 b6 b7 b8 b9 p8 nK qd qf oy;go_upto_region 3 with fail
 refine aw ?_;intro V2 hV2;have O2:DP (ar V2 w2.heap.size (aA ⟨af,bl,AF⟩) 181):=by rw[hV2];exact AT (ar.new _ _ _)
 have E2:Ext w2 V2:=by rw[hV2];exact(Ext.refl _).alloc _
 have A3:=AT (A2.ext E2);have B3:=AT (B2.ext E2);have R3:=AT (R2.ext E2);have M3:=AT (HM.keeps E2.keeps fun x hx=>(HM.lt x hx).2);have X3:=AT (X2.tr (E2.mono fun x hx=>by have:=hx.1;omega));have hs3:w2.heap.size<V2.heap.size:=O2.lt;clear hV2 E2 A2 B2 R2 HM X2 a0 a1 a2 a3 a4 a5 a6 a7 a8 a9 jZ j3 a12 j4 jo b0 b1 b2 b3 b4 b5 b6 b7 b8 b9 p8 nK qd qf oy;obtain⟨a0,a1,a2,a3,a4,a5,a6,a7,a8,a9,jZ,j3,a12,j4,jo⟩:=A3.part;obtain⟨b0,b1,b2,b3,b4,b5,b6,b7,b8,b9,p8,nK,qd,qf,oy⟩:=B3.part;obtain⟨o0,o1,o2,o3,o4,o5,o6,o7,o8,o9,qw,qx,qy,qz,qg⟩:=O2.part;obtain⟨Qj,Qk,Ql,Qm,Qo,Qp,Qq,Qr,Qs,Qt,vQ,vR,vS,vT,vU⟩:=O2.nJ;dsimp only at a0 a1 a2 a3 a4 a5 a6 a7 a8 a9 jZ j3 a12 j4 jo b0 b1 b2 b3 b4 b5 b6 b7 b8 b9 p8 nK qd qf oy o0 o1 o2 o3 o4 o5 o6 o7 o8 o9 qw qx qy qz qg;go_wp2_with (first | (refine aY rfl 181 (.tmp 7) rfl w2.heap.size rfl (aA ⟨af,bl,AF⟩) _ O2.range Bm rfl (bE _) ?_) | (refine By rfl 181 (.tmp 6) (.tmp 37) rfl (w.heap.size+1+1) (aA ⟨af,bl,AF⟩) rfl rfl 181 #[An As 0,An As 0,An As 0,An As 0,An As 0,An As 0,An As 0,An As 0,An As 0,An As 0,An As 0,An As 0,An As 0,An As 0,D_ AF] R3 (bE _) rfl (ew _) ?_;refine Hid.out ?_));refine AT ?_;obtain⟨V3,cP⟩:=ag (V2.setRow (w.heap.size+1+1) (aA ⟨af,bl,AF⟩));rw[<-cP];have R9:DP (ar V3 (w.heap.size+1+1) (aA ⟨af,bl,AF⟩) 181):=by rw[cP];exact AT R3.setRow
 have K9:ae (· ≠w.heap.size+1+1) V2 V3:=by rw[cP];exact bG _ _ _
 have M9:=M3.keeps K9 fun x hx=>by have:=HF.out x hx;omega
 have X9:=X3.tr (K9.mono fun x hx=>by have:=hx.1;omega);clear cP;go_wp2;obtain⟨m0,m1,m2,m3,m4,m5,m6,m7,m8,m9,m10,m11,m12,m13,m14⟩:=R9.part;dsimp only at m0 m1 m2 m3 m4 m5 m6 m7 m8 m9 m10 m11 m12 m13 m14;refine C_ (v:=Bs (aA ⟨af,bl,AF⟩)) (by simp[results,Cd,aA,go_sem,m0,m1,m2,m3,m4,m5,m6,m7,m8,m9,m10,m11,m12,m13,m14]) rfl ⟨rfl,M9,X9⟩
theorem sF (base M:Nat) (F:Nat->Prop) (m:GM) (af al bf bl:PB) (w:AS) (h:fE base M F w m) (ha:dy al m.cB.length) (hn:m.cB.length<=448): ah 203 #[B' (AI ⟨M,0,AM⟩),Bs (aA ⟨af,al,AF⟩),Bs (aA ⟨bf,bl,A_⟩)] w fun e w'=>e=A' (Bs (aA (cH m ⟨af,al,AF⟩ ⟨bf,bl,A_⟩).2))/\fE base M F w' (cH m ⟨af,al,AF⟩ ⟨bf,bl,A_⟩).1/\ae (fun x=>x<w.heap.size/\¬F x) w w':=by
 have CL:DP (∀ W,ae (fun x=>x<w.heap.size) w W->ah 234 #[B' (AI ⟨M,0,AM⟩),Bs (cA (bW al)),Bs (cA (bW bf))] W fun e w'=>(∃ u,e=A' u)/\fE base M F w' (iD m al bf)/\ae (fun x=>x<W.heap.size/\¬F x) W w'):=AT fun W hW=>lp base M F m al bf W (h.keeps hW fun x hx=>(h.lt x hx).2) ha hn
 have HF:DP (∀ x,F x->x<w.heap.size):=AT fun x hx=>(h.lt x hx).2
 obtain⟨m2,mE⟩:=ag (iD m al bf);rw[<-mE]at CL;have hg1:(cH m ⟨af,al,AF⟩ ⟨bf,bl,A_⟩).1=m2:=mE.symm;have hg2:(cH m ⟨af,al,AF⟩ ⟨bf,bl,A_⟩).2=⟨af,bl ||| al,AF⟩:=rfl;rw[hg1,hg2];clear h ha hn mE hg1 hg2;generalize Qi:aA ⟨af,al,AF⟩=pa;generalize lG:aA ⟨bf,bl,A_⟩=pb;have YE:=AT Qi;have Cn:=AT lG;clear Qi lG;rw[<-YE.out, <-Cn.out];unfold aA;dsimp only;go_enter DQ,DH;go_wp2_with fail
 refine aK ?_;intro V hV;have A1:DP (ar V w.heap.size (aA ⟨af,al,AF⟩) 181):=by rw[hV];exact AT (((ar.new _ _ _).alloc _).alloc _)
 have B1:DP (ar V (w.heap.size+1) (aA ⟨bf,bl,A_⟩) 181):=by rw[hV];exact AT (((ar.new _ _ _).at (by simp)).alloc _)
 have R1:DP (ar V (w.heap.size+1+1) #[An As 0,An As 0,An As 0,An As 0,An As 0,An As 0,An As 0,An As 0,An As 0,An As 0,An As 0,An As 0,An As 0,An As 0,D_ AF] 181):=by rw[hV];exact AT ((ar.new _ _ _).at (by simp))
 have X1:DP (ae (· <w.heap.size) w V):=by rw[hV];exact AT ((((Ext.refl _).alloc _).alloc _).alloc _).keeps
 clear hV;refine(CL V X1).mono ?_;rintro e w2 ⟨⟨u,rfl⟩,hm,hx⟩;have ox:∀ k,w.heap.size<=k->¬F k:=fun k hk e=>by have:=HF.out k e;omega
 have A2:=AT (A1.keeps hx ⟨A1.lt,ox _ (by omega)⟩);have B2:=AT (B1.keeps hx ⟨B1.lt,ox _ (by omega)⟩);have R2:=AT (R1.keeps hx ⟨R1.lt,ox _ (by omega)⟩);have X2:DP (ae (fun x=>x<w.heap.size/\¬F x) w w2):=AT ((X1.mono fun x hx=>hx.1).tr (hx.mono fun x hx=>⟨by have:=A1.lt;have:=hx.1;omega,hx.2⟩));have hs2:w.heap.size+1+1<w2.heap.size:=R2.lt;have HM:=AT hm;have JS:=AT ox;clear hx hm A1 B1 R1 X1 CL ox;obtain⟨a0,a1,a2,a3,a4,a5,a6,a7,a8,a9,jZ,j3,a12,j4,jo⟩:=(A2.out).part;obtain⟨b0,b1,b2,b3,b4,b5,b6,b7,b8,b9,p8,nK,qd,qf,oy⟩:=(B2.out).part;dsimp only at a0 a1 a2 a3 a4 a5 a6 a7 a8 a9 jZ j3 a12 j4 jo b0 b1 b2 b3 b4 b5 b6 b7 b8 b9 p8 nK qd qf oy;go_upto_region 3 with fail
 refine aw ?_;intro V2 hV2;have O2:DP (ar V2 w2.heap.size (aA ⟨af,bl,AF⟩) 181):=by rw[hV2];exact AT (ar.new _ _ _)
 have E2:Ext w2 V2:=by rw[hV2];exact(Ext.refl _).alloc _
 have A3:=AT (A2.ext E2);have B3:=AT (B2.ext E2);have R3:=AT (R2.ext E2);have M3:=AT (HM.keeps E2.keeps fun x hx=>(HM.lt x hx).2);have X3:=AT (X2.tr (E2.mono fun x hx=>by have:=hx.1;omega));have hs3:w2.heap.size<V2.heap.size:=O2.lt;clear hV2 E2 A2 B2 R2 HM X2 a0 a1 a2 a3 a4 a5 a6 a7 a8 a9 jZ j3 a12 j4 jo b0 b1 b2 b3 b4 b5 b6 b7 b8 b9 p8 nK qd qf oy;obtain⟨a0,a1,a2,a3,a4,a5,a6,a7,a8,a9,jZ,j3,a12,j4,jo⟩:=A3.part;obtain⟨b0,b1,b2,b3,b4,b5,b6,b7,b8,b9,p8,nK,qd,qf,oy⟩:=B3.part;obtain⟨o0,o1,o2,o3,o4,o5,o6,o7,o8,o9,qw,qx,qy,qz,qg⟩:=O2.part;obtain⟨Qj,Qk,Ql,Qm,Qo,Qp,Qq,Qr,Qs,Qt,vQ,vR,vS,vT,vU⟩:=O2.nJ;dsimp only at a0 a1 a2 a3 a4 a5 a6 a7 a8 a9 jZ j3 a12 j4 jo b0 b1 b2 b3 b4 b5 b6 b7 b8 b9 p8 nK qd qf oy o0 o1 o2 o3 o4 o5 o6 o7 o8 o9 qw qx qy qz qg;go_wp2_with fail
 clear a0 a1 a2 a3 a4 a5 a6 a7 a8 a9 jZ j3 a12 j4 jo b0 b1 b2 b3 b4 b5 b6 b7 b8 b9 p8 nK qd qf oy o0 o1 o2 o3 o4 o5 o6 o7 o8 o9 qw qx qy qz qg Qj Qk Ql Qm Qo Qp Qq Qr Qs Qt vQ vR vS vT vU;refine(jP (bW bl) (bW al) w2.heap.size 7 V2 (fP.cL O2) (fun i _=>O2.frozen _)).mono ?_;rintro e w3 ⟨⟨u,rfl⟩,hx⟩;have ks:ae (· ≠w2.heap.size) V2 (fA V2 w2.heap.size 7 (fun i=>bW bl i ||| bW al i) 7):=cJ _ _ _ _ _;have O3:DP (ar w3 w2.heap.size (aA ⟨af,bl ||| al,AF⟩) 181):=AT ((pZ O2 (bl ||| al) (fun i _=>(vO bl al i).symm)).keeps hx hs3);have kk:ae (fun x=>x<V2.heap.size/\x≠w2.heap.size) V2 w3:=(ks.mono fun x hx=>hx.2).tr (hx.mono fun x hx=>hx.1);have A4:=AT (A3.keeps kk ⟨A3.lt,by omega⟩);have B4:=AT (B3.keeps kk ⟨B3.lt,by omega⟩);have R4:=AT (R3.keeps kk ⟨R3.lt,by omega⟩);have M4:=AT (M3.keeps kk fun x hx=>⟨(M3.lt x hx).2,by have:=HF.out x hx;omega⟩);have X4:=AT (X3.tr (kk.mono fun x hx=>⟨by have:=hx.1;omega,by have:=hx.1;omega⟩));have Hq:w2.heap.size<w3.heap.size:=O3.lt;clear hx ks kk;obtain⟨a0,a1,a2,a3,a4,a5,a6,a7,a8,a9,jZ,j3,a12,j4,jo⟩:=A4.part;obtain⟨b0,b1,b2,b3,b4,b5,b6,b7,b8,b9,p8,nK,qd,qf,oy⟩:=B4.part;obtain⟨o0,o1,o2,o3,o4,o5,o6,o7,o8,o9,qw,qx,qy,qz,qg⟩:=O3.part
 obtain⟨Qj,Qk,Ql,Qm,Qo,Qp,Qq,Qr,Qs,Qt,vQ,vR,vS,vT,vU⟩:=O3.nJ;dsimp only at a0 a1 a2 a3 a4 a5 a6 a7 a8 a9 jZ j3 a12 j4 jo b0 b1 b2 b3 b4 b5 b6 b7 b8 b9 p8 nK qd qf oy o0 o1 o2 o3 o4 o5 o6 o7 o8 o9 qw qx qy qz qg;go_wp2_with (first | (refine aY rfl 181 (.tmp 7) rfl w2.heap.size rfl (aA ⟨af,bl ||| al,AF⟩) _ O3.range Bm rfl (bE _) ?_) | (refine By rfl 181 (.tmp 6) (.tmp 37) rfl (w.heap.size+1+1) (aA ⟨af,bl ||| al,AF⟩) rfl rfl 181 #[An As 0,An As 0,An As 0,An As 0,An As 0,An As 0,An As 0,An As 0,An As 0,An As 0,An As 0,An As 0,An As 0,An As 0,D_ AF] R4 (bE _) rfl (ew _) ?_;refine Hid.out ?_));refine AT ?_;obtain⟨V3,cP⟩:=ag (w3.setRow (w.heap.size+1+1) (aA ⟨af,bl ||| al,AF⟩));rw[<-cP];have R9:DP (ar V3 (w.heap.size+1+1) (aA ⟨af,bl ||| al,AF⟩) 181):=by rw[cP];exact AT R4.setRow
 have K9:ae (· ≠w.heap.size+1+1) w3 V3:=by rw[cP];exact bG _ _ _
 have M9:=M4.keeps K9 fun x hx=>by have:=HF.out x hx;omega
 have X9:=X4.tr (K9.mono fun x hx=>by have:=hx.1;omega);clear cP;go_wp2;obtain⟨m0,m1,m2,m3,m4,m5,m6,m7,m8,m9,m10,m11,m12,m13,m14⟩:=R9.part;dsimp only at m0 m1 m2 m3 m4 m5 m6 m7 m8 m9 m10 m11 m12 m13 m14;refine C_ (v:=Bs (aA ⟨af,bl ||| al,AF⟩)) (by simp[results,Cd,aA,go_sem,m0,m1,m2,m3,m4,m5,m6,m7,m8,m9,m10,m11,m12,m13,m14]) rfl ⟨rfl,M9,X9⟩
theorem sG (base M:Nat) (F:Nat->Prop) (m:GM) (af al bf bl:PB) (w:AS) (h:fE base M F w m) (ha:dy al m.cB.length) (hn:m.cB.length<=448): ah 203 #[B' (AI ⟨M,0,AM⟩),Bs (aA ⟨af,al,A_⟩),Bs (aA ⟨bf,bl,AF⟩)] w fun e w'=>e=A' (Bs (aA (cH m ⟨af,al,A_⟩ ⟨bf,bl,AF⟩).2))/\fE base M F w' (cH m ⟨af,al,A_⟩ ⟨bf,bl,AF⟩).1/\ae (fun x=>x<w.heap.size/\¬F x) w w':=by
 have CL:DP (∀ W,ae (fun x=>x<w.heap.size) w W->ah 234 #[B' (AI ⟨M,0,AM⟩),Bs (cA (bW al)),Bs (cA (bW bf))] W fun e w'=>(∃ u,e=A' u)/\fE base M F w' (iD m al bf)/\ae (fun x=>x<W.heap.size/\¬F x) W w'):=AT fun W hW=>lp base M F m al bf W (h.keeps hW fun x hx=>(h.lt x hx).2) ha hn
 have HF:DP (∀ x,F x->x<w.heap.size):=AT fun x hx=>(h.lt x hx).2
 obtain⟨m2,mE⟩:=ag (iD m al bf);rw[<-mE]at CL;have hg1:(cH m ⟨af,al,A_⟩ ⟨bf,bl,AF⟩).1=m2:=mE.symm;have hg2:(cH m ⟨af,al,A_⟩ ⟨bf,bl,AF⟩).2=⟨af ||| bf,bl,AF⟩:=rfl;rw[hg1,hg2];clear h ha hn mE hg1 hg2;generalize Qi:aA ⟨af,al,A_⟩=pa;generalize lG:aA ⟨bf,bl,AF⟩=pb;have YE:=AT Qi;have Cn:=AT lG;clear Qi lG;rw[<-YE.out, <-Cn.out];unfold aA;dsimp only;go_enter DQ,DH;go_wp2_with fail
 refine aK ?_;intro V hV;have A1:DP (ar V w.heap.size (aA ⟨af,al,A_⟩) 181):=by rw[hV];exact AT (((ar.new _ _ _).alloc _).alloc _)
 have B1:DP (ar V (w.heap.size+1) (aA ⟨bf,bl,AF⟩) 181):=by rw[hV];exact AT (((ar.new _ _ _).at (by simp)).alloc _)
 have R1:DP (ar V (w.heap.size+1+1) #[An As 0,An As 0,An As 0,An As 0,An As 0,An As 0,An As 0,An As 0,An As 0,An As 0,An As 0,An As 0,An As 0,An As 0,D_ AF] 181):=by rw[hV];exact AT ((ar.new _ _ _).at (by simp))
 have X1:DP (ae (· <w.heap.size) w V):=by rw[hV];exact AT ((((Ext.refl _).alloc _).alloc _).alloc _).keeps
 clear hV;refine(CL V X1).mono ?_;rintro e w2 ⟨⟨u,rfl⟩,hm,hx⟩;have ox:∀ k,w.heap.size<=k->¬F k:=fun k hk e=>by have:=HF.out k e;omega
 have A2:=AT (A1.keeps hx ⟨A1.lt,ox _ (by omega)⟩);have B2:=AT (B1.keeps hx ⟨B1.lt,ox _ (by omega)⟩);have R2:=AT (R1.keeps hx ⟨R1.lt,ox _ (by omega)⟩);have X2:DP (ae (fun x=>x<w.heap.size/\¬F x) w w2):=AT ((X1.mono fun x hx=>hx.1).tr (hx.mono fun x hx=>⟨by have:=A1.lt;have:=hx.1;omega,hx.2⟩));have hs2:w.heap.size+1+1<w2.heap.size:=R2.lt;have HM:=AT hm;have JS:=AT ox;clear hx hm A1 B1 R1 X1 CL ox;obtain⟨a0,a1,a2,a3,a4,a5,a6,a7,a8,a9,jZ,j3,a12,j4,jo⟩:=(A2.out).part;obtain⟨b0,b1,b2,b3,b4,b5,b6,b7,b8,b9,p8,nK,qd,qf,oy⟩:=(B2.out).part;dsimp only at a0 a1 a2 a3 a4 a5 a6 a7 a8 a9 jZ j3 a12 j4 jo b0 b1 b2 b3 b4 b5 b6 b7 b8 b9 p8 nK qd qf oy;go_upto_region 3 with fail
 refine aw ?_;intro V2 hV2;have O2:DP (ar V2 w2.heap.size (aA ⟨af,bl,AF⟩) 181):=by rw[hV2];exact AT (ar.new _ _ _)
 have E2:Ext w2 V2:=by rw[hV2];exact(Ext.refl _).alloc _
 have A3:=AT (A2.ext E2);have B3:=AT (B2.ext E2);have R3:=AT (R2.ext E2);have M3:=AT (HM.keeps E2.keeps fun x hx=>(HM.lt x hx).2);have X3:=AT (X2.tr (E2.mono fun x hx=>by have:=hx.1;omega));have hs3:w2.heap.size<V2.heap.size:=O2.lt;clear hV2 E2 A2 B2 R2 HM X2 a0 a1 a2 a3 a4 a5 a6 a7 a8 a9 jZ j3 a12 j4 jo b0 b1 b2 b3 b4 b5 b6 b7 b8 b9 p8 nK qd qf oy;obtain⟨a0,a1,a2,a3,a4,a5,a6,a7,a8,a9,jZ,j3,a12,j4,jo⟩:=A3.part;obtain⟨b0,b1,b2,b3,b4,b5,b6,b7,b8,b9,p8,nK,qd,qf,oy⟩:=B3.part;obtain⟨o0,o1,o2,o3,o4,o5,o6,o7,o8,o9,qw,qx,qy,qz,qg⟩:=O2.part;obtain⟨Qj,Qk,Ql,Qm,Qo,Qp,Qq,Qr,Qs,Qt,vQ,vR,vS,vT,vU⟩:=O2.nJ;dsimp only at a0 a1 a2 a3 a4 a5 a6 a7 a8 a9 jZ j3 a12 j4 jo b0 b1 b2 b3 b4 b5 b6 b7 b8 b9 p8 nK qd qf oy o0 o1 o2 o3 o4 o5 o6 o7 o8 o9 qw qx qy qz qg;go_wp2_with fail
 clear a0 a1 a2 a3 a4 a5 a6 a7 a8 a9 jZ j3 a12 j4 jo b0 b1 b2 b3 b4 b5 b6 b7 b8 b9 p8 nK qd qf oy o0 o1 o2 o3 o4 o5 o6 o7 o8 o9 qw qx qy qz qg Qj Qk Ql Qm Qo Qp Qq Qr Qs Qt vQ vR vS vT vU;refine(jP (bW af) (bW bf) w2.heap.size 0 V2 (fP.fst O2) (fun i _=>O2.frozen _)).mono ?_;rintro e w3 ⟨⟨u,rfl⟩,hx⟩;have ks:ae (· ≠w2.heap.size) V2 (fA V2 w2.heap.size 0 (fun i=>bW af i ||| bW bf i) 7):=cJ _ _ _ _ _;have O3:DP (ar w3 w2.heap.size (aA ⟨af ||| bf,bl,AF⟩) 181):=AT ((pY O2 (af ||| bf) (fun i _=>(vO af bf i).symm)).keeps hx hs3);have kk:ae (fun x=>x<V2.heap.size/\x≠w2.heap.size) V2 w3:=(ks.mono fun x hx=>hx.2).tr (hx.mono fun x hx=>hx.1);have A4:=AT (A3.keeps kk ⟨A3.lt,by omega⟩);have B4:=AT (B3.keeps kk ⟨B3.lt,by omega⟩);have R4:=AT (R3.keeps kk ⟨R3.lt,by omega⟩);have M4:=AT (M3.keeps kk fun x hx=>⟨(M3.lt x hx).2,by have:=HF.out x hx;omega⟩);have X4:=AT (X3.tr (kk.mono fun x hx=>⟨by have:=hx.1;omega,by have:=hx.1;omega⟩));have Hq:w2.heap.size<w3.heap.size:=O3.lt;clear hx ks kk;obtain⟨a0,a1,a2,a3,a4,a5,a6,a7,a8,a9,jZ,j3,a12,j4,jo⟩:=A4.part;obtain⟨b0,b1,b2,b3,b4,b5,b6,b7,b8,b9,p8,nK,qd,qf,oy⟩:=B4.part;obtain⟨o0,o1,o2,o3,o4,o5,o6,o7,o8,o9,qw,qx,qy,qz,qg⟩:=O3.part
 obtain⟨Qj,Qk,Ql,Qm,Qo,Qp,Qq,Qr,Qs,Qt,vQ,vR,vS,vT,vU⟩:=O3.nJ;dsimp only at a0 a1 a2 a3 a4 a5 a6 a7 a8 a9 jZ j3 a12 j4 jo b0 b1 b2 b3 b4 b5 b6 b7 b8 b9 p8 nK qd qf oy o0 o1 o2 o3 o4 o5 o6 o7 o8 o9 qw qx qy qz qg;go_wp2_with (first | (refine aY rfl 181 (.tmp 7) rfl w2.heap.size rfl (aA ⟨af ||| bf,bl,AF⟩) _ O3.range Bm rfl (bE _) ?_) | (refine By rfl 181 (.tmp 6) (.tmp 37) rfl (w.heap.size+1+1) (aA ⟨af ||| bf,bl,AF⟩) rfl rfl 181 #[An As 0,An As 0,An As 0,An As 0,An As 0,An As 0,An As 0,An As 0,An As 0,An As 0,An As 0,An As 0,An As 0,An As 0,D_ AF] R4 (bE _) rfl (ew _) ?_;refine Hid.out ?_));refine AT ?_;obtain⟨V3,cP⟩:=ag (w3.setRow (w.heap.size+1+1) (aA ⟨af ||| bf,bl,AF⟩));rw[<-cP];have R9:DP (ar V3 (w.heap.size+1+1) (aA ⟨af ||| bf,bl,AF⟩) 181):=by rw[cP];exact AT R4.setRow
 have K9:ae (· ≠w.heap.size+1+1) w3 V3:=by rw[cP];exact bG _ _ _
 have M9:=M4.keeps K9 fun x hx=>by have:=HF.out x hx;omega
 have X9:=X4.tr (K9.mono fun x hx=>by have:=hx.1;omega);clear cP;go_wp2;obtain⟨m0,m1,m2,m3,m4,m5,m6,m7,m8,m9,m10,m11,m12,m13,m14⟩:=R9.part;dsimp only at m0 m1 m2 m3 m4 m5 m6 m7 m8 m9 m10 m11 m12 m13 m14;refine C_ (v:=Bs (aA ⟨af ||| bf,bl,AF⟩)) (by simp[results,Cd,aA,go_sem,m0,m1,m2,m3,m4,m5,m6,m7,m8,m9,m10,m11,m12,m13,m14]) rfl ⟨rfl,M9,X9⟩
theorem uh (base M:Nat) (F:Nat->Prop) (m:GM) (af al bf bl:PB) (w:AS) (h:fE base M F w m) (ha:dy al m.cB.length) (hn:m.cB.length<=448): ah 203 #[B' (AI ⟨M,0,AM⟩),Bs (aA ⟨af,al,A_⟩),Bs (aA ⟨bf,bl,A_⟩)] w fun e w'=>e=A' (Bs (aA (cH m ⟨af,al,A_⟩ ⟨bf,bl,A_⟩).2))/\fE base M F w' (cH m ⟨af,al,A_⟩ ⟨bf,bl,A_⟩).1/\ae (fun x=>x<w.heap.size/\¬F x) w w':=by
 have CL:DP (∀ W,ae (fun x=>x<w.heap.size) w W->ah 234 #[B' (AI ⟨M,0,AM⟩),Bs (cA (bW al)),Bs (cA (bW bf))] W fun e w'=>(∃ u,e=A' u)/\fE base M F w' (iD m al bf)/\ae (fun x=>x<W.heap.size/\¬F x) W w'):=AT fun W hW=>lp base M F m al bf W (h.keeps hW fun x hx=>(h.lt x hx).2) ha hn
 have HF:DP (∀ x,F x->x<w.heap.size):=AT fun x hx=>(h.lt x hx).2
 obtain⟨m2,mE⟩:=ag (iD m al bf);rw[<-mE]at CL;have hg1:(cH m ⟨af,al,A_⟩ ⟨bf,bl,A_⟩).1=m2:=mE.symm;have hg2:(cH m ⟨af,al,A_⟩ ⟨bf,bl,A_⟩).2=⟨af ||| bf,bl ||| al,A_⟩:=rfl;rw[hg1,hg2];clear h ha hn mE hg1 hg2;generalize Qi:aA ⟨af,al,A_⟩=pa;generalize lG:aA ⟨bf,bl,A_⟩=pb;have YE:=AT Qi;have Cn:=AT lG;clear Qi lG;rw[<-YE.out, <-Cn.out];unfold aA;dsimp only;go_enter DQ,DH;go_wp2_with fail
 refine aK ?_;intro V hV;have A1:DP (ar V w.heap.size (aA ⟨af,al,A_⟩) 181):=by rw[hV];exact AT (((ar.new _ _ _).alloc _).alloc _)
 have B1:DP (ar V (w.heap.size+1) (aA ⟨bf,bl,A_⟩) 181):=by rw[hV];exact AT (((ar.new _ _ _).at (by simp)).alloc _)
 have R1:DP (ar V (w.heap.size+1+1) #[An As 0,An As 0,An As 0,An As 0,An As 0,An As 0,An As 0,An As 0,An As 0,An As 0,An As 0,An As 0,An As 0,An As 0,D_ AF] 181):=by rw[hV];exact AT ((ar.new _ _ _).at (by simp))
 have X1:DP (ae (· <w.heap.size) w V):=by rw[hV];exact AT ((((Ext.refl _).alloc _).alloc _).alloc _).keeps
 clear hV;refine(CL V X1).mono ?_;rintro e w2 ⟨⟨u,rfl⟩,hm,hx⟩;have ox:∀ k,w.heap.size<=k->¬F k:=fun k hk e=>by have:=HF.out k e;omega
 have A2:=AT (A1.keeps hx ⟨A1.lt,ox _ (by omega)⟩);have B2:=AT (B1.keeps hx ⟨B1.lt,ox _ (by omega)⟩);have R2:=AT (R1.keeps hx ⟨R1.lt,ox _ (by omega)⟩);have X2:DP (ae (fun x=>x<w.heap.size/\¬F x) w w2):=AT ((X1.mono fun x hx=>hx.1).tr (hx.mono fun x hx=>⟨by have:=A1.lt;have:=hx.1;omega,hx.2⟩));have hs2:w.heap.size+1+1<w2.heap.size:=R2.lt;have HM:=AT hm;have JS:=AT ox;clear hx hm A1 B1 R1 X1 CL ox;obtain⟨a0,a1,a2,a3,a4,a5,a6,a7,a8,a9,jZ,j3,a12,j4,jo⟩:=(A2.out).part;obtain⟨b0,b1,b2,b3,b4,b5,b6,b7,b8,b9,p8,nK,qd,qf,oy⟩:=(B2.out).part;dsimp only at a0 a1 a2 a3 a4 a5 a6 a7 a8 a9 jZ j3 a12 j4 jo b0 b1 b2 b3 b4 b5 b6 b7 b8 b9 p8 nK qd qf oy;go_upto_region 3 with fail
 refine aw ?_;intro V2 hV2;have O2:DP (ar V2 w2.heap.size (aA ⟨af,bl,A_⟩) 181):=by rw[hV2];exact AT (ar.new _ _ _)
 have E2:Ext w2 V2:=by rw[hV2];exact(Ext.refl _).alloc _
 have A3:=AT (A2.ext E2);have B3:=AT (B2.ext E2);have R3:=AT (R2.ext E2);have M3:=AT (HM.keeps E2.keeps fun x hx=>(HM.lt x hx).2);have X3:=AT (X2.tr (E2.mono fun x hx=>by have:=hx.1;omega));have hs3:w2.heap.size<V2.heap.size:=O2.lt;clear hV2 E2 A2 B2 R2 HM X2 a0 a1 a2 a3 a4 a5 a6 a7 a8 a9 jZ j3 a12 j4 jo b0 b1 b2 b3 b4 b5 b6 b7 b8 b9 p8 nK qd qf oy;obtain⟨a0,a1,a2,a3,a4,a5,a6,a7,a8,a9,jZ,j3,a12,j4,jo⟩:=A3.part;obtain⟨b0,b1,b2,b3,b4,b5,b6,b7,b8,b9,p8,nK,qd,qf,oy⟩:=B3.part;obtain⟨o0,o1,o2,o3,o4,o5,o6,o7,o8,o9,qw,qx,qy,qz,qg⟩:=O2.part;obtain⟨Qj,Qk,Ql,Qm,Qo,Qp,Qq,Qr,Qs,Qt,vQ,vR,vS,vT,vU⟩:=O2.nJ;dsimp only at a0 a1 a2 a3 a4 a5 a6 a7 a8 a9 jZ j3 a12 j4 jo b0 b1 b2 b3 b4 b5 b6 b7 b8 b9 p8 nK qd qf oy o0 o1 o2 o3 o4 o5 o6 o7 o8 o9 qw qx qy qz qg;go_wp2_with fail
 clear a0 a1 a2 a3 a4 a5 a6 a7 a8 a9 jZ j3 a12 j4 jo b0 b1 b2 b3 b4 b5 b6 b7 b8 b9 p8 nK qd qf oy o0 o1 o2 o3 o4 o5 o6 o7 o8 o9 qw qx qy qz qg Qj Qk Ql Qm Qo Qp Qq Qr Qs Qt vQ vR vS vT vU;refine(jP (bW af) (bW bf) w2.heap.size 0 V2 (fP.fst O2) (fun i _=>O2.frozen _)).mono ?_;rintro e w3 ⟨⟨u,rfl⟩,hx⟩;have ks:ae (· ≠w2.heap.size) V2 (fA V2 w2.heap.size 0 (fun i=>bW af i ||| bW bf i) 7):=cJ _ _ _ _ _;have O3:DP (ar w3 w2.heap.size (aA ⟨af ||| bf,bl,A_⟩) 181):=AT ((pY O2 (af ||| bf) (fun i _=>(vO af bf i).symm)).keeps hx hs3);have kk:ae (fun x=>x<V2.heap.size/\x≠w2.heap.size) V2 w3:=(ks.mono fun x hx=>hx.2).tr (hx.mono fun x hx=>hx.1);have A4:=AT (A3.keeps kk ⟨A3.lt,by omega⟩);have B4:=AT (B3.keeps kk ⟨B3.lt,by omega⟩);have R4:=AT (R3.keeps kk ⟨R3.lt,by omega⟩);have M4:=AT (M3.keeps kk fun x hx=>⟨(M3.lt x hx).2,by have:=HF.out x hx;omega⟩);have X4:=AT (X3.tr (kk.mono fun x hx=>⟨by have:=hx.1;omega,by have:=hx.1;omega⟩));have Hq:w2.heap.size<w3.heap.size:=O3.lt;clear hx ks kk;obtain⟨a0,a1,a2,a3,a4,a5,a6,a7,a8,a9,jZ,j3,a12,j4,jo⟩:=A4.part;obtain⟨b0,b1,b2,b3,b4,b5,b6,b7,b8,b9,p8,nK,qd,qf,oy⟩:=B4.part;obtain⟨o0,o1,o2,o3,o4,o5,o6,o7,o8,o9,qw,qx,qy,qz,qg⟩:=O3.part;obtain⟨Qj,Qk,Ql,Qm,Qo,Qp,Qq,Qr,Qs,Qt,vQ,vR,vS,vT,vU⟩:=O3.nJ;dsimp only at a0 a1 a2 a3 a4 a5 a6 a7 a8 a9 jZ j3 a12 j4 jo b0 b1 b2 b3 b4 b5 b6 b7 b8 b9 p8 nK qd qf oy o0 o1 o2 o3 o4 o5 o6 o7 o8 o9 qw qx qy qz qg;go_wp2_with fail
 clear a0 a1 a2 a3 a4 a5 a6 a7 a8 a9 jZ j3 a12 j4 jo b0 b1 b2 b3 b4 b5 b6 b7 b8 b9 p8 nK qd qf oy o0 o1 o2 o3 o4 o5 o6 o7 o8 o9 qw qx qy qz qg Qj Qk Ql Qm Qo Qp Qq Qr Qs Qt vQ vR vS vT vU;refine(jP (bW bl) (bW al) w2.heap.size 7 w3 (fP.cL O3) (fun i _=>O3.frozen _)).mono ?_;rintro e w4 ⟨⟨u,rfl⟩,hx⟩;have ks:ae (· ≠w2.heap.size) w3 (fA w3 w2.heap.size 7 (fun i=>bW bl i ||| bW al i) 7):=cJ _ _ _ _ _;have O4:DP (ar w4 w2.heap.size (aA ⟨af ||| bf,bl ||| al,A_⟩) 181):=AT ((pZ O3 (bl ||| al) (fun i _=>(vO bl al i).symm)).keeps hx Hq);have kk:ae (fun x=>x<w3.heap.size/\x≠w2.heap.size) w3 w4:=(ks.mono fun x hx=>hx.2).tr (hx.mono fun x hx=>hx.1);have A5:=AT (A4.keeps kk ⟨A4.lt,by omega⟩);have B5:=AT (B4.keeps kk ⟨B4.lt,by omega⟩);have R5:=AT (R4.keeps kk ⟨R4.lt,by omega⟩);have M5:=AT (M4.keeps kk fun x hx=>⟨(M4.lt x hx).2,by have:=HF.out x hx;omega⟩);have X5:=AT (X4.tr (kk.mono fun x hx=>⟨by have:=hx.1;omega,by have:=hx.1;omega⟩));have hs5:w2.heap.size<w4.heap.size:=O4.lt;clear hx ks kk;obtain⟨a0,a1,a2,a3,a4,a5,a6,a7,a8,a9,jZ,j3,a12,j4,jo⟩:=A5.part;obtain⟨b0,b1,b2,b3,b4,b5,b6,b7,b8,b9,p8,nK,qd,qf,oy⟩:=B5.part;obtain⟨o0,o1,o2,o3,o4,o5,o6,o7,o8,o9,qw,qx,qy,qz,qg⟩:=O4.part
 obtain⟨Qj,Qk,Ql,Qm,Qo,Qp,Qq,Qr,Qs,Qt,vQ,vR,vS,vT,vU⟩:=O4.nJ;dsimp only at a0 a1 a2 a3 a4 a5 a6 a7 a8 a9 jZ j3 a12 j4 jo b0 b1 b2 b3 b4 b5 b6 b7 b8 b9 p8 nK qd qf oy o0 o1 o2 o3 o4 o5 o6 o7 o8 o9 qw qx qy qz qg;go_wp2_with (first | (refine aY rfl 181 (.tmp 7) rfl w2.heap.size rfl (aA ⟨af ||| bf,bl ||| al,A_⟩) _ O4.range Bm rfl (bE _) ?_) | (refine By rfl 181 (.tmp 6) (.tmp 37) rfl (w.heap.size+1+1) (aA ⟨af ||| bf,bl ||| al,A_⟩) rfl rfl 181 #[An As 0,An As 0,An As 0,An As 0,An As 0,An As 0,An As 0,An As 0,An As 0,An As 0,An As 0,An As 0,An As 0,An As 0,D_ AF] R5 (bE _) rfl (ew _) ?_;refine Hid.out ?_));refine AT ?_;obtain⟨V3,cP⟩:=ag (w4.setRow (w.heap.size+1+1) (aA ⟨af ||| bf,bl ||| al,A_⟩));rw[<-cP];have R9:DP (ar V3 (w.heap.size+1+1) (aA ⟨af ||| bf,bl ||| al,A_⟩) 181):=by rw[cP];exact AT R5.setRow
 have K9:ae (· ≠w.heap.size+1+1) w4 V3:=by rw[cP];exact bG _ _ _
 have M9:=M5.keeps K9 fun x hx=>by have:=HF.out x hx;omega
 have X9:=X5.tr (K9.mono fun x hx=>by have:=hx.1;omega);clear cP;go_wp2;obtain⟨m0,m1,m2,m3,m4,m5,m6,m7,m8,m9,m10,m11,m12,m13,m14⟩:=R9.part;dsimp only at m0 m1 m2 m3 m4 m5 m6 m7 m8 m9 m10 m11 m12 m13 m14;refine C_ (v:=Bs (aA ⟨af ||| bf,bl ||| al,A_⟩)) (by simp[results,Cd,aA,go_sem,m0,m1,m2,m3,m4,m5,m6,m7,m8,m9,m10,m11,m12,m13,m14]) rfl ⟨rfl,M9,X9⟩
theorem oz (base M:Nat) (F:Nat->Prop) (m:GM) (a b:GP) (w:AS) (h:fE base M F w m) (ha:dy a.cL m.cB.length) (hn:m.cB.length<=448): ah 203 #[B' (AI ⟨M,0,AM⟩),Bs (aA a),Bs (aA b)] w fun e w'=>e=A' (Bs (aA (cH m a b).2))/\fE base M F w' (cH m a b).1/\ae (fun x=>x<w.heap.size/\¬F x) w w':=by
 obtain⟨af,al,ea⟩:=a;obtain⟨bf,bl,eb⟩:=b;cases ea<;>cases eb
 ·exact rj base M F m af al bf bl w h ha hn
 ·exact sF base M F m af al bf bl w h ha hn
 ·exact sG base M F m af al bf bl w h ha hn
 ·exact uh base M F m af al bf bl w h ha hn
theorem JU (i:Nat):bW (0:PB) i=0:=by apply BitVec.eq_of_getLsbD_eq;intro j hj;unfold bW;simp
def zeroV (e:Bool):Array Value:= #[An As 0,An As 0,An As 0,An As 0,An As 0,An As 0,An As 0,An As 0,An As 0,An As 0,An As 0,An As 0,An As 0,An As 0,D_ e]
theorem ir (e:Bool):aA ⟨0,0,e⟩=zeroV e:=by unfold aA zeroV;simp only[JU];rfl
theorem ar.zero {w:AS} {b:Nat} {e:Bool} {t:C'} (h:ar w b (zeroV e) t):w.cell? ⟨b,0,AM⟩=AI (An As 0)/\w.cell? ⟨b,1,AM⟩=AI (An As 0)/\w.cell? ⟨b,2,AM⟩=AI (An As 0)/\w.cell? ⟨b,3,AM⟩=AI (An As 0)/\w.cell? ⟨b,4,AM⟩=AI (An As 0)/\w.cell? ⟨b,5,AM⟩=AI (An As 0)/\w.cell? ⟨b,6,AM⟩=AI (An As 0)/\w.cell? ⟨b,7,AM⟩=AI (An As 0)/\w.cell? ⟨b,8,AM⟩=AI (An As 0)/\w.cell? ⟨b,9,AM⟩=AI (An As 0)/\w.cell? ⟨b,10,AM⟩=AI (An As 0)/\w.cell? ⟨b,11,AM⟩=AI (An As 0)/\w.cell? ⟨b,12,AM⟩=AI (An As 0)/\w.cell? ⟨b,13,AM⟩=AI (An As 0)/\w.cell? ⟨b,14,AM⟩=AI (D_ e):=
 ⟨h.cell 0,h.cell 1,h.cell 2,h.cell 3,h.cell 4,h.cell 5,h.cell 6,h.cell 7,h.cell 8,h.cell 9,h.cell 10,h.cell 11,h.cell 12,h.cell 13,h.cell 14⟩
theorem Hr (k:Nat) (s:BS) (mn mx:Int) (a:Value) (w:AS):ah 199 #[Bs (aq k s mn mx a)] w fun e w'=>e=A' (Bs (zeroV A_))/\ae (fun x=>x<w.heap.size) w w':=by
 unfold aq;go_enter Tryz.func199,Tryz.ntmps199;go_wp2;refine aQ ?_;intro V hV;have R1:DP (ar V (w.heap.size+1) (zeroV A_) 181):=by
  rw[hV];exact AT (ar.at (ar.new _ _ _) (by simp))
 have X1:ae (fun x=>x<w.heap.size) w V:=by rw[hV];exact(((Ext.refl w).alloc _).alloc _).keeps
 clear hV;obtain⟨m0,m1,m2,m3,m4,m5,m6,m7,m8,m9,m10,m11,m12,m13,m14⟩:=R1.zero;refine C_ (v:=Bs (zeroV A_)) (by simp[results,Tryz.results199,zeroV,go_sem,m0,m1,m2,m3,m4,m5,m6,m7,m8,m9,m10,m11,m12,m13,m14]) rfl ⟨rfl,X1⟩
theorem Tryz.YF:(E_.info? 27).map (fun i=>(i.zero,i.size,i.bytes))=AI (AI (AN AM 0 0),1,24):=by kernel_rfl
def gU (F:Nat->Prop) (w:AS) (base:Nat) (e:C') (v:Value) (n:Nat) (xs:List Value):Prop:=w.ownsRow base e 1 v n xs/\∀ x,v.ownBlock=AI x->F x
theorem gU.keeps {F:Nat->Prop} {w w':AS} {base n:Nat} {e:C'} {v:Value} {xs:List Value} (h:gU F w base e v n xs) {R:Nat->Prop} (hk:ae R w w') (hr:∀ x,x<w.heap.size->F x->R x):gU F w' base e v n xs:=
 ⟨ak h.1 hk fun x e=>hr x (h.1.lt x e).2 (h.2 x e),h.2⟩
theorem gU.nil (F:Nat->Prop) (w:AS) (base:Nat) (e:C'):gU F w base e (AN AM 0 0) 0 []:=⟨World.ownsRow_nil _ _ _ _,fun x e=>by cases e⟩
theorem gU.mono {F F':Nat->Prop} {w:AS} {base n:Nat} {e:C'} {v:Value} {xs:List Value} (h:gU F w base e v n xs) (hf:∀ x,x<w.heap.size->F x->F' x):gU F' w base e v n xs:=⟨h.1,fun x e=>hf x (h.1.lt x e).2 (h.2 x e)⟩
def Qu (F:Nat->Prop) (w:AS) (base:Nat) (us:List Value) (ll:List (List Int)):Prop:=∀ (i:Nat) (u:Value) (l:List Int),us[i]? =AI u->ll[i]? =AI l->gU F w base 3 u l.length (l.map aG)
def Mf (F:Nat->Prop) (w:AS) (base:Nat) (v:Value) (ll:List (List Int)):Prop:=∃ us,gU F w base 39 v ll.length us/\Qu F w base us ll
theorem Mf.own {F:Nat->Prop} {w:AS} {base:Nat} {v:Value} {ll:List (List Int)} (h:Mf F w base v ll):aS base w v ll:=by
 obtain⟨us,h1,h2⟩:=h;have hl:us.length=ll.length:=by have:=h1.1.1;omega
 exact⟨us,hl,by rw[hl];exact h1.1,fun i u l hu hl=>(h2 i u l hu hl).1⟩
theorem Mf.of {F:Nat->Prop} {w:AS} {base:Nat} {v:Value} {ll:List (List Int)} (h:aS base w v ll) (hf:∀ x,base<=x->F x):Mf F w base v ll:=by obtain⟨us,h1,h2,h3⟩:=h;rw[h1]at h2;exact⟨us,⟨h2,fun x e=>hf x (h2.lt x e).1⟩,fun i u l hu hl=>⟨h3 i u l hu hl,fun x e=>hf x ((h3 i u l hu hl).lt x e).1⟩⟩
theorem gU.base {F:Nat->Prop} {w:AS} {base base' n:Nat} {e:C'} {v:Value} {xs:List Value} (h:gU F w base e v n xs) (hb:base'<=base):gU F w base' e v n xs:=⟨aC h.1 hb,h.2⟩
theorem Mf.base {F:Nat->Prop} {w:AS} {base base':Nat} {v:Value} {ll:List (List Int)} (h:Mf F w base v ll) (hb:base'<=base):Mf F w base' v ll:=by obtain⟨us,h1,h2⟩:=h;exact⟨us,h1.base hb,fun i u l hu hl=>(h2 i u l hu hl).base hb⟩
structure Mk (F:Nat->Prop) (w:AS) (base mb ob f:Nat) (pv cv:Value) (ps:List PT) (rows:List (List (List Int))) (nx:List (List Int)) (sv nv kv:Value) (us ns ks:List Value):Prop where
 blk:ar w mb #[pv,An .i64 f,sv,.map (AI ob),cv,nv,kv] 196
 map:kW w ob rows
 fm:F mb
 fo:F ob
 bm:base<=mb
 bo:base<=ob
 st:gU F w base 27 sv rows.length us
 Tk:∀ (i:Nat) (u:Value) (r:List (List Int)),us[i]? =AI u->rows[i]? =AI r->Mf F w base u r/\oN u nv/\oN u kv
 ui:gU F w base 39 nv nx.length ns
 NQ:Qu F w base ns nx
 tF:gU F w base 39 kv rows.length ks
 NS:Qu F w base ks (rows.map (dH ps))
 far:oN nv kv
theorem Mk.keeps {F:Nat->Prop} {w w':AS} {base mb ob f:Nat} {pv cv:Value} {ps:List PT} {rows:List (List (List Int))} {nx:List (List Int)} {sv nv kv:Value} {us ns ks:List Value} (h:Mk F w base mb ob f pv cv ps rows nx sv nv kv us ns ks) {R:Nat->Prop} (hk:ae R w w') (hr:∀ x,x<w.heap.size->F x->R x):Mk F w' base mb ob f pv cv ps rows nx sv nv kv us ns ks where
 blk:=h.blk.keeps hk (hr _ h.blk.lt h.fm)
 map:=h.map.keeps hk (hr _ h.map.lt h.fo)
 fm:=h.fm
 fo:=h.fo
 bm:=h.bm
 bo:=h.bo
 st:=h.st.keeps hk hr
 Tk:=fun i u r hu hl=>by
  obtain⟨⟨vs,h1,h2⟩,h3⟩:=h.Tk i u r hu hl;exact⟨⟨vs,h1.keeps hk hr,fun i u l hu hl=>(h2 i u l hu hl).keeps hk hr⟩,h3⟩
 ui:=h.ui.keeps hk hr
 NQ:=fun i u l hu hl=>(h.NQ i u l hu hl).keeps hk hr
 tF:=h.tF.keeps hk hr
 NS:=fun i u l hu hl=>(h.NS i u l hu hl).keeps hk hr
 far:=h.far
theorem Mk.mono {F F':Nat->Prop} {w:AS} {base mb ob f:Nat} {pv cv:Value} {ps:List PT} {rows:List (List (List Int))} {nx:List (List Int)} {sv nv kv:Value} {us ns ks:List Value} (h:Mk F w base mb ob f pv cv ps rows nx sv nv kv us ns ks) (hf:∀ x,x<w.heap.size->F x->F' x):Mk F' w base mb ob f pv cv ps rows nx sv nv kv us ns ks where
 blk:=h.blk
 map:=h.map
 fm:=hf _ h.blk.lt h.fm
 fo:=hf _ h.map.lt h.fo
 bm:=h.bm
 bo:=h.bo
 st:=h.st.mono hf
 Tk:=fun i u r hu hl=>by
  obtain⟨⟨vs,h1,h2⟩,h3⟩:=h.Tk i u r hu hl;exact⟨⟨vs,h1.mono hf,fun i u l hu hl=>(h2 i u l hu hl).mono hf⟩,h3⟩
 ui:=h.ui.mono hf
 NQ:=fun i u l hu hl=>(h.NQ i u l hu hl).mono hf
 tF:=h.tF.mono hf
 NS:=fun i u l hu hl=>(h.NS i u l hu hl).mono hf
 far:=h.far
theorem Mk.below {F:Nat->Prop} {w w':AS} {base mb ob f:Nat} {pv cv:Value} {ps:List PT} {rows:List (List (List Int))} {nx:List (List Int)} {sv nv kv:Value} {us ns ks:List Value} (h:Mk F w base mb ob f pv cv ps rows nx sv nv kv us ns ks) (hk:aa w w'):Mk F w' base mb ob f pv cv ps rows nx sv nv kv us ns ks:=h.keeps (ae.aj hk fun _ h=>h:ae (· <w.heap.size) w w') fun _ h _=>h
def Wl (F:Nat->Prop) (w:AS) (base mb ob f:Nat) (pv cv:Value) (ps:List PT) (rows:List (List (List Int))) (nx:List (List Int)):Prop:=∃ sv nv kv us ns ks,Mk F w base mb ob f pv cv ps rows nx sv nv kv us ns ks
theorem lS {w:AS} {base size n:Nat} {e:C'} {v:Value} {xs:List Value} (h:w.ownsRow base e size v n xs) {b:Nat} {o:Obj} (hb:w.heap[b]? =AI o) (ho:∀ c fz,o≠ .cells c e fz):∀ x,v.ownBlock=AI x->x≠b:=fun x hx e2=>by
 subst e2;rcases h.2 with⟨rfl,_⟩ | ⟨g,c,cur,rfl,_,hg,_⟩
 ·cases hx
 ·have:g=x:=by simpa[Value.ownBlock]using hx
  subst this;rw[hb]at hg;exact ho _ _ (D0 hg)
theorem A9 (base:Nat) (v:Value) (n:Nat) (l:List Int) (w:AS) (ho:w.ownsRow base 3 1 v n (l.map aG)) (hn:n<=1000000): ah 215 #[v] w fun e w'=>∃ u,e=A' u/\w'.ownsRow base 3 1 u (Lib.compact l).length ((Lib.compact l).map aG)/\ae (fun x=>x<w.heap.size/\v.ownBlock≠AI x) w w'/\ ((v=AN AM 0 0/\u=AN AM 0 0)\/∃ g cap,v=AN (AI ⟨g,0,AM⟩) n cap/\u=AN (AI ⟨g,0,AM⟩) (Lib.compact l).length cap):=by
 have hl:l.length=n:=by have:=ho.1;simpa using this
 rcases ho.2 with⟨rfl,rfl⟩ | ⟨g,cap,cur,rfl,hbg,hg,hnc,hcm,_⟩
 ·have hl0:l=[]:=B_ hl
  subst hl0;exact(Any.slices_Compact_int_empty Tryz.DN AM 0 w).mono fun e w' ⟨he,hw⟩=>⟨_,he,by rw[hw];exact ho,by rw[hw];exact ae.refl _ _,.inl ⟨rfl,rfl⟩⟩
 ·have hc:∀ j,j<l.length->w.cell? ⟨g,0+j,AM⟩=AI (An .i64 (l.getD j 0)):=fun j hj=>by
   rw[Nat.zero_add,ho.cellAt j (by omega),aN,aB hj];simp[aG,hj]
  have:=Any.slices_Compact_int_cells Tryz.DN g 0 n cap l w (by omega) (by omega) hnc hc (fun j _=>ho.frozenAt _);rw[List.take_of_length_le (by omega)]at this;refine this.mono fun e w' ⟨he,q,hw⟩=>⟨_,he,?_⟩
  have hle:=Lib.compact_length_le l;have hd:(w.drewN q).ownsRow base 3 1 (AN (AI ⟨g,0,AM⟩) n cap) n (l.map aG):=ho;obtain⟨a1,a2⟩:=pA hd (ys:=(Lib.compact l++EV (n-(Lib.compact l).length) 0).map (An .i64)) (by rw[aP,aJ,List.length_replicate];omega);have Yp:ae (· ≠g) w (w.drewN q):=⟨rfl,rfl,rfl,aF _,fun _ _=>rfl⟩;rw[hw];refine⟨?_,(Yp.tr a2).mono fun x hx e=>hx.2 (by rw[e];rfl),.inr ⟨g,cap,rfl,rfl⟩⟩;have:=DO a1 (m:=(Lib.compact l).length) (by omega);have e:List.take (Lib.compact l).length ((Lib.compact l++EV (n-(Lib.compact l).length) 0).map (An .i64))=(Lib.compact l).map aG:=by rw[D',List.take_left' (by rw[aP])];rfl
  rw[e]at this;exact this
structure xI (n9 base n cn:Nat) (kv cu:Value) (ks cx:List Value) (A B:AS):Prop where
 keep:ae (fun x=>x<n9/\x<A.heap.size/\kv.ownBlock≠AI x) A B
 old:A.ownsRow base 39 1 kv n ks->B.ownsRow base 39 1 kv n ks
 YG:A.ownsRow n9 3 1 cu cn cx->B.ownsRow n9 3 1 cu cn cx
 box:∀ b,n9<=b->ar A b #[cu] 39->ar B b #[cu] 39
 new:∀ v,A.ownsRow base 39 1 v (n+1) (ks++ [cu])->B.ownsRow base 39 1 v (n+1) (ks++ [cu])
section
variable {n9 base n cn:Nat} {kv cu:Value} {ks cx:List Value} {A B C:AS}
theorem xI.trans (h:xI n9 base n cn kv cu ks cx A B) (k:xI n9 base n cn kv cu ks cx B C):xI n9 base n cn kv cu ks cx A C:=
 ⟨h.keep.trans k.keep fun _ hx=>⟨hx.1,ay hx.2.1 h.keep.size,hx.2.2⟩,fun a=>k.old (h.old a),fun a=>k.YG (h.YG a),fun b hb a=>k.box b hb (h.box b hb a),fun v a=>k.new v (h.new v a)⟩
theorem xI.below (h:aa A B):xI n9 base n cn kv cu ks cx A B:=
 ⟨ae.aj h fun _ hx=>hx.2.1,fun a=>ai a h,fun a=>ai a h,fun _ _ a=>a.below h a.lt,fun _ a=>ai a h⟩
theorem xI.drew:xI n9 base n cn kv cu ks cx A A.drew:=.below (Ext.refl A).drew.below
theorem xI.size (h:xI n9 base n cn kv cu ks cx A B):A.heap.size<=B.heap.size:=h.keep.size
theorem xI.compact {am:Nat} {mv:Value} {l:List Int} (ho:A.ownsRow n9 3 1 mv am (l.map aG)) (hb:ae (fun x=>x<A.heap.size/\mv.ownBlock≠AI x) A B) (hc:B.ownsRow n9 3 1 cu cn cx):xI n9 base n cn kv cu ks cx A B where
 keep:=hb.mono fun x hx=>⟨hx.2.1,fun e=>by have:=(ho.lt x e).1;omega⟩
 old:=fun a=>ak a hb fun x hx=>⟨(a.lt x hx).2,fun e=>by
  rcases ownBlock_ne (by decide) a ho with h | h
  ·rw[h]at hx;cases hx
  ·exact h (by rw[hx,e])⟩
 YG:=fun _=>hc
 box:=fun b _ a=>a.keeps hb ⟨a.lt,fun e=>bZ a ho (by decide) b e rfl⟩
 new:=fun v a=>ak a hb fun x hx=>⟨(a.lt x hx).2,fun e=>by
  rcases ownBlock_ne (by decide) a ho with h | h
  ·rw[h]at hx;cases hx
  ·exact h (by rw[hx,e])⟩
theorem xI.append {v:Value} (hk:A.ownsRow base 39 1 kv n ks) (UE:∀ x,kv.ownBlock=AI x->x<n9) (ho:B.ownsRow base 39 1 v (n+1) (ks++ [cu])) (hg:A.grownBy B kv.ownBlock) (kA:aa A B\/∃ g cap,kv=AN (AI ⟨g,0,AM⟩) n cap/\v=AN (AI ⟨g,0,AM⟩) (n+1) cap/\n+1<=cap):xI n9 base n cn kv cu ks cx A B:=by
 rcases kA with h | ⟨g,cap,e1,e2,_⟩
 ·exact .below h
 ·have hkx:ks.length=n*1:=hk.1
  refine⟨ae.aZ hg fun x hx=>⟨hx.2.1,fun e=>hx.2.2 e.symm⟩,fun _=>?_,fun a=>a.kept hg ?_,fun b hb a=>a.grown hg fun e=>?_,fun v' a=>?_⟩
  ·rw[e1];rw[e2]at ho;exact jI hkx ho
  ·exact ownBlock_ne (by decide) a hk
  ·have:=UE b e.symm;omega
  ·by_cases eb:v'.ownBlock=AI g
   ·obtain⟨c1,f1,f2,_,_⟩:=fe (by decide) a hk eb (by rw[e1];rfl)
    rw[e1]at f2;cases f2;rw[f1];rw[e2]at ho;exact ho
   ·refine a.kept hg (.inr fun e=>eb ?_)
    rw[e,e1];rfl
end
def vV.YG (n9 base n cn:Nat) (kv cu:Value) (ks cx:List Value):aU (xI n9 base n cn kv cu ks cx):=⟨fun v=>v=cu,fun _ W=>W.ownsRow n9 3 1 cu cn cx,cu,rfl,fun _ _ _ hm _ h=>hm.YG h⟩
def vV.box (n9 base n cn:Nat) (kv cu:Value) (ks cx:List Value):aU (xI n9 base n cn kv cu ks cx) where
 P:=fun v=>∃ b,n9<=b/\v=AN (AI ⟨b,0,AM⟩) 1 1
 H:=fun v W=>∀ b,v=AN (AI ⟨b,0,AM⟩) 1 1->ar W b #[cu] 39
 nU:=AN (AI ⟨n9,0,AM⟩) 1 1
 pw:=⟨n9,aF _,rfl⟩
 st:=fun v _ _ hm ⟨b,hb,e⟩ h b' e'=>by
  rw[e]at e';cases e';exact hm.box _ hb (h _ e)
def vV.new (n9 base n cn:Nat) (kv cu:Value) (ks cx:List Value):aU (xI n9 base n cn kv cu ks cx) where
 P:=fun v=>∃ a c,v=AN a (n+1) c
 H:=fun v W=>W.ownsRow base 39 1 v (n+1) (ks++ [cu])/\(v.ownBlock=kv.ownBlock\/∀ x,v.ownBlock=AI x->n9<=x)
 nU:=AN AM (n+1) 0
 pw:=⟨AM,0,rfl⟩
 st:=fun v _ _ hm _ h=>⟨hm.new v h.1,h.2⟩
theorem yj {am:Nat} {ma:Option Addr} {mc:Nat} {l:List Int} {u:Value} (hl:l.length=am) (h:((AN ma am mc)=AN AM 0 0/\u=AN AM 0 0)\/∃ g cap,(AN ma am mc)=AN (AI ⟨g,0,AM⟩) am cap/\u=AN (AI ⟨g,0,AM⟩) (Lib.compact l).length cap):u=AN ma (Lib.compact l).length mc:=by
 rcases h with⟨e,rfl⟩ | ⟨g,cap,e,rfl⟩
 ·cases e
  have hn:l=[]:=B_ hl;subst hn;rfl
 ·cases e
  rfl
theorem lT {P:Program} {Cl:FuncId->Array Value->AS->(Ending->AS->Prop)->Prop} {Rd:Nat->FuncId->Array Value->Code->Code->AS->(Ending->AS->Prop)->Prop} {o:Oper} {a:Act} {W:AS} {post:Value->AS->Prop} (s x:Operand) (t:C') (ho:o.op=.call {callee:=.builtin .append,args:= #[s,x],argTypes:= #[t,t]}) (base:Nat) (e:C') (i:TypeInfo) (z:Value) (size bytes:Nat) (ht:P.underlying t=AI (.slice e)) (hi:P.info? e=AI i) (hz:i.zero=AI z) (hsize:i.size=size) (hby:i.bytes=bytes) (hzs:z.cells.size=size) (hsz:0<size) (v:Value) (k:Nat) (xs:List Value) (hs:a.eval s=v) (hown:W.ownsRow base e size v k xs) (ad:Addr) (m c:Nat) (news:List Value) (hx:a.eval x=AN (AI ad) m c) (hnews:∀ j u,news[j]? =AI u->W.cell? (ad.add j)=AI u) (hl:news.length=m*size) (h1:∀ u∈news,u.oneCell'=A_) (h63:k+m<=maxLen) (hbytes:(k+m)*bytes<=140737488355328) (hbase:base<=W.heap.size) (hm:0<m) (h:∀ v' w',w'.ownsRow base e size v' (k+m) (xs++news)->W.grownBy w' v.ownBlock->((aa W w'/\v'.ownBlock=AI W.heap.size)\/∃ g cap,v=AN (AI ⟨g,0,AM⟩) k cap/\v'=AN (AI ⟨g,0,AM⟩) (k+m) cap/\k+m<=cap)->post v' w'): jB Cl Rd post ((execOp a.eval o).run P W):=by
 obtain⟨v',w',hr,h2,h3⟩:=gI (P:=P) W base t o.type e i z size bytes ht hi hz hsize hby hzs hsz v k xs hown ad m c news hl hnews h1 h63 hbytes hbase hm;obtain⟨v'',w'',hr',h2',h3'⟩:=jG (P:=P) W base t o.type e i z size bytes ht hi hz hsize hby hzs hsz v k xs hown (AN (AI ad) m c) m news (.inr ⟨_,_,rfl,hnews⟩) hl h1 h63 hbytes hbase;rw[hr]at hr';cases hr';unfold execOp;simp only[ho,resolve,invoke,builtin,Sem.run_bind,Sem.run_pure,Result.andThen_ok,List.map_toArray,List.map_cons,List.map_nil,hs,hx,hr];refine h v' w' h2 h3' ?_;rcases h3 with⟨g,cap,cur,e1,e2,e3,e4,e5,_⟩ | ⟨hb,e⟩
 ·exact .inr ⟨g,cap,e1,e5,by first | exact e3 | exact e4⟩
 ·exact .inl ⟨hb,e⟩
theorem Ej {wm wg:AS} {ob mb base L:Nat} {rows:List (List (List Int))} {cs:Array Value} {sv kv:Value} {us ks:List Value} (hm:kW wm ob rows) (hb:ar wm mb cs 196) (hs:wm.ownsRow base 27 1 sv L us) (hk:wm.ownsRow base 39 1 kv L ks) (K:ae (fun x=>x<wm.heap.size/\x≠ob/\x≠mb/\sv.ownBlock≠AI x/\kv.ownBlock≠AI x) wm wg) {b n:Nat} {e:C'} {v:Value} {xs:List Value} (h:wm.ownsRow b e 1 v n xs) (h1:196≠e) (h2:e≠27) (h3:e≠39\/oN v kv):wg.ownsRow b e 1 v n xs:=
 ak h K fun x hx=>⟨(h.lt x hx).2,lS h hm (fun c fz e=>by cases e) x hx,bZ hb h h1 x hx,fun e2=>by
  rcases ownBlock_ne h2 h hs with h5 | h5
  ·rw[h5]at hx;cases hx
  ·exact h5 (by rw[hx,e2]),fun e2=>by
  rcases h3 with h3 | h3
  ·rcases ownBlock_ne h3 h hk with h5 | h5
   ·rw[h5]at hx;cases hx
   ·exact h5 (by rw[hx,e2])
  ·rcases h3 with h5 | h5
   ·rw[h5]at hx;cases hx
   ·exact h5 (by rw[hx,e2])⟩
theorem Mk.more {F:Nat->Prop} {wm wg:AS} {base mb ob f cn L:Nat} {pv cv:Value} {ps:List PT} {rows:List (List (List Int))} {nx:List (List Int)} {sv nv kv YC kv' lv cu:Value} {us ns ks cx:List Value} {r:List (List Int)} (M:Mk F wm base mb ob f pv cv ps rows nx sv nv kv us ns ks) (hL:L=rows.length) (K:ae (fun x=>x<wm.heap.size/\x≠ob/\x≠mb/\sv.ownBlock≠AI x/\kv.ownBlock≠AI x) wm wg) (hblk:ar wg mb #[pv,An .i64 f,YC,.map (AI ob),cv,nv,kv'] 196) (hmap:kW wg ob (rows++ [r])) (hst:gU F wg base 27 YC (L+1) (us++ [lv])) (hlv:Mf F wg base lv r) (Qb:oN lv nv) (hf2:oN lv kv') (Ek:gU F wg base 39 kv' (L+1) (ks++ [cu])) (hcu:gU F wg base 3 cu cn cx) (hcn:cn=(dH ps r).length) (Pc:cx=(dH ps r).map aG) (hkf:∀ v,(∀ x,v.ownBlock=AI x->x<wm.heap.size)->oN v kv->oN v kv'):Mk F wg base mb ob f pv cv ps (rows++ [r]) nx YC nv kv' (us++ [lv]) ns (ks++ [cu]) where
 blk:=hblk
 map:=hmap
 fm:=M.fm
 fo:=M.fo
 bm:=M.bm
 bo:=M.bo
 st:=by rw[aJ, <-hL];exact hst
 Tk:=fun i u q hu hq=>by
  have hul:us.length=L:=by have:=M.st.1.1;omega
  by_cases hi:i<L
  ·rw[bH (by omega)]at hu hq
   obtain⟨⟨vs,h1,h2⟩,h3,h4⟩:=M.Tk i u q hu hq;exact⟨⟨vs,⟨Ej M.map M.blk M.st.1 M.tF.1 K h1.1 (by decide) (by decide) (.inr h4),h1.2⟩,fun i u l hu hl=>⟨Ej M.map M.blk M.st.1 M.tF.1 K (h2 i u l hu hl).1 (by decide) (by decide) (.inl (by decide)),(h2 i u l hu hl).2⟩⟩,h3,hkf u (fun x e=>(h1.1.lt x e).2) h4⟩
  ·have fT:=(DE.1 hu).1
   simp at fT;obtain rfl:i=L:=by omega
   rw[cF (by omega),hul,DS]at hu;rw[cF (by omega), <-hL,DS]at hq;cases hu;cases hq;exact⟨hlv,Qb,hf2⟩
 ui:=⟨Ej M.map M.blk M.st.1 M.tF.1 K M.ui.1 (by decide) (by decide) (.inr M.far),M.ui.2⟩
 NQ:=fun i u l hu hl=>⟨Ej M.map M.blk M.st.1 M.tF.1 K (M.NQ i u l hu hl).1 (by decide) (by decide) (.inl (by decide)),(M.NQ i u l hu hl).2⟩
 tF:=by rw[aJ, <-hL];exact Ek
 NS:=fun i u l hu hl=>by
  have hul:ks.length=L:=by have:=M.tF.1.1;omega
  rw[D']at hl;by_cases hi:i<L
  ·rw[bH (by omega)]at hu
   rw[bH (by rw[aP];omega)]at hl;exact⟨Ej M.map M.blk M.st.1 M.tF.1 K (M.NS i u l hu hl).1 (by decide) (by decide) (.inl (by decide)),(M.NS i u l hu hl).2⟩
  ·have fT:=(DE.1 hu).1
   simp at fT;obtain rfl:i=L:=by omega
   rw[cF (by omega),hul,DS]at hu;rw[cF (by rw[aP];omega),aP, <-hL,DS]at hl;cases hu;cases hl;rw[<-hcn, <-Pc];exact hcu
 far:=hkf nv (fun x e=>(M.ui.1.lt x e).2) M.far
structure qA (fv:Value) (n9 base n mb:Nat) (F:Nat->Prop) (S1 F1:List Value) (sx fx:Array Value) (A B:AS):Prop where
 keep:ae (fun x=>x<n9/\x<A.heap.size/\¬F x) A B
 ns:∀ v,A.ownsRow base 56 4 v (n+1) S1->B.ownsRow base 56 4 v (n+1) S1
 nf:∀ v,A.ownsRow base 179 7 v (n+1) F1->B.ownsRow base 179 7 v (n+1) F1
 bs:∀ b,n9<=b->ar A b sx 56->ar B b sx 56
 bf:∀ b,n9<=b->ar A b fx 179->ar B b fx 179
 sto:∀ a c,ar A mb #[AN a (n+1) c,fv] 177->ar B mb #[AN a (n+1) c,fv] 177
section
variable {n9 base n mb:Nat} {F:Nat→Prop} {S1 F1 S0 F0:List Value} {sx fx:Array Value} {sv fv:Value} {A B C:AS}
theorem qA.trans (h:qA fv n9 base n mb F S1 F1 sx fx A B) (k:qA fv n9 base n mb F S1 F1 sx fx B C):qA fv n9 base n mb F S1 F1 sx fx A C:=
 ⟨h.keep.trans k.keep fun _ hx=>⟨hx.1,ay hx.2.1 h.keep.size,hx.2.2⟩,fun v a=>k.ns v (h.ns v a),fun v a=>k.nf v (h.nf v a),fun b hb a=>k.bs b hb (h.bs b hb a),fun b hb a=>k.bf b hb (h.bf b hb a),fun a c e=>k.sto a c (h.sto a c e)⟩
theorem qA.below (h:aa A B):qA fv n9 base n mb F S1 F1 sx fx A B:=
 ⟨ae.aj h fun _ hx=>hx.2.1,fun _ a=>ai a h,fun _ a=>ai a h,fun _ _ a=>a.below h a.lt,fun _ _ a=>a.below h a.lt,fun _ _ a=>a.below h a.lt⟩
theorem qA.drew:qA fv n9 base n mb F S1 F1 sx fx A A.drew:=.below (Ext.refl A).drew.below
theorem qA.size (h:qA fv n9 base n mb F S1 F1 sx fx A B):A.heap.size<=B.heap.size:=h.keep.size
theorem qA.apS {v:Value} (hk:A.ownsRow base 56 4 sv n S0) (UE:∀ x,sv.ownBlock=AI x->x<n9/\F x) (hm:ar A mb #[sv,fv] 177) (ho:B.ownsRow base 56 4 v (n+1) S1) (hg:A.grownBy B sv.ownBlock) (kA:aa A B\/∃ g cap,sv=AN (AI ⟨g,0,AM⟩) n cap/\v=AN (AI ⟨g,0,AM⟩) (n+1) cap/\n+1<=cap):qA fv n9 base n mb F S1 F1 sx fx A B:=by
 rcases kA with h | ⟨g,cap,e1,e2,_⟩
 ·exact .below h
 ·have hne:mb≠g:=fun e=>bZ hm hk (by decide) mb (by rw[e1,e];rfl) rfl
  refine⟨ae.aZ hg fun x hx=>⟨hx.2.1,fun e=>hx.2.2 (UE x e.symm).2⟩,fun v' a=>?_,fun v' a=>a.kept hg (ownBlock_ne (by decide) a hk),fun b hb a=>a.grown hg fun e=>?_,fun b hb a=>a.grown hg fun e=>?_,fun a c e=>?_⟩
  ·by_cases eb:v'.ownBlock=AI g
   ·obtain⟨c1,f1,f2,_,_⟩:=fe (by decide) a hk eb (by rw[e1];rfl)
    rw[e1]at f2;cases f2;rw[f1];rw[e2]at ho;exact ho
   ·refine a.kept hg (.inr fun e=>eb ?_)
    rw[e,e1];rfl
  ·have:=(UE b e.symm).1;omega
  ·have:=(UE b e.symm).1;omega
  ·exact e.grown hg fun e=>by rw[e1]at e;exact hne (D0 e)
theorem qA.apF {v:Value} (hk:A.ownsRow base 179 7 fv n F0) (UE:∀ x,fv.ownBlock=AI x->x<n9/\F x) (hm:ar A mb #[sv,fv] 177) (ho:B.ownsRow base 179 7 v (n+1) F1) (hg:A.grownBy B fv.ownBlock) (kA:aa A B\/∃ g cap,fv=AN (AI ⟨g,0,AM⟩) n cap/\v=AN (AI ⟨g,0,AM⟩) (n+1) cap/\n+1<=cap):qA fv n9 base n mb F S1 F1 sx fx A B:=by
 rcases kA with h | ⟨g,cap,e1,e2,_⟩
 ·exact .below h
 ·have hne:mb≠g:=fun e=>bZ hm hk (by decide) mb (by rw[e1,e];rfl) rfl
  refine⟨ae.aZ hg fun x hx=>⟨hx.2.1,fun e=>hx.2.2 (UE x e.symm).2⟩,fun v' a=>a.kept hg (ownBlock_ne (by decide) a hk),fun v' a=>?_,fun b hb a=>a.grown hg fun e=>?_,fun b hb a=>a.grown hg fun e=>?_,fun a c e=>?_⟩
  ·by_cases eb:v'.ownBlock=AI g
   ·obtain⟨c1,f1,f2,_,_⟩:=fe (by decide) a hk eb (by rw[e1];rfl)
    rw[e1]at f2;cases f2;rw[f1];rw[e2]at ho;exact ho
   ·refine a.kept hg (.inr fun e=>eb ?_)
    rw[e,e1];rfl
  ·have:=(UE b e.symm).1;omega
  ·have:=(UE b e.symm).1;omega
  ·exact e.grown hg fun e=>by rw[e1]at e;exact hne (D0 e)
theorem qA.store (v:Value) (hm:ar A mb #[sv,fv] 177) (hn:∃ a c,sv=AN a n c) (hF:F mb) (pC:mb<n9):qA fv n9 base n mb F S1 F1 sx fx A (A.setCell ⟨mb,0,AM⟩ v):=by have hk:ae (· ≠mb) A (A.setCell ⟨mb,0,AM⟩ v):=(ae.refl (· ≠mb) A).setCell (fun h=>h rfl) _;refine⟨hk.mono fun x hx e=>hx.2.2 (by rw[e];exact hF),fun v a=>ak a hk fun x hx=>bZ hm a (by decide) x hx,fun v a=>ak a hk fun x hx=>bZ hm a (by decide) x hx,fun b hb a=>a.keeps hk (by omega),fun b hb a=>a.keeps hk (by omega),fun a c e=>?_⟩;obtain⟨a',c',rfl⟩:=hn;have h1:=hm.cell 0;have h2:=e.cell 0;rw[h1]at h2;simp at h2
def rp.box (fv:Value) (n9 base n mb:Nat) (F:Nat->Prop) (S1 F1:List Value) (sx fx:Array Value):aU (qA fv n9 base n mb F S1 F1 sx fx) where
 P:=fun v=>∃ b,n9<=b/\v=AN (AI ⟨b,0,AM⟩) 1 1
 H:=fun v W=>∀ b,v=AN (AI ⟨b,0,AM⟩) 1 1->ar W b sx 56
 nU:=AN (AI ⟨n9,0,AM⟩) 1 1
 pw:=⟨n9,aF _,rfl⟩
 st:=fun v _ _ hm ⟨b,hb,e⟩ h b' e'=>by
  rw[e]at e';cases e';exact hm.bs _ hb (h _ e)
def rp.aci (fv:Value) (n9 base n mb:Nat) (F:Nat->Prop) (S1 F1:List Value) (sx fx:Array Value):aU (qA fv n9 base n mb F S1 F1 sx fx) where
 P:=fun v=>∃ b,n9<=b/\v=AN (AI ⟨b,0,AM⟩) 1 1
 H:=fun v W=>∀ b,v=AN (AI ⟨b,0,AM⟩) 1 1->ar W b fx 179
 nU:=AN (AI ⟨n9,0,AM⟩) 1 1
 pw:=⟨n9,aF _,rfl⟩
 st:=fun v _ _ hm ⟨b,hb,e⟩ h b' e'=>by
  rw[e]at e';cases e';exact hm.bf _ hb (h _ e)
def rp.acj (fv:Value) (n9 base n mb:Nat) (F:Nat->Prop) (S1 F1:List Value) (sx fx:Array Value) (sv:Value):aU (qA fv n9 base n mb F S1 F1 sx fx) where
 P:=fun v=>∃ a c,v=AN a (n+1) c
 H:=fun v W=>W.ownsRow base 56 4 v (n+1) S1/\(v.ownBlock=sv.ownBlock\/∀ x,v.ownBlock=AI x->n9<=x)
 nU:=AN AM (n+1) 0
 pw:=⟨AM,0,rfl⟩
 st:=fun v _ _ hm _ h=>⟨hm.ns v h.1,h.2⟩
def rp.ack (fv:Value) (n9 base n mb:Nat) (F:Nat->Prop) (S1 F1:List Value) (sx fx:Array Value):aU (qA fv n9 base n mb F S1 F1 sx fx) where
 P:=fun v=>∃ a c,v=AN a (n+1) c
 H:=fun v W=>W.ownsRow base 179 7 v (n+1) F1/\(v.ownBlock=fv.ownBlock\/∀ x,v.ownBlock=AI x->n9<=x)
 nU:=AN AM (n+1) 0
 pw:=⟨AM,0,rfl⟩
 st:=fun v _ _ hm _ h=>⟨hm.nf v h.1,h.2⟩
def rp.sto (fv:Value) (n9 base n mb:Nat) (F:Nat->Prop) (S1 F1:List Value) (sx fx:Array Value) (sv:Value):aU (qA fv n9 base n mb F S1 F1 sx fx) where
 P:=fun _=>True
 H:=fun _ W=>∃ a c,ar W mb #[AN a (n+1) c,fv] 177/\W.ownsRow base 56 4 (AN a (n+1) c) (n+1) S1/\((AN a (n+1) c).ownBlock=sv.ownBlock\/∀ x,(AN a (n+1) c).ownBlock=AI x->n9<=x)
 nU:=undef
 pw:=trivial
 st:=fun _ _ _ hm _ ⟨a,c,h1,h2,h3⟩=>⟨a,c,hm.sto a c h1,hm.ns _ h2,h3⟩
end
theorem Qv (x y:PB) (e:Bool) {p:Nat} (hp:p<448):(aA ⟨x,y,e⟩).setIfInBounds (0+p/64) (An As (jK (bW x) p (p/64)).toNat)=aA ⟨x ||| eC p,y,e⟩:=by
 have h1:∀ j,bW (x ||| eC p) j=jK (bW x) p j:=fun j=>Qf x hp j
 have h2:∀ j,j≠p/64->jK (bW x) p j=bW x j:=fun j hj=>by unfold jK;rw[if_neg hj]
 obtain⟨q,hq⟩:=ag (p/64);rw[<-hq]at h2 ⊢;obtain⟨v,hv⟩:=ag (jK (bW x) p);rw[<-hv]at h1 h2 ⊢;have PE:q<7:=by omega
 unfold aA;simp only[h1];have h7:q=0\/q=1\/q=2\/q=3\/q=4\/q=5\/q=6:=by omega
 rcases h7 with rfl | rfl | rfl | rfl | rfl | rfl | rfl
 ·rw[h2 1 (by decide),h2 2 (by decide),h2 3 (by decide),h2 4 (by decide),h2 5 (by decide),h2 6 (by decide)];rfl
 ·rw[h2 0 (by decide),h2 2 (by decide),h2 3 (by decide),h2 4 (by decide),h2 5 (by decide),h2 6 (by decide)];rfl
 ·rw[h2 0 (by decide),h2 1 (by decide),h2 3 (by decide),h2 4 (by decide),h2 5 (by decide),h2 6 (by decide)];rfl
 ·rw[h2 0 (by decide),h2 1 (by decide),h2 2 (by decide),h2 4 (by decide),h2 5 (by decide),h2 6 (by decide)];rfl
 ·rw[h2 0 (by decide),h2 1 (by decide),h2 2 (by decide),h2 3 (by decide),h2 5 (by decide),h2 6 (by decide)];rfl
 ·rw[h2 0 (by decide),h2 1 (by decide),h2 2 (by decide),h2 3 (by decide),h2 4 (by decide),h2 6 (by decide)];rfl
 ·rw[h2 0 (by decide),h2 1 (by decide),h2 2 (by decide),h2 3 (by decide),h2 4 (by decide),h2 5 (by decide)];rfl
theorem Qw (x y:PB) (e:Bool) {p:Nat} (hp:p<448):(aA ⟨x,y,e⟩).setIfInBounds (7+p/64) (An As (jK (bW y) p (p/64)).toNat)=aA ⟨x,y ||| eC p,e⟩:=by
 have h1:∀ j,bW (y ||| eC p) j=jK (bW y) p j:=fun j=>Qf y hp j
 have h2:∀ j,j≠p/64->jK (bW y) p j=bW y j:=fun j hj=>by unfold jK;rw[if_neg hj]
 obtain⟨q,hq⟩:=ag (p/64);rw[<-hq]at h2 ⊢;obtain⟨v,hv⟩:=ag (jK (bW y) p);rw[<-hv]at h1 h2 ⊢;have PE:q<7:=by omega
 unfold aA;simp only[h1];have h7:q=0\/q=1\/q=2\/q=3\/q=4\/q=5\/q=6:=by omega
 rcases h7 with rfl | rfl | rfl | rfl | rfl | rfl | rfl
 ·rw[h2 1 (by decide),h2 2 (by decide),h2 3 (by decide),h2 4 (by decide),h2 5 (by decide),h2 6 (by decide)];rfl
 ·rw[h2 0 (by decide),h2 2 (by decide),h2 3 (by decide),h2 4 (by decide),h2 5 (by decide),h2 6 (by decide)];rfl
 ·rw[h2 0 (by decide),h2 1 (by decide),h2 3 (by decide),h2 4 (by decide),h2 5 (by decide),h2 6 (by decide)];rfl
 ·rw[h2 0 (by decide),h2 1 (by decide),h2 2 (by decide),h2 4 (by decide),h2 5 (by decide),h2 6 (by decide)];rfl
 ·rw[h2 0 (by decide),h2 1 (by decide),h2 2 (by decide),h2 3 (by decide),h2 5 (by decide),h2 6 (by decide)];rfl
 ·rw[h2 0 (by decide),h2 1 (by decide),h2 2 (by decide),h2 3 (by decide),h2 4 (by decide),h2 6 (by decide)];rfl
 ·rw[h2 0 (by decide),h2 1 (by decide),h2 2 (by decide),h2 3 (by decide),h2 4 (by decide),h2 5 (by decide)];rfl
end Go.Proofs.YtjgccapbphadjaaGreatDoor
