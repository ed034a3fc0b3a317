/- A position put into a part in memory. -/
import Derived.Test.YtpcmhjbehdgdbaaGreatDoorOI07
set_option maxRecDepth 100000
set_option maxHeartbeats 16000000
open Go.Lib (hid)
namespace Go.Proofs.YtpcmhjbehdgdbaaGreatDoor
open Go Go.RowKit Go.Shelf Go.Maps
theorem aq.part {w:World} {b:Nat} {a:GP} {t:TypeId} (h:aq w b (az a) t):w.cell? ⟨b,0,none⟩=some (.int .u64 (bW a.fst 0).toNat)/\w.cell? ⟨b,1,none⟩=some (.int .u64 (bW a.fst 1).toNat)/\w.cell? ⟨b,2,none⟩=some (.int .u64 (bW a.fst 2).toNat)/\w.cell? ⟨b,3,none⟩=some (.int .u64 (bW a.fst 3).toNat)/\w.cell? ⟨b,4,none⟩=some (.int .u64 (bW a.fst 4).toNat)/\w.cell? ⟨b,5,none⟩=some (.int .u64 (bW a.fst 5).toNat)/\w.cell? ⟨b,6,none⟩=some (.int .u64 (bW a.fst 6).toNat)/\w.cell? ⟨b,7,none⟩=some (.int .u64 (bW a.cS 0).toNat)/\w.cell? ⟨b,8,none⟩=some (.int .u64 (bW a.cS 1).toNat)/\w.cell? ⟨b,9,none⟩=some (.int .u64 (bW a.cS 2).toNat)/\w.cell? ⟨b,10,none⟩=some (.int .u64 (bW a.cS 3).toNat)/\w.cell? ⟨b,11,none⟩=some (.int .u64 (bW a.cS 4).toNat)/\w.cell? ⟨b,12,none⟩=some (.int .u64 (bW a.cS 5).toNat)/\w.cell? ⟨b,13,none⟩=some (.int .u64 (bW a.cS 6).toNat)/\w.cell? ⟨b,14,none⟩=some (.bool a.emp):=
 ⟨h.cell 0,h.cell 1,h.cell 2,h.cell 3,h.cell 4,h.cell 5,h.cell 6,h.cell 7,h.cell 8,h.cell 9,h.cell 10,h.cell 11,h.cell 12,h.cell 13,h.cell 14⟩
theorem aq.ny {w:World} {b:Nat} {a:GP} {t:TypeId} (h:aq w b (az a) t):w.frozen? ⟨b,0,none⟩=false/\w.frozen? ⟨b,1,none⟩=false/\w.frozen? ⟨b,2,none⟩=false/\w.frozen? ⟨b,3,none⟩=false/\w.frozen? ⟨b,4,none⟩=false/\w.frozen? ⟨b,5,none⟩=false/\w.frozen? ⟨b,6,none⟩=false/\w.frozen? ⟨b,7,none⟩=false/\w.frozen? ⟨b,8,none⟩=false/\w.frozen? ⟨b,9,none⟩=false/\w.frozen? ⟨b,10,none⟩=false/\w.frozen? ⟨b,11,none⟩=false/\w.frozen? ⟨b,12,none⟩=false/\w.frozen? ⟨b,13,none⟩=false/\w.frozen? ⟨b,14,none⟩=false:=
 ⟨h.frozen 0,h.frozen 1,h.frozen 2,h.frozen 3,h.frozen 4,h.frozen 5,h.frozen 6,h.frozen 7,h.frozen 8,h.frozen 9,h.frozen 10,h.frozen 11,h.frozen 12,h.frozen 13,h.frozen 14⟩
theorem bn (W:World) (b:Nat) (c:Array Value):ae (· ≠b) W (W.setRow b c):=(ae.refl _ _).setRow (fun h=>h rfl) c
theorem bD (a:GP):(Tryz.prog.info? 142).map (·.size)=some (az a).size:=by show _=some 15;kernel_rfl
theorem eF (a:GP):(az a).all (·.oneCell')=true:=by unfold az;simp[Value.oneCell']
theorem qQ (base M:Nat) (F:Nat->Prop) (m:GM) (af al bf bl:PB) (w:World) (h:fO base M F w m) (ha:dC al m.cG.length) (hn:m.cG.length<=448): ag 125 #[.pointer (some ⟨M,0,none⟩),.agg (az ⟨af,al,false⟩),.agg (az ⟨bf,bl,false⟩)] w fun e w'=>e=.returned (.agg (az (cK m ⟨af,al,false⟩ ⟨bf,bl,false⟩).2))/\fO base M F w' (cK m ⟨af,al,false⟩ ⟨bf,bl,false⟩).1/\ae (fun x=>x<w.heap.size/\¬F x) w w':=by
 have CL:Hid (∀ W,ae (fun x=>x<w.heap.size) w W->ag 149 #[.pointer (some ⟨M,0,none⟩),.agg (cE (bW al)),.agg (cE (bW bf))] W fun e w'=>(∃ u,e=.returned u)/\fO base M F w' (iD m al bf)/\ae (fun x=>x<W.heap.size/\¬F x) W w'):=hid fun W hW=>kU base M F m al bf W (h.keeps hW fun x hx=>(h.lt x hx).2) ha hn
 have HF:Hid (∀ x,F x->x<w.heap.size):=hid fun x hx=>(h.lt x hx).2
 obtain⟨m2,yB⟩:=ah (iD m al bf);rw[<-yB]at CL;have hg1:(cK m ⟨af,al,false⟩ ⟨bf,bl,false⟩).1=m2:=yB.symm;have hg2:(cK m ⟨af,al,false⟩ ⟨bf,bl,false⟩).2=⟨af,bl,false⟩:=rfl;rw[hg1,hg2];clear h ha hn yB hg1 hg2;generalize Po:az ⟨af,al,false⟩=pa;generalize zR:az ⟨bf,bl,false⟩=pb;have WT:=hid Po;have BR:=hid zR;clear Po zR;rw[<-WT.out, <-BR.out];unfold az;dsimp only;go_enter Tryz.func125,Tryz.ntmps125;go_wp2_with fail
 refine aK ?_;intro V hV;have A1:Hid (aq V w.heap.size (az ⟨af,al,false⟩) 142):=by rw[hV];exact hid (((aq.new _ _ _).alloc _).alloc _)
 have B1:Hid (aq V (w.heap.size+1) (az ⟨bf,bl,false⟩) 142):=by rw[hV];exact hid (((aq.new _ _ _).at (by simp)).alloc _)
 have R1:Hid (aq V (w.heap.size+1+1) #[.int .u64 0,.int .u64 0,.int .u64 0,.int .u64 0,.int .u64 0,.int .u64 0,.int .u64 0,.int .u64 0,.int .u64 0,.int .u64 0,.int .u64 0,.int .u64 0,.int .u64 0,.int .u64 0,.bool false] 142):=by rw[hV];exact hid ((aq.new _ _ _).at (by simp))
 have X1:Hid (ae (· <w.heap.size) w V):=by rw[hV];exact hid ((((Ext.refl _).alloc _).alloc _).alloc _).keeps
 clear hV;refine(CL V X1).mono ?_;rintro e w2 ⟨⟨u,rfl⟩,hm,hx⟩;have nV:∀ k,w.heap.size<=k->¬F k:=fun k hk e=>by have:=HF.out k e;omega
 have A2:=hid (A1.keeps hx ⟨A1.lt,nV _ (by omega)⟩);have B2:=hid (B1.keeps hx ⟨B1.lt,nV _ (by omega)⟩);have R2:=hid (R1.keeps hx ⟨R1.lt,nV _ (by omega)⟩);have X2:Hid (ae (fun x=>x<w.heap.size/\¬F x) w w2):=hid ((X1.mono fun x hx=>hx.1).tr (hx.mono fun x hx=>⟨by have:=A1.lt;have:=hx.1;omega,hx.2⟩));have hs2:w.heap.size+1+1<w2.heap.size:=R2.lt;have HM:=hid hm;have Je:=hid nV;clear hx hm A1 B1 R1 X1 CL nV;obtain⟨a0,a1,a2,a3,a4,a5,a6,a7,a8,a9,jQ,jR,a12,jS,jb⟩:=(A2.out).part;obtain⟨b0,b1,b2,b3,b4,b5,b6,b7,b8,b9,pJ,pK,pL,pM,nW⟩:=(B2.out).part;dsimp only at a0 a1 a2 a3 a4 a5 a6 a7 a8 a9 jQ jR a12 jS jb b0 b1 b2 b3 b4 b5 b6 b7 b8 b9 pJ pK pL pM nW;go_upto_region 3 with fail
 refine ax ?_;intro V2 hV2;have O2:Hid (aq V2 w2.heap.size (az ⟨af,bl,false⟩) 142):=by rw[hV2];exact hid (aq.new _ _ _)
 have E2:Ext w2 V2:=by rw[hV2];exact(Ext.refl _).alloc _
 have A3:=hid (A2.ext E2);have B3:=hid (B2.ext E2);have R3:=hid (R2.ext E2);have M3:=hid (HM.keeps E2.keeps fun x hx=>(HM.lt x hx).2);have X3:=hid (X2.tr (E2.mono fun x hx=>by have:=hx.1;omega));have hs3:w2.heap.size<V2.heap.size:=O2.lt;clear hV2 E2 A2 B2 R2 HM X2 a0 a1 a2 a3 a4 a5 a6 a7 a8 a9 jQ jR a12 jS jb b0 b1 b2 b3 b4 b5 b6 b7 b8 b9 pJ pK pL pM nW;obtain⟨a0,a1,a2,a3,a4,a5,a6,a7,a8,a9,jQ,jR,a12,jS,jb⟩:=A3.part;obtain⟨b0,b1,b2,b3,b4,b5,b6,b7,b8,b9,pJ,pK,pL,pM,nW⟩:=B3.part;obtain⟨o0,o1,o2,o3,o4,o5,o6,o7,o8,o9,pY,pZ,qf,qg,pN⟩:=O2.part;obtain⟨Pp,Pq,Pr,Pt,Pu,Pv,Pw,Px,Py,Pz,vW,vX,vY,vZ,wh⟩:=O2.ny;dsimp only at a0 a1 a2 a3 a4 a5 a6 a7 a8 a9 jQ jR a12 jS jb b0 b1 b2 b3 b4 b5 b6 b7 b8 b9 pJ pK pL pM nW o0 o1 o2 o3 o4 o5 o6 o7 o8 o9 pY pZ qf qg pN;go_wp2_with (first | (refine aJ rfl 142 (.tmp 7) rfl w2.heap.size rfl (az ⟨af,bl,false⟩) _ O2.range Tryz.underlying142 rfl (bD _) ?_) | (refine wpList_store_row rfl 142 (.tmp 6) (.tmp 37) rfl (w.heap.size+1+1) (az ⟨af,bl,false⟩) rfl rfl 142 #[.int .u64 0,.int .u64 0,.int .u64 0,.int .u64 0,.int .u64 0,.int .u64 0,.int .u64 0,.int .u64 0,.int .u64 0,.int .u64 0,.int .u64 0,.int .u64 0,.int .u64 0,.int .u64 0,.bool false] R3 (bD _) rfl (eF _) ?_;refine Hid.out ?_));refine hid ?_;obtain⟨V3,cD⟩:=ah (V2.setRow (w.heap.size+1+1) (az ⟨af,bl,false⟩));rw[<-cD];have R9:Hid (aq V3 (w.heap.size+1+1) (az ⟨af,bl,false⟩) 142):=by rw[cD];exact hid R3.setRow
 have K9:ae (· ≠w.heap.size+1+1) V2 V3:=by rw[cD];exact bn _ _ _
 have M9:=M3.keeps K9 fun x hx=>by have:=HF.out x hx;omega
 have X9:=X3.tr (K9.mono fun x hx=>by have:=hx.1;omega);clear cD;go_wp2;obtain⟨m0,m1,m2,m3,m4,m5,m6,m7,m8,m9,m10,m11,m12,m13,m14⟩:=R9.part;dsimp only at m0 m1 m2 m3 m4 m5 m6 m7 m8 m9 m10 m11 m12 m13 m14;refine bodyPost_ret (v:=.agg (az ⟨af,bl,false⟩)) (by simp[results,Tryz.results125,az,go_sem,m0,m1,m2,m3,m4,m5,m6,m7,m8,m9,m10,m11,m12,m13,m14]) rfl ⟨rfl,M9,X9⟩
theorem sj (base M:Nat) (F:Nat->Prop) (m:GM) (af al bf bl:PB) (w:World) (h:fO base M F w m) (ha:dC al m.cG.length) (hn:m.cG.length<=448): ag 125 #[.pointer (some ⟨M,0,none⟩),.agg (az ⟨af,al,false⟩),.agg (az ⟨bf,bl,true⟩)] w fun e w'=>e=.returned (.agg (az (cK m ⟨af,al,false⟩ ⟨bf,bl,true⟩).2))/\fO base M F w' (cK m ⟨af,al,false⟩ ⟨bf,bl,true⟩).1/\ae (fun x=>x<w.heap.size/\¬F x) w w':=by
 have CL:Hid (∀ W,ae (fun x=>x<w.heap.size) w W->ag 149 #[.pointer (some ⟨M,0,none⟩),.agg (cE (bW al)),.agg (cE (bW bf))] W fun e w'=>(∃ u,e=.returned u)/\fO base M F w' (iD m al bf)/\ae (fun x=>x<W.heap.size/\¬F x) W w'):=hid fun W hW=>kU base M F m al bf W (h.keeps hW fun x hx=>(h.lt x hx).2) ha hn
 have HF:Hid (∀ x,F x->x<w.heap.size):=hid fun x hx=>(h.lt x hx).2
 obtain⟨m2,yB⟩:=ah (iD m al bf);rw[<-yB]at CL;have hg1:(cK m ⟨af,al,false⟩ ⟨bf,bl,true⟩).1=m2:=yB.symm;have hg2:(cK m ⟨af,al,false⟩ ⟨bf,bl,true⟩).2=⟨af,bl ||| al,false⟩:=rfl;rw[hg1,hg2];clear h ha hn yB hg1 hg2;generalize Po:az ⟨af,al,false⟩=pa;generalize zR:az ⟨bf,bl,true⟩=pb;have WT:=hid Po;have BR:=hid zR;clear Po zR;rw[<-WT.out, <-BR.out];unfold az;dsimp only;go_enter Tryz.func125,Tryz.ntmps125;go_wp2_with fail
 refine aK ?_;intro V hV;have A1:Hid (aq V w.heap.size (az ⟨af,al,false⟩) 142):=by rw[hV];exact hid (((aq.new _ _ _).alloc _).alloc _)
 have B1:Hid (aq V (w.heap.size+1) (az ⟨bf,bl,true⟩) 142):=by rw[hV];exact hid (((aq.new _ _ _).at (by simp)).alloc _)
 have R1:Hid (aq V (w.heap.size+1+1) #[.int .u64 0,.int .u64 0,.int .u64 0,.int .u64 0,.int .u64 0,.int .u64 0,.int .u64 0,.int .u64 0,.int .u64 0,.int .u64 0,.int .u64 0,.int .u64 0,.int .u64 0,.int .u64 0,.bool false] 142):=by rw[hV];exact hid ((aq.new _ _ _).at (by simp))
 have X1:Hid (ae (· <w.heap.size) w V):=by rw[hV];exact hid ((((Ext.refl _).alloc _).alloc _).alloc _).keeps
 clear hV;refine(CL V X1).mono ?_;rintro e w2 ⟨⟨u,rfl⟩,hm,hx⟩;have nV:∀ k,w.heap.size<=k->¬F k:=fun k hk e=>by have:=HF.out k e;omega
 have A2:=hid (A1.keeps hx ⟨A1.lt,nV _ (by omega)⟩);have B2:=hid (B1.keeps hx ⟨B1.lt,nV _ (by omega)⟩);have R2:=hid (R1.keeps hx ⟨R1.lt,nV _ (by omega)⟩);have X2:Hid (ae (fun x=>x<w.heap.size/\¬F x) w w2):=hid ((X1.mono fun x hx=>hx.1).tr (hx.mono fun x hx=>⟨by have:=A1.lt;have:=hx.1;omega,hx.2⟩));have hs2:w.heap.size+1+1<w2.heap.size:=R2.lt;have HM:=hid hm;have Je:=hid nV;clear hx hm A1 B1 R1 X1 CL nV;obtain⟨a0,a1,a2,a3,a4,a5,a6,a7,a8,a9,jQ,jR,a12,jS,jb⟩:=(A2.out).part;obtain⟨b0,b1,b2,b3,b4,b5,b6,b7,b8,b9,pJ,pK,pL,pM,nW⟩:=(B2.out).part;dsimp only at a0 a1 a2 a3 a4 a5 a6 a7 a8 a9 jQ jR a12 jS jb b0 b1 b2 b3 b4 b5 b6 b7 b8 b9 pJ pK pL pM nW;go_upto_region 3 with fail
 refine ax ?_;intro V2 hV2;have O2:Hid (aq V2 w2.heap.size (az ⟨af,bl,false⟩) 142):=by rw[hV2];exact hid (aq.new _ _ _)
 have E2:Ext w2 V2:=by rw[hV2];exact(Ext.refl _).alloc _
 have A3:=hid (A2.ext E2);have B3:=hid (B2.ext E2);have R3:=hid (R2.ext E2);have M3:=hid (HM.keeps E2.keeps fun x hx=>(HM.lt x hx).2);have X3:=hid (X2.tr (E2.mono fun x hx=>by have:=hx.1;omega));have hs3:w2.heap.size<V2.heap.size:=O2.lt;clear hV2 E2 A2 B2 R2 HM X2 a0 a1 a2 a3 a4 a5 a6 a7 a8 a9 jQ jR a12 jS jb b0 b1 b2 b3 b4 b5 b6 b7 b8 b9 pJ pK pL pM nW;obtain⟨a0,a1,a2,a3,a4,a5,a6,a7,a8,a9,jQ,jR,a12,jS,jb⟩:=A3.part;obtain⟨b0,b1,b2,b3,b4,b5,b6,b7,b8,b9,pJ,pK,pL,pM,nW⟩:=B3.part;obtain⟨o0,o1,o2,o3,o4,o5,o6,o7,o8,o9,pY,pZ,qf,qg,pN⟩:=O2.part;obtain⟨Pp,Pq,Pr,Pt,Pu,Pv,Pw,Px,Py,Pz,vW,vX,vY,vZ,wh⟩:=O2.ny;dsimp only at a0 a1 a2 a3 a4 a5 a6 a7 a8 a9 jQ jR a12 jS jb b0 b1 b2 b3 b4 b5 b6 b7 b8 b9 pJ pK pL pM nW o0 o1 o2 o3 o4 o5 o6 o7 o8 o9 pY pZ qf qg pN;go_wp2_with fail
 clear a0 a1 a2 a3 a4 a5 a6 a7 a8 a9 jQ jR a12 jS jb b0 b1 b2 b3 b4 b5 b6 b7 b8 b9 pJ pK pL pM nW o0 o1 o2 o3 o4 o5 o6 o7 o8 o9 pY pZ qf qg pN Pp Pq Pr Pt Pu Pv Pw Px Py Pz vW vX vY vZ wh;refine(jH (bW bl) (bW al) w2.heap.size 7 V2 (fW.cS O2) (fun i _=>O2.frozen _)).mono ?_;rintro e w3 ⟨⟨u,rfl⟩,hx⟩;have ks:ae (· ≠w2.heap.size) V2 (fL V2 w2.heap.size 7 (fun i=>bW bl i ||| bW al i) 7):=cN _ _ _ _ _;have O3:Hid (aq w3 w2.heap.size (az ⟨af,bl ||| al,false⟩) 142):=hid ((pI O2 (bl ||| al) (fun i _=>(vU bl al i).symm)).keeps hx hs3);have kk:ae (fun x=>x<V2.heap.size/\x≠w2.heap.size) V2 w3:=(ks.mono fun x hx=>hx.2).tr (hx.mono fun x hx=>hx.1);have A4:=hid (A3.keeps kk ⟨A3.lt,by omega⟩);have B4:=hid (B3.keeps kk ⟨B3.lt,by omega⟩);have R4:=hid (R3.keeps kk ⟨R3.lt,by omega⟩);have M4:=hid (M3.keeps kk fun x hx=>⟨(M3.lt x hx).2,by have:=HF.out x hx;omega⟩);have X4:=hid (X3.tr (kk.mono fun x hx=>⟨by have:=hx.1;omega,by have:=hx.1;omega⟩));have UJ:w2.heap.size<w3.heap.size:=O3.lt;clear hx ks kk;obtain⟨a0,a1,a2,a3,a4,a5,a6,a7,a8,a9,jQ,jR,a12,jS,jb⟩:=A4.part;obtain⟨b0,b1,b2,b3,b4,b5,b6,b7,b8,b9,pJ,pK,pL,pM,nW⟩:=B4.part;obtain⟨o0,o1,o2,o3,o4,o5,o6,o7,o8,o9,pY,pZ,qf,qg,pN⟩:=O3.part
 obtain⟨Pp,Pq,Pr,Pt,Pu,Pv,Pw,Px,Py,Pz,vW,vX,vY,vZ,wh⟩:=O3.ny;dsimp only at a0 a1 a2 a3 a4 a5 a6 a7 a8 a9 jQ jR a12 jS jb b0 b1 b2 b3 b4 b5 b6 b7 b8 b9 pJ pK pL pM nW o0 o1 o2 o3 o4 o5 o6 o7 o8 o9 pY pZ qf qg pN;go_wp2_with (first | (refine aJ rfl 142 (.tmp 7) rfl w2.heap.size rfl (az ⟨af,bl ||| al,false⟩) _ O3.range Tryz.underlying142 rfl (bD _) ?_) | (refine wpList_store_row rfl 142 (.tmp 6) (.tmp 37) rfl (w.heap.size+1+1) (az ⟨af,bl ||| al,false⟩) rfl rfl 142 #[.int .u64 0,.int .u64 0,.int .u64 0,.int .u64 0,.int .u64 0,.int .u64 0,.int .u64 0,.int .u64 0,.int .u64 0,.int .u64 0,.int .u64 0,.int .u64 0,.int .u64 0,.int .u64 0,.bool false] R4 (bD _) rfl (eF _) ?_;refine Hid.out ?_));refine hid ?_;obtain⟨V3,cD⟩:=ah (w3.setRow (w.heap.size+1+1) (az ⟨af,bl ||| al,false⟩));rw[<-cD];have R9:Hid (aq V3 (w.heap.size+1+1) (az ⟨af,bl ||| al,false⟩) 142):=by rw[cD];exact hid R4.setRow
 have K9:ae (· ≠w.heap.size+1+1) w3 V3:=by rw[cD];exact bn _ _ _
 have M9:=M4.keeps K9 fun x hx=>by have:=HF.out x hx;omega
 have X9:=X4.tr (K9.mono fun x hx=>by have:=hx.1;omega);clear cD;go_wp2;obtain⟨m0,m1,m2,m3,m4,m5,m6,m7,m8,m9,m10,m11,m12,m13,m14⟩:=R9.part;dsimp only at m0 m1 m2 m3 m4 m5 m6 m7 m8 m9 m10 m11 m12 m13 m14;refine bodyPost_ret (v:=.agg (az ⟨af,bl ||| al,false⟩)) (by simp[results,Tryz.results125,az,go_sem,m0,m1,m2,m3,m4,m5,m6,m7,m8,m9,m10,m11,m12,m13,m14]) rfl ⟨rfl,M9,X9⟩
theorem sr (base M:Nat) (F:Nat->Prop) (m:GM) (af al bf bl:PB) (w:World) (h:fO base M F w m) (ha:dC al m.cG.length) (hn:m.cG.length<=448): ag 125 #[.pointer (some ⟨M,0,none⟩),.agg (az ⟨af,al,true⟩),.agg (az ⟨bf,bl,false⟩)] w fun e w'=>e=.returned (.agg (az (cK m ⟨af,al,true⟩ ⟨bf,bl,false⟩).2))/\fO base M F w' (cK m ⟨af,al,true⟩ ⟨bf,bl,false⟩).1/\ae (fun x=>x<w.heap.size/\¬F x) w w':=by
 have CL:Hid (∀ W,ae (fun x=>x<w.heap.size) w W->ag 149 #[.pointer (some ⟨M,0,none⟩),.agg (cE (bW al)),.agg (cE (bW bf))] W fun e w'=>(∃ u,e=.returned u)/\fO base M F w' (iD m al bf)/\ae (fun x=>x<W.heap.size/\¬F x) W w'):=hid fun W hW=>kU base M F m al bf W (h.keeps hW fun x hx=>(h.lt x hx).2) ha hn
 have HF:Hid (∀ x,F x->x<w.heap.size):=hid fun x hx=>(h.lt x hx).2
 obtain⟨m2,yB⟩:=ah (iD m al bf);rw[<-yB]at CL;have hg1:(cK m ⟨af,al,true⟩ ⟨bf,bl,false⟩).1=m2:=yB.symm;have hg2:(cK m ⟨af,al,true⟩ ⟨bf,bl,false⟩).2=⟨af ||| bf,bl,false⟩:=rfl;rw[hg1,hg2];clear h ha hn yB hg1 hg2;generalize Po:az ⟨af,al,true⟩=pa;generalize zR:az ⟨bf,bl,false⟩=pb;have WT:=hid Po;have BR:=hid zR;clear Po zR;rw[<-WT.out, <-BR.out];unfold az;dsimp only;go_enter Tryz.func125,Tryz.ntmps125;go_wp2_with fail
 refine aK ?_;intro V hV;have A1:Hid (aq V w.heap.size (az ⟨af,al,true⟩) 142):=by rw[hV];exact hid (((aq.new _ _ _).alloc _).alloc _)
 have B1:Hid (aq V (w.heap.size+1) (az ⟨bf,bl,false⟩) 142):=by rw[hV];exact hid (((aq.new _ _ _).at (by simp)).alloc _)
 have R1:Hid (aq V (w.heap.size+1+1) #[.int .u64 0,.int .u64 0,.int .u64 0,.int .u64 0,.int .u64 0,.int .u64 0,.int .u64 0,.int .u64 0,.int .u64 0,.int .u64 0,.int .u64 0,.int .u64 0,.int .u64 0,.int .u64 0,.bool false] 142):=by rw[hV];exact hid ((aq.new _ _ _).at (by simp))
 have X1:Hid (ae (· <w.heap.size) w V):=by rw[hV];exact hid ((((Ext.refl _).alloc _).alloc _).alloc _).keeps
 clear hV;refine(CL V X1).mono ?_;rintro e w2 ⟨⟨u,rfl⟩,hm,hx⟩;have nV:∀ k,w.heap.size<=k->¬F k:=fun k hk e=>by have:=HF.out k e;omega
 have A2:=hid (A1.keeps hx ⟨A1.lt,nV _ (by omega)⟩);have B2:=hid (B1.keeps hx ⟨B1.lt,nV _ (by omega)⟩);have R2:=hid (R1.keeps hx ⟨R1.lt,nV _ (by omega)⟩);have X2:Hid (ae (fun x=>x<w.heap.size/\¬F x) w w2):=hid ((X1.mono fun x hx=>hx.1).tr (hx.mono fun x hx=>⟨by have:=A1.lt;have:=hx.1;omega,hx.2⟩));have hs2:w.heap.size+1+1<w2.heap.size:=R2.lt;have HM:=hid hm;have Je:=hid nV;clear hx hm A1 B1 R1 X1 CL nV;obtain⟨a0,a1,a2,a3,a4,a5,a6,a7,a8,a9,jQ,jR,a12,jS,jb⟩:=(A2.out).part;obtain⟨b0,b1,b2,b3,b4,b5,b6,b7,b8,b9,pJ,pK,pL,pM,nW⟩:=(B2.out).part;dsimp only at a0 a1 a2 a3 a4 a5 a6 a7 a8 a9 jQ jR a12 jS jb b0 b1 b2 b3 b4 b5 b6 b7 b8 b9 pJ pK pL pM nW;go_upto_region 3 with fail
 refine ax ?_;intro V2 hV2;have O2:Hid (aq V2 w2.heap.size (az ⟨af,bl,false⟩) 142):=by rw[hV2];exact hid (aq.new _ _ _)
 have E2:Ext w2 V2:=by rw[hV2];exact(Ext.refl _).alloc _
 have A3:=hid (A2.ext E2);have B3:=hid (B2.ext E2);have R3:=hid (R2.ext E2);have M3:=hid (HM.keeps E2.keeps fun x hx=>(HM.lt x hx).2);have X3:=hid (X2.tr (E2.mono fun x hx=>by have:=hx.1;omega));have hs3:w2.heap.size<V2.heap.size:=O2.lt;clear hV2 E2 A2 B2 R2 HM X2 a0 a1 a2 a3 a4 a5 a6 a7 a8 a9 jQ jR a12 jS jb b0 b1 b2 b3 b4 b5 b6 b7 b8 b9 pJ pK pL pM nW;obtain⟨a0,a1,a2,a3,a4,a5,a6,a7,a8,a9,jQ,jR,a12,jS,jb⟩:=A3.part;obtain⟨b0,b1,b2,b3,b4,b5,b6,b7,b8,b9,pJ,pK,pL,pM,nW⟩:=B3.part;obtain⟨o0,o1,o2,o3,o4,o5,o6,o7,o8,o9,pY,pZ,qf,qg,pN⟩:=O2.part;obtain⟨Pp,Pq,Pr,Pt,Pu,Pv,Pw,Px,Py,Pz,vW,vX,vY,vZ,wh⟩:=O2.ny;dsimp only at a0 a1 a2 a3 a4 a5 a6 a7 a8 a9 jQ jR a12 jS jb b0 b1 b2 b3 b4 b5 b6 b7 b8 b9 pJ pK pL pM nW o0 o1 o2 o3 o4 o5 o6 o7 o8 o9 pY pZ qf qg pN;go_wp2_with fail
 clear a0 a1 a2 a3 a4 a5 a6 a7 a8 a9 jQ jR a12 jS jb b0 b1 b2 b3 b4 b5 b6 b7 b8 b9 pJ pK pL pM nW o0 o1 o2 o3 o4 o5 o6 o7 o8 o9 pY pZ qf qg pN Pp Pq Pr Pt Pu Pv Pw Px Py Pz vW vX vY vZ wh;refine(jH (bW af) (bW bf) w2.heap.size 0 V2 (fW.fst O2) (fun i _=>O2.frozen _)).mono ?_;rintro e w3 ⟨⟨u,rfl⟩,hx⟩;have ks:ae (· ≠w2.heap.size) V2 (fL V2 w2.heap.size 0 (fun i=>bW af i ||| bW bf i) 7):=cN _ _ _ _ _;have O3:Hid (aq w3 w2.heap.size (az ⟨af ||| bf,bl,false⟩) 142):=hid ((pH O2 (af ||| bf) (fun i _=>(vU af bf i).symm)).keeps hx hs3);have kk:ae (fun x=>x<V2.heap.size/\x≠w2.heap.size) V2 w3:=(ks.mono fun x hx=>hx.2).tr (hx.mono fun x hx=>hx.1);have A4:=hid (A3.keeps kk ⟨A3.lt,by omega⟩);have B4:=hid (B3.keeps kk ⟨B3.lt,by omega⟩);have R4:=hid (R3.keeps kk ⟨R3.lt,by omega⟩);have M4:=hid (M3.keeps kk fun x hx=>⟨(M3.lt x hx).2,by have:=HF.out x hx;omega⟩);have X4:=hid (X3.tr (kk.mono fun x hx=>⟨by have:=hx.1;omega,by have:=hx.1;omega⟩));have UJ:w2.heap.size<w3.heap.size:=O3.lt;clear hx ks kk;obtain⟨a0,a1,a2,a3,a4,a5,a6,a7,a8,a9,jQ,jR,a12,jS,jb⟩:=A4.part;obtain⟨b0,b1,b2,b3,b4,b5,b6,b7,b8,b9,pJ,pK,pL,pM,nW⟩:=B4.part;obtain⟨o0,o1,o2,o3,o4,o5,o6,o7,o8,o9,pY,pZ,qf,qg,pN⟩:=O3.part
 obtain⟨Pp,Pq,Pr,Pt,Pu,Pv,Pw,Px,Py,Pz,vW,vX,vY,vZ,wh⟩:=O3.ny;dsimp only at a0 a1 a2 a3 a4 a5 a6 a7 a8 a9 jQ jR a12 jS jb b0 b1 b2 b3 b4 b5 b6 b7 b8 b9 pJ pK pL pM nW o0 o1 o2 o3 o4 o5 o6 o7 o8 o9 pY pZ qf qg pN;go_wp2_with (first | (refine aJ rfl 142 (.tmp 7) rfl w2.heap.size rfl (az ⟨af ||| bf,bl,false⟩) _ O3.range Tryz.underlying142 rfl (bD _) ?_) | (refine wpList_store_row rfl 142 (.tmp 6) (.tmp 37) rfl (w.heap.size+1+1) (az ⟨af ||| bf,bl,false⟩) rfl rfl 142 #[.int .u64 0,.int .u64 0,.int .u64 0,.int .u64 0,.int .u64 0,.int .u64 0,.int .u64 0,.int .u64 0,.int .u64 0,.int .u64 0,.int .u64 0,.int .u64 0,.int .u64 0,.int .u64 0,.bool false] R4 (bD _) rfl (eF _) ?_;refine Hid.out ?_));refine hid ?_;obtain⟨V3,cD⟩:=ah (w3.setRow (w.heap.size+1+1) (az ⟨af ||| bf,bl,false⟩));rw[<-cD];have R9:Hid (aq V3 (w.heap.size+1+1) (az ⟨af ||| bf,bl,false⟩) 142):=by rw[cD];exact hid R4.setRow
 have K9:ae (· ≠w.heap.size+1+1) w3 V3:=by rw[cD];exact bn _ _ _
 have M9:=M4.keeps K9 fun x hx=>by have:=HF.out x hx;omega
 have X9:=X4.tr (K9.mono fun x hx=>by have:=hx.1;omega);clear cD;go_wp2;obtain⟨m0,m1,m2,m3,m4,m5,m6,m7,m8,m9,m10,m11,m12,m13,m14⟩:=R9.part;dsimp only at m0 m1 m2 m3 m4 m5 m6 m7 m8 m9 m10 m11 m12 m13 m14;refine bodyPost_ret (v:=.agg (az ⟨af ||| bf,bl,false⟩)) (by simp[results,Tryz.results125,az,go_sem,m0,m1,m2,m3,m4,m5,m6,m7,m8,m9,m10,m11,m12,m13,m14]) rfl ⟨rfl,M9,X9⟩
theorem tZ (base M:Nat) (F:Nat->Prop) (m:GM) (af al bf bl:PB) (w:World) (h:fO base M F w m) (ha:dC al m.cG.length) (hn:m.cG.length<=448): ag 125 #[.pointer (some ⟨M,0,none⟩),.agg (az ⟨af,al,true⟩),.agg (az ⟨bf,bl,true⟩)] w fun e w'=>e=.returned (.agg (az (cK m ⟨af,al,true⟩ ⟨bf,bl,true⟩).2))/\fO base M F w' (cK m ⟨af,al,true⟩ ⟨bf,bl,true⟩).1/\ae (fun x=>x<w.heap.size/\¬F x) w w':=by
 have CL:Hid (∀ W,ae (fun x=>x<w.heap.size) w W->ag 149 #[.pointer (some ⟨M,0,none⟩),.agg (cE (bW al)),.agg (cE (bW bf))] W fun e w'=>(∃ u,e=.returned u)/\fO base M F w' (iD m al bf)/\ae (fun x=>x<W.heap.size/\¬F x) W w'):=hid fun W hW=>kU base M F m al bf W (h.keeps hW fun x hx=>(h.lt x hx).2) ha hn
 have HF:Hid (∀ x,F x->x<w.heap.size):=hid fun x hx=>(h.lt x hx).2
 obtain⟨m2,yB⟩:=ah (iD m al bf);rw[<-yB]at CL;have hg1:(cK m ⟨af,al,true⟩ ⟨bf,bl,true⟩).1=m2:=yB.symm;have hg2:(cK m ⟨af,al,true⟩ ⟨bf,bl,true⟩).2=⟨af ||| bf,bl ||| al,true⟩:=rfl;rw[hg1,hg2];clear h ha hn yB hg1 hg2;generalize Po:az ⟨af,al,true⟩=pa;generalize zR:az ⟨bf,bl,true⟩=pb;have WT:=hid Po;have BR:=hid zR;clear Po zR;rw[<-WT.out, <-BR.out];unfold az;dsimp only;go_enter Tryz.func125,Tryz.ntmps125;go_wp2_with fail
 refine aK ?_;intro V hV;have A1:Hid (aq V w.heap.size (az ⟨af,al,true⟩) 142):=by rw[hV];exact hid (((aq.new _ _ _).alloc _).alloc _)
 have B1:Hid (aq V (w.heap.size+1) (az ⟨bf,bl,true⟩) 142):=by rw[hV];exact hid (((aq.new _ _ _).at (by simp)).alloc _)
 have R1:Hid (aq V (w.heap.size+1+1) #[.int .u64 0,.int .u64 0,.int .u64 0,.int .u64 0,.int .u64 0,.int .u64 0,.int .u64 0,.int .u64 0,.int .u64 0,.int .u64 0,.int .u64 0,.int .u64 0,.int .u64 0,.int .u64 0,.bool false] 142):=by rw[hV];exact hid ((aq.new _ _ _).at (by simp))
 have X1:Hid (ae (· <w.heap.size) w V):=by rw[hV];exact hid ((((Ext.refl _).alloc _).alloc _).alloc _).keeps
 clear hV;refine(CL V X1).mono ?_;rintro e w2 ⟨⟨u,rfl⟩,hm,hx⟩;have nV:∀ k,w.heap.size<=k->¬F k:=fun k hk e=>by have:=HF.out k e;omega
 have A2:=hid (A1.keeps hx ⟨A1.lt,nV _ (by omega)⟩);have B2:=hid (B1.keeps hx ⟨B1.lt,nV _ (by omega)⟩);have R2:=hid (R1.keeps hx ⟨R1.lt,nV _ (by omega)⟩);have X2:Hid (ae (fun x=>x<w.heap.size/\¬F x) w w2):=hid ((X1.mono fun x hx=>hx.1).tr (hx.mono fun x hx=>⟨by have:=A1.lt;have:=hx.1;omega,hx.2⟩));have hs2:w.heap.size+1+1<w2.heap.size:=R2.lt;have HM:=hid hm;have Je:=hid nV;clear hx hm A1 B1 R1 X1 CL nV;obtain⟨a0,a1,a2,a3,a4,a5,a6,a7,a8,a9,jQ,jR,a12,jS,jb⟩:=(A2.out).part;obtain⟨b0,b1,b2,b3,b4,b5,b6,b7,b8,b9,pJ,pK,pL,pM,nW⟩:=(B2.out).part;dsimp only at a0 a1 a2 a3 a4 a5 a6 a7 a8 a9 jQ jR a12 jS jb b0 b1 b2 b3 b4 b5 b6 b7 b8 b9 pJ pK pL pM nW;go_upto_region 3 with fail
 refine ax ?_;intro V2 hV2;have O2:Hid (aq V2 w2.heap.size (az ⟨af,bl,true⟩) 142):=by rw[hV2];exact hid (aq.new _ _ _)
 have E2:Ext w2 V2:=by rw[hV2];exact(Ext.refl _).alloc _
 have A3:=hid (A2.ext E2);have B3:=hid (B2.ext E2);have R3:=hid (R2.ext E2);have M3:=hid (HM.keeps E2.keeps fun x hx=>(HM.lt x hx).2);have X3:=hid (X2.tr (E2.mono fun x hx=>by have:=hx.1;omega));have hs3:w2.heap.size<V2.heap.size:=O2.lt;clear hV2 E2 A2 B2 R2 HM X2 a0 a1 a2 a3 a4 a5 a6 a7 a8 a9 jQ jR a12 jS jb b0 b1 b2 b3 b4 b5 b6 b7 b8 b9 pJ pK pL pM nW;obtain⟨a0,a1,a2,a3,a4,a5,a6,a7,a8,a9,jQ,jR,a12,jS,jb⟩:=A3.part;obtain⟨b0,b1,b2,b3,b4,b5,b6,b7,b8,b9,pJ,pK,pL,pM,nW⟩:=B3.part;obtain⟨o0,o1,o2,o3,o4,o5,o6,o7,o8,o9,pY,pZ,qf,qg,pN⟩:=O2.part;obtain⟨Pp,Pq,Pr,Pt,Pu,Pv,Pw,Px,Py,Pz,vW,vX,vY,vZ,wh⟩:=O2.ny;dsimp only at a0 a1 a2 a3 a4 a5 a6 a7 a8 a9 jQ jR a12 jS jb b0 b1 b2 b3 b4 b5 b6 b7 b8 b9 pJ pK pL pM nW o0 o1 o2 o3 o4 o5 o6 o7 o8 o9 pY pZ qf qg pN;go_wp2_with fail
 clear a0 a1 a2 a3 a4 a5 a6 a7 a8 a9 jQ jR a12 jS jb b0 b1 b2 b3 b4 b5 b6 b7 b8 b9 pJ pK pL pM nW o0 o1 o2 o3 o4 o5 o6 o7 o8 o9 pY pZ qf qg pN Pp Pq Pr Pt Pu Pv Pw Px Py Pz vW vX vY vZ wh;refine(jH (bW af) (bW bf) w2.heap.size 0 V2 (fW.fst O2) (fun i _=>O2.frozen _)).mono ?_;rintro e w3 ⟨⟨u,rfl⟩,hx⟩;have ks:ae (· ≠w2.heap.size) V2 (fL V2 w2.heap.size 0 (fun i=>bW af i ||| bW bf i) 7):=cN _ _ _ _ _;have O3:Hid (aq w3 w2.heap.size (az ⟨af ||| bf,bl,true⟩) 142):=hid ((pH O2 (af ||| bf) (fun i _=>(vU af bf i).symm)).keeps hx hs3);have kk:ae (fun x=>x<V2.heap.size/\x≠w2.heap.size) V2 w3:=(ks.mono fun x hx=>hx.2).tr (hx.mono fun x hx=>hx.1);have A4:=hid (A3.keeps kk ⟨A3.lt,by omega⟩);have B4:=hid (B3.keeps kk ⟨B3.lt,by omega⟩);have R4:=hid (R3.keeps kk ⟨R3.lt,by omega⟩);have M4:=hid (M3.keeps kk fun x hx=>⟨(M3.lt x hx).2,by have:=HF.out x hx;omega⟩);have X4:=hid (X3.tr (kk.mono fun x hx=>⟨by have:=hx.1;omega,by have:=hx.1;omega⟩));have UJ:w2.heap.size<w3.heap.size:=O3.lt;clear hx ks kk;obtain⟨a0,a1,a2,a3,a4,a5,a6,a7,a8,a9,jQ,jR,a12,jS,jb⟩:=A4.part;obtain⟨b0,b1,b2,b3,b4,b5,b6,b7,b8,b9,pJ,pK,pL,pM,nW⟩:=B4.part;obtain⟨o0,o1,o2,o3,o4,o5,o6,o7,o8,o9,pY,pZ,qf,qg,pN⟩:=O3.part;obtain⟨Pp,Pq,Pr,Pt,Pu,Pv,Pw,Px,Py,Pz,vW,vX,vY,vZ,wh⟩:=O3.ny;dsimp only at a0 a1 a2 a3 a4 a5 a6 a7 a8 a9 jQ jR a12 jS jb b0 b1 b2 b3 b4 b5 b6 b7 b8 b9 pJ pK pL pM nW o0 o1 o2 o3 o4 o5 o6 o7 o8 o9 pY pZ qf qg pN;go_wp2_with fail
 clear a0 a1 a2 a3 a4 a5 a6 a7 a8 a9 jQ jR a12 jS jb b0 b1 b2 b3 b4 b5 b6 b7 b8 b9 pJ pK pL pM nW o0 o1 o2 o3 o4 o5 o6 o7 o8 o9 pY pZ qf qg pN Pp Pq Pr Pt Pu Pv Pw Px Py Pz vW vX vY vZ wh;refine(jH (bW bl) (bW al) w2.heap.size 7 w3 (fW.cS O3) (fun i _=>O3.frozen _)).mono ?_;rintro e w4 ⟨⟨u,rfl⟩,hx⟩;have ks:ae (· ≠w2.heap.size) w3 (fL w3 w2.heap.size 7 (fun i=>bW bl i ||| bW al i) 7):=cN _ _ _ _ _;have O4:Hid (aq w4 w2.heap.size (az ⟨af ||| bf,bl ||| al,true⟩) 142):=hid ((pI O3 (bl ||| al) (fun i _=>(vU bl al i).symm)).keeps hx UJ);have kk:ae (fun x=>x<w3.heap.size/\x≠w2.heap.size) w3 w4:=(ks.mono fun x hx=>hx.2).tr (hx.mono fun x hx=>hx.1);have A5:=hid (A4.keeps kk ⟨A4.lt,by omega⟩);have B5:=hid (B4.keeps kk ⟨B4.lt,by omega⟩);have R5:=hid (R4.keeps kk ⟨R4.lt,by omega⟩);have M5:=hid (M4.keeps kk fun x hx=>⟨(M4.lt x hx).2,by have:=HF.out x hx;omega⟩);have X5:=hid (X4.tr (kk.mono fun x hx=>⟨by have:=hx.1;omega,by have:=hx.1;omega⟩));have hs5:w2.heap.size<w4.heap.size:=O4.lt;clear hx ks kk;obtain⟨a0,a1,a2,a3,a4,a5,a6,a7,a8,a9,jQ,jR,a12,jS,jb⟩:=A5.part;obtain⟨b0,b1,b2,b3,b4,b5,b6,b7,b8,b9,pJ,pK,pL,pM,nW⟩:=B5.part;obtain⟨o0,o1,o2,o3,o4,o5,o6,o7,o8,o9,pY,pZ,qf,qg,pN⟩:=O4.part
 obtain⟨Pp,Pq,Pr,Pt,Pu,Pv,Pw,Px,Py,Pz,vW,vX,vY,vZ,wh⟩:=O4.ny;dsimp only at a0 a1 a2 a3 a4 a5 a6 a7 a8 a9 jQ jR a12 jS jb b0 b1 b2 b3 b4 b5 b6 b7 b8 b9 pJ pK pL pM nW o0 o1 o2 o3 o4 o5 o6 o7 o8 o9 pY pZ qf qg pN;go_wp2_with (first | (refine aJ rfl 142 (.tmp 7) rfl w2.heap.size rfl (az ⟨af ||| bf,bl ||| al,true⟩) _ O4.range Tryz.underlying142 rfl (bD _) ?_) | (refine wpList_store_row rfl 142 (.tmp 6) (.tmp 37) rfl (w.heap.size+1+1) (az ⟨af ||| bf,bl ||| al,true⟩) rfl rfl 142 #[.int .u64 0,.int .u64 0,.int .u64 0,.int .u64 0,.int .u64 0,.int .u64 0,.int .u64 0,.int .u64 0,.int .u64 0,.int .u64 0,.int .u64 0,.int .u64 0,.int .u64 0,.int .u64 0,.bool false] R5 (bD _) rfl (eF _) ?_;refine Hid.out ?_));refine hid ?_;obtain⟨V3,cD⟩:=ah (w4.setRow (w.heap.size+1+1) (az ⟨af ||| bf,bl ||| al,true⟩));rw[<-cD];have R9:Hid (aq V3 (w.heap.size+1+1) (az ⟨af ||| bf,bl ||| al,true⟩) 142):=by rw[cD];exact hid R5.setRow
 have K9:ae (· ≠w.heap.size+1+1) w4 V3:=by rw[cD];exact bn _ _ _
 have M9:=M5.keeps K9 fun x hx=>by have:=HF.out x hx;omega
 have X9:=X5.tr (K9.mono fun x hx=>by have:=hx.1;omega);clear cD;go_wp2;obtain⟨m0,m1,m2,m3,m4,m5,m6,m7,m8,m9,m10,m11,m12,m13,m14⟩:=R9.part;dsimp only at m0 m1 m2 m3 m4 m5 m6 m7 m8 m9 m10 m11 m12 m13 m14;refine bodyPost_ret (v:=.agg (az ⟨af ||| bf,bl ||| al,true⟩)) (by simp[results,Tryz.results125,az,go_sem,m0,m1,m2,m3,m4,m5,m6,m7,m8,m9,m10,m11,m12,m13,m14]) rfl ⟨rfl,M9,X9⟩
theorem nX (base M:Nat) (F:Nat->Prop) (m:GM) (a b:GP) (w:World) (h:fO base M F w m) (ha:dC a.cS m.cG.length) (hn:m.cG.length<=448): ag 125 #[.pointer (some ⟨M,0,none⟩),.agg (az a),.agg (az b)] w fun e w'=>e=.returned (.agg (az (cK m a b).2))/\fO base M F w' (cK m a b).1/\ae (fun x=>x<w.heap.size/\¬F x) w w':=by
 obtain⟨af,al,ea⟩:=a;obtain⟨bf,bl,eb⟩:=b;cases ea<;>cases eb
 ·exact qQ base M F m af al bf bl w h ha hn
 ·exact sj base M F m af al bf bl w h ha hn
 ·exact sr base M F m af al bf bl w h ha hn
 ·exact tZ base M F m af al bf bl w h ha hn
theorem Jg (i:Nat):bW (0:PB) i=0:=by apply BitVec.eq_of_getLsbD_eq;intro j hj;unfold bW;simp
def zeroV (e:Bool):Array Value:= #[.int .u64 0,.int .u64 0,.int .u64 0,.int .u64 0,.int .u64 0,.int .u64 0,.int .u64 0,.int .u64 0,.int .u64 0,.int .u64 0,.int .u64 0,.int .u64 0,.int .u64 0,.int .u64 0,.bool e]
theorem ir (e:Bool):az ⟨0,0,e⟩=zeroV e:=by unfold az zeroV;simp only[Jg];rfl
theorem aq.zero {w:World} {b:Nat} {e:Bool} {t:TypeId} (h:aq w b (zeroV e) t):w.cell? ⟨b,0,none⟩=some (.int .u64 0)/\w.cell? ⟨b,1,none⟩=some (.int .u64 0)/\w.cell? ⟨b,2,none⟩=some (.int .u64 0)/\w.cell? ⟨b,3,none⟩=some (.int .u64 0)/\w.cell? ⟨b,4,none⟩=some (.int .u64 0)/\w.cell? ⟨b,5,none⟩=some (.int .u64 0)/\w.cell? ⟨b,6,none⟩=some (.int .u64 0)/\w.cell? ⟨b,7,none⟩=some (.int .u64 0)/\w.cell? ⟨b,8,none⟩=some (.int .u64 0)/\w.cell? ⟨b,9,none⟩=some (.int .u64 0)/\w.cell? ⟨b,10,none⟩=some (.int .u64 0)/\w.cell? ⟨b,11,none⟩=some (.int .u64 0)/\w.cell? ⟨b,12,none⟩=some (.int .u64 0)/\w.cell? ⟨b,13,none⟩=some (.int .u64 0)/\w.cell? ⟨b,14,none⟩=some (.bool e):=
 ⟨h.cell 0,h.cell 1,h.cell 2,h.cell 3,h.cell 4,h.cell 5,h.cell 6,h.cell 7,h.cell 8,h.cell 9,h.cell 10,h.cell 11,h.cell 12,h.cell 13,h.cell 14⟩
theorem GX (k:Nat) (s:BS) (mn mx:Int) (a:Value) (w:World):ag 121 #[.agg (aj k s mn mx a)] w fun e w'=>e=.returned (.agg (zeroV true))/\ae (fun x=>x<w.heap.size) w w':=by
 unfold aj;go_enter Tryz.func121,Tryz.ntmps121;go_wp2;refine aT ?_;intro V hV;have R1:Hid (aq V (w.heap.size+1) (zeroV true) 142):=by
  rw[hV];exact hid (aq.at (aq.new _ _ _) (by simp))
 have X1:ae (fun x=>x<w.heap.size) w V:=by rw[hV];exact(((Ext.refl w).alloc _).alloc _).keeps
 clear hV;obtain⟨m0,m1,m2,m3,m4,m5,m6,m7,m8,m9,m10,m11,m12,m13,m14⟩:=R1.zero;refine bodyPost_ret (v:=.agg (zeroV true)) (by simp[results,Tryz.results121,zeroV,go_sem,m0,m1,m2,m3,m4,m5,m6,m7,m8,m9,m10,m11,m12,m13,m14]) rfl ⟨rfl,X1⟩
theorem Tryz.WU:(Tryz.prog.info? 71).map (fun i=>(i.zero,i.size,i.bytes))=some (some (.slice none 0 0),1,24):=by kernel_rfl
def gV (F:Nat->Prop) (w:World) (base:Nat) (e:TypeId) (v:Value) (n:Nat) (xs:List Value):Prop:=w.ownsRow base e 1 v n xs/\∀ x,v.ownBlock=some x->F x
theorem gV.keeps {F:Nat->Prop} {w w':World} {base n:Nat} {e:TypeId} {v:Value} {xs:List Value} (h:gV F w base e v n xs) {R:Nat->Prop} (hk:ae R w w') (hr:∀ x,x<w.heap.size->F x->R x):gV F w' base e v n xs:=
 ⟨au h.1 hk fun x e=>hr x (h.1.lt x e).2 (h.2 x e),h.2⟩
theorem gV.nil (F:Nat->Prop) (w:World) (base:Nat) (e:TypeId):gV F w base e (.slice none 0 0) 0 []:=⟨World.ownsRow_nil _ _ _ _,fun x e=>by cases e⟩
theorem gV.mono {F F':Nat->Prop} {w:World} {base n:Nat} {e:TypeId} {v:Value} {xs:List Value} (h:gV F w base e v n xs) (hf:∀ x,x<w.heap.size->F x->F' x):gV F' w base e v n xs:=⟨h.1,fun x e=>hf x (h.1.lt x e).2 (h.2 x e)⟩
def PA (F:Nat->Prop) (w:World) (base:Nat) (us:List Value) (ll:List (List Int)):Prop:=∀ (i:Nat) (u:Value) (l:List Int),us[i]? =some u->ll[i]? =some l->gV F w base 3 u l.length (l.map aV)
def Lj (F:Nat->Prop) (w:World) (base:Nat) (v:Value) (ll:List (List Int)):Prop:=∃ us,gV F w base 51 v ll.length us/\PA F w base us ll
theorem Lj.own {F:Nat->Prop} {w:World} {base:Nat} {v:Value} {ll:List (List Int)} (h:Lj F w base v ll):bI base w v ll:=by
 obtain⟨us,h1,h2⟩:=h;have hl:us.length=ll.length:=by have:=h1.1.1;omega
 exact⟨us,hl,by rw[hl];exact h1.1,fun i u l hu hl=>(h2 i u l hu hl).1⟩
theorem Lj.of {F:Nat->Prop} {w:World} {base:Nat} {v:Value} {ll:List (List Int)} (h:bI base w v ll) (hf:∀ x,base<=x->F x):Lj F w base v ll:=by obtain⟨us,h1,h2,h3⟩:=h;rw[h1]at h2;exact⟨us,⟨h2,fun x e=>hf x (h2.lt x e).1⟩,fun i u l hu hl=>⟨h3 i u l hu hl,fun x e=>hf x ((h3 i u l hu hl).lt x e).1⟩⟩
theorem gV.base {F:Nat->Prop} {w:World} {base base' n:Nat} {e:TypeId} {v:Value} {xs:List Value} (h:gV F w base e v n xs) (hb:base'<=base):gV F w base' e v n xs:=⟨aG h.1 hb,h.2⟩
theorem Lj.base {F:Nat->Prop} {w:World} {base base':Nat} {v:Value} {ll:List (List Int)} (h:Lj F w base v ll) (hb:base'<=base):Lj F w base' v ll:=by obtain⟨us,h1,h2⟩:=h;exact⟨us,h1.base hb,fun i u l hu hl=>(h2 i u l hu hl).base hb⟩
structure Mk (F:Nat->Prop) (w:World) (base mb ob f:Nat) (pv cv:Value) (ps:List PT) (rows:List (List (List Int))) (nx:List (List Int)) (sv nv kv:Value) (us ns ks:List Value):Prop where
 blk:aq w mb #[pv,.int .i64 f,sv,.map (some ob),cv,nv,kv] 152
 map:kS w ob rows
 fm:F mb
 fo:F ob
 bm:base<=mb
 bo:base<=ob
 st:gV F w base 71 sv rows.length us
 Rq:∀ (i:Nat) (u:Value) (r:List (List Int)),us[i]? =some u->rows[i]? =some r->Lj F w base u r/\oJ u nv/\oJ u kv
 ud:gV F w base 51 nv nx.length ns
 MI:PA F w base ns nx
 tE:gV F w base 51 kv rows.length ks
 MJ:PA F w base ks (rows.map (dG ps))
 far:oJ nv kv
theorem Mk.keeps {F:Nat->Prop} {w w':World} {base mb ob f:Nat} {pv cv:Value} {ps:List PT} {rows:List (List (List Int))} {nx:List (List Int)} {sv nv kv:Value} {us ns ks:List Value} (h:Mk F w base mb ob f pv cv ps rows nx sv nv kv us ns ks) {R:Nat->Prop} (hk:ae R w w') (hr:∀ x,x<w.heap.size->F x->R x):Mk F w' base mb ob f pv cv ps rows nx sv nv kv us ns ks where
 blk:=h.blk.keeps hk (hr _ h.blk.lt h.fm)
 map:=h.map.keeps hk (hr _ h.map.lt h.fo)
 fm:=h.fm
 fo:=h.fo
 bm:=h.bm
 bo:=h.bo
 st:=h.st.keeps hk hr
 Rq:=fun i u r hu hl=>by
  obtain⟨⟨vs,h1,h2⟩,h3⟩:=h.Rq i u r hu hl;exact⟨⟨vs,h1.keeps hk hr,fun i u l hu hl=>(h2 i u l hu hl).keeps hk hr⟩,h3⟩
 ud:=h.ud.keeps hk hr
 MI:=fun i u l hu hl=>(h.MI i u l hu hl).keeps hk hr
 tE:=h.tE.keeps hk hr
 MJ:=fun i u l hu hl=>(h.MJ i u l hu hl).keeps hk hr
 far:=h.far
theorem Mk.mono {F F':Nat->Prop} {w:World} {base mb ob f:Nat} {pv cv:Value} {ps:List PT} {rows:List (List (List Int))} {nx:List (List Int)} {sv nv kv:Value} {us ns ks:List Value} (h:Mk F w base mb ob f pv cv ps rows nx sv nv kv us ns ks) (hf:∀ x,x<w.heap.size->F x->F' x):Mk F' w base mb ob f pv cv ps rows nx sv nv kv us ns ks where
 blk:=h.blk
 map:=h.map
 fm:=hf _ h.blk.lt h.fm
 fo:=hf _ h.map.lt h.fo
 bm:=h.bm
 bo:=h.bo
 st:=h.st.mono hf
 Rq:=fun i u r hu hl=>by
  obtain⟨⟨vs,h1,h2⟩,h3⟩:=h.Rq i u r hu hl;exact⟨⟨vs,h1.mono hf,fun i u l hu hl=>(h2 i u l hu hl).mono hf⟩,h3⟩
 ud:=h.ud.mono hf
 MI:=fun i u l hu hl=>(h.MI i u l hu hl).mono hf
 tE:=h.tE.mono hf
 MJ:=fun i u l hu hl=>(h.MJ i u l hu hl).mono hf
 far:=h.far
theorem Mk.below {F:Nat->Prop} {w w':World} {base mb ob f:Nat} {pv cv:Value} {ps:List PT} {rows:List (List (List Int))} {nx:List (List Int)} {sv nv kv:Value} {us ns ks:List Value} (h:Mk F w base mb ob f pv cv ps rows nx sv nv kv us ns ks) (hk:aa w w'):Mk F w' base mb ob f pv cv ps rows nx sv nv kv us ns ks:=h.keeps (ae.ai hk fun _ h=>h:ae (· <w.heap.size) w w') fun _ h _=>h
def UO (F:Nat->Prop) (w:World) (base mb ob f:Nat) (pv cv:Value) (ps:List PT) (rows:List (List (List Int))) (nx:List (List Int)):Prop:=∃ sv nv kv us ns ks,Mk F w base mb ob f pv cv ps rows nx sv nv kv us ns ks
theorem su {w:World} {base size n:Nat} {e:TypeId} {v:Value} {xs:List Value} (h:w.ownsRow base e size v n xs) {b:Nat} {o:Obj} (hb:w.heap[b]? =some o) (ho:∀ c fz,o≠ .cells c e fz):∀ x,v.ownBlock=some x->x≠b:=fun x hx e2=>by
 subst e2;rcases h.2 with⟨rfl,_⟩ | ⟨g,c,cur,rfl,_,hg,_⟩
 ·cases hx
 ·have:g=x:=by simpa[Value.ownBlock]using hx
  subst this;rw[hb]at hg;exact ho _ _ (Option.some.inj hg)
theorem AH (base:Nat) (v:Value) (n:Nat) (l:List Int) (w:World) (ho:w.ownsRow base 3 1 v n (l.map aV)) (hn:n<=1000000): ag 136 #[v] w fun e w'=>∃ u,e=.returned u/\w'.ownsRow base 3 1 u (Lib.compact l).length ((Lib.compact l).map aV)/\ae (fun x=>x<w.heap.size/\v.ownBlock≠some x) w w'/\ ((v=.slice none 0 0/\u=.slice none 0 0)\/∃ g cap,v=.slice (some ⟨g,0,none⟩) n cap/\u=.slice (some ⟨g,0,none⟩) (Lib.compact l).length cap):=by
 have hl:l.length=n:=by have:=ho.1;simpa using this
 rcases ho.2 with⟨rfl,rfl⟩ | ⟨g,cap,cur,rfl,hbg,hg,hnc,hcm,_⟩
 ·have hl0:l=[]:=List.eq_nil_of_length_eq_zero hl
  subst hl0;exact(Any.slices_Compact_int_empty Tryz.Dz none 0 w).mono fun e w' ⟨he,hw⟩=>⟨_,he,by rw[hw];exact ho,by rw[hw];exact ae.refl _ _,.inl ⟨rfl,rfl⟩⟩
 ·have hc:∀ j,j<l.length->w.cell? ⟨g,0+j,none⟩=some (.int .i64 (l.getD j 0)):=fun j hj=>by
   rw[Nat.zero_add,ho.cellAt j (by omega),bH,aC hj];simp[aV,hj]
  have:=Any.slices_Compact_int_cells Tryz.Dz g 0 n cap l w (by omega) (by omega) hnc hc (fun j _=>ho.frozenAt _);rw[List.take_of_length_le (by omega)]at this;refine this.mono fun e w' ⟨he,q,hw⟩=>⟨_,he,?_⟩
  have hle:=Lib.compact_length_le l;have hd:(w.drewN q).ownsRow base 3 1 (.slice (some ⟨g,0,none⟩) n cap) n (l.map aV):=ho;obtain⟨a1,a2⟩:=oN hd (ys:=(Lib.compact l++List.replicate (n-(Lib.compact l).length) 0).map (Value.int .i64)) (by rw[bp,aQ,List.length_replicate];omega);have WE:ae (· ≠g) w (w.drewN q):=⟨rfl,rfl,rfl,aD _,fun _ _=>rfl⟩;rw[hw];refine⟨?_,(WE.tr a2).mono fun x hx e=>hx.2 (by rw[e];rfl),.inr ⟨g,cap,rfl,rfl⟩⟩;have:=DA a1 (m:=(Lib.compact l).length) (by omega);have e:List.take (Lib.compact l).length ((Lib.compact l++List.replicate (n-(Lib.compact l).length) 0).map (Value.int .i64))=(Lib.compact l).map aV:=by rw[List.map_append,List.take_left' (by rw[bp])];rfl
  rw[e]at this;exact this
structure xp (n9 base n cn:Nat) (kv cu:Value) (ks cx:List Value) (A B:World):Prop where
 keep:ae (fun x=>x<n9/\x<A.heap.size/\kv.ownBlock≠some x) A B
 old:A.ownsRow base 51 1 kv n ks->B.ownsRow base 51 1 kv n ks
 WV:A.ownsRow n9 3 1 cu cn cx->B.ownsRow n9 3 1 cu cn cx
 box:∀ b,n9<=b->aq A b #[cu] 51->aq B b #[cu] 51
 new:∀ v,A.ownsRow base 51 1 v (n+1) (ks++ [cu])->B.ownsRow base 51 1 v (n+1) (ks++ [cu])
section
variable {n9 base n cn:Nat} {kv cu:Value} {ks cx:List Value} {A B C:World}
theorem xp.trans (h:xp n9 base n cn kv cu ks cx A B) (k:xp n9 base n cn kv cu ks cx B C):xp n9 base n cn kv cu ks cx A C:=
 ⟨h.keep.trans k.keep fun _ hx=>⟨hx.1,aw hx.2.1 h.keep.size,hx.2.2⟩,fun a=>k.old (h.old a),fun a=>k.WV (h.WV a),fun b hb a=>k.box b hb (h.box b hb a),fun v a=>k.new v (h.new v a)⟩
theorem xp.below (h:aa A B):xp n9 base n cn kv cu ks cx A B:=
 ⟨ae.ai h fun _ hx=>hx.2.1,fun a=>ay a h,fun a=>ay a h,fun _ _ a=>a.below h a.lt,fun _ a=>ay a h⟩
theorem xp.drew:xp n9 base n cn kv cu ks cx A A.drew:=.below (Ext.refl A).drew.below
theorem xp.size (h:xp n9 base n cn kv cu ks cx A B):A.heap.size<=B.heap.size:=h.keep.size
theorem xp.compact {am:Nat} {mv:Value} {l:List Int} (ho:A.ownsRow n9 3 1 mv am (l.map aV)) (hb:ae (fun x=>x<A.heap.size/\mv.ownBlock≠some x) A B) (hc:B.ownsRow n9 3 1 cu cn cx):xp n9 base n cn kv cu ks cx A B where
 keep:=hb.mono fun x hx=>⟨hx.2.1,fun e=>by have:=(ho.lt x e).1;omega⟩
 old:=fun a=>au a hb fun x hx=>⟨(a.lt x hx).2,fun e=>by
  rcases ownBlock_ne (by decide) a ho with h | h
  ·rw[h]at hx;cases hx
  ·exact h (by rw[hx,e])⟩
 WV:=fun _=>hc
 box:=fun b _ a=>a.keeps hb ⟨a.lt,fun e=>dp a ho (by decide) b e rfl⟩
 new:=fun v a=>au a hb fun x hx=>⟨(a.lt x hx).2,fun e=>by
  rcases ownBlock_ne (by decide) a ho with h | h
  ·rw[h]at hx;cases hx
  ·exact h (by rw[hx,e])⟩
theorem xp.append {v:Value} (hk:A.ownsRow base 51 1 kv n ks) (Tk:∀ x,kv.ownBlock=some x->x<n9) (ho:B.ownsRow base 51 1 v (n+1) (ks++ [cu])) (hg:A.grownBy B kv.ownBlock) (kh:aa A B\/∃ g cap,kv=.slice (some ⟨g,0,none⟩) n cap/\v=.slice (some ⟨g,0,none⟩) (n+1) cap/\n+1<=cap):xp n9 base n cn kv cu ks cx A B:=by
 rcases kh with h | ⟨g,cap,e1,e2,_⟩
 ·exact .below h
 ·have hkx:ks.length=n*1:=hk.1
  refine⟨ae.bA hg fun x hx=>⟨hx.2.1,fun e=>hx.2.2 e.symm⟩,fun _=>?_,fun a=>a.kept hg ?_,fun b hb a=>a.grown hg fun e=>?_,fun v' a=>?_⟩
  ·rw[e1];rw[e2]at ho;exact vh hkx ho
  ·exact ownBlock_ne (by decide) a hk
  ·have:=Tk b e.symm;omega
  ·by_cases eb:v'.ownBlock=some g
   ·obtain⟨c1,f1,f2,_,_⟩:=lA (by decide) a hk eb (by rw[e1];rfl)
    rw[e1]at f2;cases f2;rw[f1];rw[e2]at ho;exact ho
   ·refine a.kept hg (.inr fun e=>eb ?_)
    rw[e,e1];rfl
end
def wk.WV (n9 base n cn:Nat) (kv cu:Value) (ks cx:List Value):aR (xp n9 base n cn kv cu ks cx):=⟨fun v=>v=cu,fun _ W=>W.ownsRow n9 3 1 cu cn cx,cu,rfl,fun _ _ _ hm _ h=>hm.WV h⟩
def wk.box (n9 base n cn:Nat) (kv cu:Value) (ks cx:List Value):aR (xp n9 base n cn kv cu ks cx) where
 P:=fun v=>∃ b,n9<=b/\v=.slice (some ⟨b,0,none⟩) 1 1
 H:=fun v W=>∀ b,v=.slice (some ⟨b,0,none⟩) 1 1->aq W b #[cu] 51
 mo:=.slice (some ⟨n9,0,none⟩) 1 1
 pw:=⟨n9,aD _,rfl⟩
 st:=fun v _ _ hm ⟨b,hb,e⟩ h b' e'=>by
  rw[e]at e';cases e';exact hm.box _ hb (h _ e)
def wk.new (n9 base n cn:Nat) (kv cu:Value) (ks cx:List Value):aR (xp n9 base n cn kv cu ks cx) where
 P:=fun v=>∃ a c,v=.slice a (n+1) c
 H:=fun v W=>W.ownsRow base 51 1 v (n+1) (ks++ [cu])/\(v.ownBlock=kv.ownBlock\/∀ x,v.ownBlock=some x->n9<=x)
 mo:=.slice none (n+1) 0
 pw:=⟨none,0,rfl⟩
 st:=fun v _ _ hm _ h=>⟨hm.new v h.1,h.2⟩
theorem xW {am:Nat} {ma:Option Addr} {mc:Nat} {l:List Int} {u:Value} (hl:l.length=am) (h:((Value.slice ma am mc)=.slice none 0 0/\u=.slice none 0 0)\/∃ g cap,(Value.slice ma am mc)=.slice (some ⟨g,0,none⟩) am cap/\u=.slice (some ⟨g,0,none⟩) (Lib.compact l).length cap):u=.slice ma (Lib.compact l).length mc:=by
 rcases h with⟨e,rfl⟩ | ⟨g,cap,e,rfl⟩
 ·cases e
  have hn:l=[]:=List.eq_nil_of_length_eq_zero hl;subst hn;rfl
 ·cases e
  rfl
theorem lM {P:Program} {Cl:FuncId->Array Value->World->(Ending->World->Prop)->Prop} {Rd:Nat->FuncId->Array Value->Code->Code->World->(Ending->World->Prop)->Prop} {o:Oper} {a:Act} {W:World} {post:Value->World->Prop} (s x:Operand) (t:TypeId) (ho:o.op=.call {callee:=.builtin .append,args:= #[s,x],argTypes:= #[t,t]}) (base:Nat) (e:TypeId) (i:TypeInfo) (z:Value) (size bytes:Nat) (ht:P.underlying t=some (.slice e)) (hi:P.info? e=some i) (hz:i.zero=some z) (hsize:i.size=size) (hby:i.bytes=bytes) (hzs:z.cells.size=size) (hsz:0<size) (v:Value) (k:Nat) (xs:List Value) (hs:a.eval s=v) (hown:W.ownsRow base e size v k xs) (ad:Addr) (m c:Nat) (news:List Value) (hx:a.eval x=.slice (some ad) m c) (hnews:∀ j u,news[j]? =some u->W.cell? (ad.add j)=some u) (hl:news.length=m*size) (h1:∀ u∈news,u.oneCell'=true) (h63:k+m<=maxLen) (hbytes:(k+m)*bytes<=140737488355328) (hbase:base<=W.heap.size) (hm:0<m) (h:∀ v' w',w'.ownsRow base e size v' (k+m) (xs++news)->W.grownBy w' v.ownBlock->((aa W w'/\v'.ownBlock=some W.heap.size)\/∃ g cap,v=.slice (some ⟨g,0,none⟩) k cap/\v'=.slice (some ⟨g,0,none⟩) (k+m) cap/\k+m<=cap)->post v' w'): jo Cl Rd post ((execOp a.eval o).run P W):=by
 obtain⟨v',w',hr,h2,h3⟩:=jv (P:=P) W base t o.type e i z size bytes ht hi hz hsize hby hzs hsz v k xs hown ad m c news hl hnews h1 h63 hbytes hbase hm;obtain⟨v'',w'',Rz,h2',h3'⟩:=mN (P:=P) W base t o.type e i z size bytes ht hi hz hsize hby hzs hsz v k xs hown (.slice (some ad) m c) m news (.inr ⟨_,_,rfl,hnews⟩) hl h1 h63 hbytes hbase;rw[hr]at Rz;cases Rz;unfold execOp;simp only[ho,resolve,invoke,builtin,Sem.run_bind,Sem.run_pure,Result.andThen_ok,List.map_toArray,List.map_cons,List.map_nil,hs,hx,hr];refine h v' w' h2 h3' ?_;rcases h3 with⟨g,cap,cur,e1,e2,e3,e4,e5,_⟩ | ⟨hb,e⟩
 ·exact .inr ⟨g,cap,e1,e5,by first | exact e3 | exact e4⟩
 ·exact .inl ⟨hb,e⟩
theorem D7 {wm wg:World} {ob mb base L:Nat} {rows:List (List (List Int))} {cs:Array Value} {sv kv:Value} {us ks:List Value} (hm:kS wm ob rows) (hb:aq wm mb cs 152) (hs:wm.ownsRow base 71 1 sv L us) (hk:wm.ownsRow base 51 1 kv L ks) (K:ae (fun x=>x<wm.heap.size/\x≠ob/\x≠mb/\sv.ownBlock≠some x/\kv.ownBlock≠some x) wm wg) {b n:Nat} {e:TypeId} {v:Value} {xs:List Value} (h:wm.ownsRow b e 1 v n xs) (h1:152≠e) (h2:e≠71) (h3:e≠51\/oJ v kv):wg.ownsRow b e 1 v n xs:=
 au h K fun x hx=>⟨(h.lt x hx).2,su h hm (fun c fz e=>by cases e) x hx,dp hb h h1 x hx,fun e2=>by
  rcases ownBlock_ne h2 h hs with h5 | h5
  ·rw[h5]at hx;cases hx
  ·exact h5 (by rw[hx,e2]),fun e2=>by
  rcases h3 with h3 | h3
  ·rcases ownBlock_ne h3 h hk with h5 | h5
   ·rw[h5]at hx;cases hx
   ·exact h5 (by rw[hx,e2])
  ·rcases h3 with h5 | h5
   ·rw[h5]at hx;cases hx
   ·exact h5 (by rw[hx,e2])⟩
theorem Mk.more {F:Nat->Prop} {wm wg:World} {base mb ob f cn L:Nat} {pv cv:Value} {ps:List PT} {rows:List (List (List Int))} {nx:List (List Int)} {sv nv kv WQ kv' lv cu:Value} {us ns ks cx:List Value} {r:List (List Int)} (M:Mk F wm base mb ob f pv cv ps rows nx sv nv kv us ns ks) (hL:L=rows.length) (K:ae (fun x=>x<wm.heap.size/\x≠ob/\x≠mb/\sv.ownBlock≠some x/\kv.ownBlock≠some x) wm wg) (hblk:aq wg mb #[pv,.int .i64 f,WQ,.map (some ob),cv,nv,kv'] 152) (hmap:kS wg ob (rows++ [r])) (hst:gV F wg base 71 WQ (L+1) (us++ [lv])) (hlv:Lj F wg base lv r) (Fp:oJ lv nv) (hf2:oJ lv kv') (D9:gV F wg base 51 kv' (L+1) (ks++ [cu])) (hcu:gV F wg base 3 cu cn cx) (Zi:cn=(dG ps r).length) (uw:cx=(dG ps r).map aV) (hkf:∀ v,(∀ x,v.ownBlock=some x->x<wm.heap.size)->oJ v kv->oJ v kv'):Mk F wg base mb ob f pv cv ps (rows++ [r]) nx WQ nv kv' (us++ [lv]) ns (ks++ [cu]) where
 blk:=hblk
 map:=hmap
 fm:=M.fm
 fo:=M.fo
 bm:=M.bm
 bo:=M.bo
 st:=by rw[aQ, <-hL];exact hst
 Rq:=fun i u q hu hq=>by
  have hul:us.length=L:=by have:=M.st.1.1;omega
  by_cases hi:i<L
  ·rw[bJ (by omega)]at hu hq
   obtain⟨⟨vs,h1,h2⟩,h3,h4⟩:=M.Rq i u q hu hq;exact⟨⟨vs,⟨D7 M.map M.blk M.st.1 M.tE.1 K h1.1 (by decide) (by decide) (.inr h4),h1.2⟩,fun i u l hu hl=>⟨D7 M.map M.blk M.st.1 M.tE.1 K (h2 i u l hu hl).1 (by decide) (by decide) (.inl (by decide)),(h2 i u l hu hl).2⟩⟩,h3,hkf u (fun x e=>(h1.1.lt x e).2) h4⟩
  ·have iR:=(List.getElem?_eq_some_iff.1 hu).1
   simp at iR;obtain rfl:i=L:=by omega
   rw[cZ (by omega),hul,Nat.sub_self]at hu;rw[cZ (by omega), <-hL,Nat.sub_self]at hq;cases hu;cases hq;exact⟨hlv,Fp,hf2⟩
 ud:=⟨D7 M.map M.blk M.st.1 M.tE.1 K M.ud.1 (by decide) (by decide) (.inr M.far),M.ud.2⟩
 MI:=fun i u l hu hl=>⟨D7 M.map M.blk M.st.1 M.tE.1 K (M.MI i u l hu hl).1 (by decide) (by decide) (.inl (by decide)),(M.MI i u l hu hl).2⟩
 tE:=by rw[aQ, <-hL];exact D9
 MJ:=fun i u l hu hl=>by
  have hul:ks.length=L:=by have:=M.tE.1.1;omega
  rw[List.map_append]at hl;by_cases hi:i<L
  ·rw[bJ (by omega)]at hu
   rw[bJ (by rw[bp];omega)]at hl;exact⟨D7 M.map M.blk M.st.1 M.tE.1 K (M.MJ i u l hu hl).1 (by decide) (by decide) (.inl (by decide)),(M.MJ i u l hu hl).2⟩
  ·have iR:=(List.getElem?_eq_some_iff.1 hu).1
   simp at iR;obtain rfl:i=L:=by omega
   rw[cZ (by omega),hul,Nat.sub_self]at hu;rw[cZ (by rw[bp];omega),bp, <-hL,Nat.sub_self]at hl;cases hu;cases hl;rw[<-Zi, <-uw];exact hcu
 far:=hkf nv (fun x e=>(M.ud.1.lt x e).2) M.far
structure qh (fv:Value) (n9 base n mb:Nat) (F:Nat->Prop) (S1 F1:List Value) (sx fx:Array Value) (A B:World):Prop where
 keep:ae (fun x=>x<n9/\x<A.heap.size/\¬F x) A B
 ns:∀ v,A.ownsRow base 37 4 v (n+1) S1->B.ownsRow base 37 4 v (n+1) S1
 nf:∀ v,A.ownsRow base 140 7 v (n+1) F1->B.ownsRow base 140 7 v (n+1) F1
 bs:∀ b,n9<=b->aq A b sx 37->aq B b sx 37
 bf:∀ b,n9<=b->aq A b fx 140->aq B b fx 140
 Zj:∀ a c,aq A mb #[.slice a (n+1) c,fv] 138->aq B mb #[.slice a (n+1) c,fv] 138
section
variable {n9 base n mb:Nat} {F:Nat→Prop} {S1 F1 S0 F0:List Value} {sx fx:Array Value} {sv fv:Value} {A B C:World}
theorem qh.trans (h:qh fv n9 base n mb F S1 F1 sx fx A B) (k:qh fv n9 base n mb F S1 F1 sx fx B C):qh fv n9 base n mb F S1 F1 sx fx A C:=
 ⟨h.keep.trans k.keep fun _ hx=>⟨hx.1,aw hx.2.1 h.keep.size,hx.2.2⟩,fun v a=>k.ns v (h.ns v a),fun v a=>k.nf v (h.nf v a),fun b hb a=>k.bs b hb (h.bs b hb a),fun b hb a=>k.bf b hb (h.bf b hb a),fun a c e=>k.Zj a c (h.Zj a c e)⟩
theorem qh.below (h:aa A B):qh fv n9 base n mb F S1 F1 sx fx A B:=
 ⟨ae.ai h fun _ hx=>hx.2.1,fun _ a=>ay a h,fun _ a=>ay a h,fun _ _ a=>a.below h a.lt,fun _ _ a=>a.below h a.lt,fun _ _ a=>a.below h a.lt⟩
theorem qh.drew:qh fv n9 base n mb F S1 F1 sx fx A A.drew:=.below (Ext.refl A).drew.below
theorem qh.size (h:qh fv n9 base n mb F S1 F1 sx fx A B):A.heap.size<=B.heap.size:=h.keep.size
theorem qh.apS {v:Value} (hk:A.ownsRow base 37 4 sv n S0) (Tk:∀ x,sv.ownBlock=some x->x<n9/\F x) (hm:aq A mb #[sv,fv] 138) (ho:B.ownsRow base 37 4 v (n+1) S1) (hg:A.grownBy B sv.ownBlock) (kh:aa A B\/∃ g cap,sv=.slice (some ⟨g,0,none⟩) n cap/\v=.slice (some ⟨g,0,none⟩) (n+1) cap/\n+1<=cap):qh fv n9 base n mb F S1 F1 sx fx A B:=by
 rcases kh with h | ⟨g,cap,e1,e2,_⟩
 ·exact .below h
 ·have hne:mb≠g:=fun e=>dp hm hk (by decide) mb (by rw[e1,e];rfl) rfl
  refine⟨ae.bA hg fun x hx=>⟨hx.2.1,fun e=>hx.2.2 (Tk x e.symm).2⟩,fun v' a=>?_,fun v' a=>a.kept hg (ownBlock_ne (by decide) a hk),fun b hb a=>a.grown hg fun e=>?_,fun b hb a=>a.grown hg fun e=>?_,fun a c e=>?_⟩
  ·by_cases eb:v'.ownBlock=some g
   ·obtain⟨c1,f1,f2,_,_⟩:=lA (by decide) a hk eb (by rw[e1];rfl)
    rw[e1]at f2;cases f2;rw[f1];rw[e2]at ho;exact ho
   ·refine a.kept hg (.inr fun e=>eb ?_)
    rw[e,e1];rfl
  ·have:=(Tk b e.symm).1;omega
  ·have:=(Tk b e.symm).1;omega
  ·exact e.grown hg fun e=>by rw[e1]at e;exact hne (Option.some.inj e)
theorem qh.apF {v:Value} (hk:A.ownsRow base 140 7 fv n F0) (Tk:∀ x,fv.ownBlock=some x->x<n9/\F x) (hm:aq A mb #[sv,fv] 138) (ho:B.ownsRow base 140 7 v (n+1) F1) (hg:A.grownBy B fv.ownBlock) (kh:aa A B\/∃ g cap,fv=.slice (some ⟨g,0,none⟩) n cap/\v=.slice (some ⟨g,0,none⟩) (n+1) cap/\n+1<=cap):qh fv n9 base n mb F S1 F1 sx fx A B:=by
 rcases kh with h | ⟨g,cap,e1,e2,_⟩
 ·exact .below h
 ·have hne:mb≠g:=fun e=>dp hm hk (by decide) mb (by rw[e1,e];rfl) rfl
  refine⟨ae.bA hg fun x hx=>⟨hx.2.1,fun e=>hx.2.2 (Tk x e.symm).2⟩,fun v' a=>a.kept hg (ownBlock_ne (by decide) a hk),fun v' a=>?_,fun b hb a=>a.grown hg fun e=>?_,fun b hb a=>a.grown hg fun e=>?_,fun a c e=>?_⟩
  ·by_cases eb:v'.ownBlock=some g
   ·obtain⟨c1,f1,f2,_,_⟩:=lA (by decide) a hk eb (by rw[e1];rfl)
    rw[e1]at f2;cases f2;rw[f1];rw[e2]at ho;exact ho
   ·refine a.kept hg (.inr fun e=>eb ?_)
    rw[e,e1];rfl
  ·have:=(Tk b e.symm).1;omega
  ·have:=(Tk b e.symm).1;omega
  ·exact e.grown hg fun e=>by rw[e1]at e;exact hne (Option.some.inj e)
theorem qh.store (v:Value) (hm:aq A mb #[sv,fv] 138) (hn:∃ a c,sv=.slice a n c) (hF:F mb) (tY:mb<n9):qh fv n9 base n mb F S1 F1 sx fx A (A.setCell ⟨mb,0,none⟩ v):=by have hk:ae (· ≠mb) A (A.setCell ⟨mb,0,none⟩ v):=(ae.refl (· ≠mb) A).setCell (fun h=>h rfl) _;refine⟨hk.mono fun x hx e=>hx.2.2 (by rw[e];exact hF),fun v a=>au a hk fun x hx=>dp hm a (by decide) x hx,fun v a=>au a hk fun x hx=>dp hm a (by decide) x hx,fun b hb a=>a.keeps hk (by omega),fun b hb a=>a.keeps hk (by omega),fun a c e=>?_⟩;obtain⟨a',c',rfl⟩:=hn;have h1:=hm.cell 0;have h2:=e.cell 0;rw[h1]at h2;simp at h2
def qR.box (fv:Value) (n9 base n mb:Nat) (F:Nat->Prop) (S1 F1:List Value) (sx fx:Array Value):aR (qh fv n9 base n mb F S1 F1 sx fx) where
 P:=fun v=>∃ b,n9<=b/\v=.slice (some ⟨b,0,none⟩) 1 1
 H:=fun v W=>∀ b,v=.slice (some ⟨b,0,none⟩) 1 1->aq W b sx 37
 mo:=.slice (some ⟨n9,0,none⟩) 1 1
 pw:=⟨n9,aD _,rfl⟩
 st:=fun v _ _ hm ⟨b,hb,e⟩ h b' e'=>by
  rw[e]at e';cases e';exact hm.bs _ hb (h _ e)
def qR.aa9 (fv:Value) (n9 base n mb:Nat) (F:Nat->Prop) (S1 F1:List Value) (sx fx:Array Value):aR (qh fv n9 base n mb F S1 F1 sx fx) where
 P:=fun v=>∃ b,n9<=b/\v=.slice (some ⟨b,0,none⟩) 1 1
 H:=fun v W=>∀ b,v=.slice (some ⟨b,0,none⟩) 1 1->aq W b fx 140
 mo:=.slice (some ⟨n9,0,none⟩) 1 1
 pw:=⟨n9,aD _,rfl⟩
 st:=fun v _ _ hm ⟨b,hb,e⟩ h b' e'=>by
  rw[e]at e';cases e';exact hm.bf _ hb (h _ e)
def qR.aba (fv:Value) (n9 base n mb:Nat) (F:Nat->Prop) (S1 F1:List Value) (sx fx:Array Value) (sv:Value):aR (qh fv n9 base n mb F S1 F1 sx fx) where
 P:=fun v=>∃ a c,v=.slice a (n+1) c
 H:=fun v W=>W.ownsRow base 37 4 v (n+1) S1/\(v.ownBlock=sv.ownBlock\/∀ x,v.ownBlock=some x->n9<=x)
 mo:=.slice none (n+1) 0
 pw:=⟨none,0,rfl⟩
 st:=fun v _ _ hm _ h=>⟨hm.ns v h.1,h.2⟩
def qR.abb (fv:Value) (n9 base n mb:Nat) (F:Nat->Prop) (S1 F1:List Value) (sx fx:Array Value):aR (qh fv n9 base n mb F S1 F1 sx fx) where
 P:=fun v=>∃ a c,v=.slice a (n+1) c
 H:=fun v W=>W.ownsRow base 140 7 v (n+1) F1/\(v.ownBlock=fv.ownBlock\/∀ x,v.ownBlock=some x->n9<=x)
 mo:=.slice none (n+1) 0
 pw:=⟨none,0,rfl⟩
 st:=fun v _ _ hm _ h=>⟨hm.nf v h.1,h.2⟩
def qR.Zj (fv:Value) (n9 base n mb:Nat) (F:Nat->Prop) (S1 F1:List Value) (sx fx:Array Value) (sv:Value):aR (qh fv n9 base n mb F S1 F1 sx fx) where
 P:=fun _=>True
 H:=fun _ W=>∃ a c,aq W mb #[.slice a (n+1) c,fv] 138/\W.ownsRow base 37 4 (.slice a (n+1) c) (n+1) S1/\((Value.slice a (n+1) c).ownBlock=sv.ownBlock\/∀ x,(Value.slice a (n+1) c).ownBlock=some x->n9<=x)
 mo:=undef
 pw:=trivial
 st:=fun _ _ _ hm _ ⟨a,c,h1,h2,h3⟩=>⟨a,c,hm.Zj a c h1,hm.ns _ h2,h3⟩
end
theorem PC (x y:PB) (e:Bool) {p:Nat} (hp:p<448):(az ⟨x,y,e⟩).setIfInBounds (0+p/64) (.int .u64 (jE (bW x) p (p/64)).toNat)=az ⟨x ||| eQ p,y,e⟩:=by
 have h1:∀ j,bW (x ||| eQ p) j=jE (bW x) p j:=fun j=>Pk x hp j
 have h2:∀ j,j≠p/64->jE (bW x) p j=bW x j:=fun j hj=>by unfold jE;rw[if_neg hj]
 obtain⟨q,hq⟩:=ah (p/64);rw[<-hq]at h2 ⊢;obtain⟨v,hv⟩:=ah (jE (bW x) p);rw[<-hv]at h1 h2 ⊢;have OT:q<7:=by omega
 unfold az;simp only[h1];have h7:q=0\/q=1\/q=2\/q=3\/q=4\/q=5\/q=6:=by omega
 rcases h7 with rfl | rfl | rfl | rfl | rfl | rfl | rfl
 ·rw[h2 1 (by decide),h2 2 (by decide),h2 3 (by decide),h2 4 (by decide),h2 5 (by decide),h2 6 (by decide)];rfl
 ·rw[h2 0 (by decide),h2 2 (by decide),h2 3 (by decide),h2 4 (by decide),h2 5 (by decide),h2 6 (by decide)];rfl
 ·rw[h2 0 (by decide),h2 1 (by decide),h2 3 (by decide),h2 4 (by decide),h2 5 (by decide),h2 6 (by decide)];rfl
 ·rw[h2 0 (by decide),h2 1 (by decide),h2 2 (by decide),h2 4 (by decide),h2 5 (by decide),h2 6 (by decide)];rfl
 ·rw[h2 0 (by decide),h2 1 (by decide),h2 2 (by decide),h2 3 (by decide),h2 5 (by decide),h2 6 (by decide)];rfl
 ·rw[h2 0 (by decide),h2 1 (by decide),h2 2 (by decide),h2 3 (by decide),h2 4 (by decide),h2 6 (by decide)];rfl
 ·rw[h2 0 (by decide),h2 1 (by decide),h2 2 (by decide),h2 3 (by decide),h2 4 (by decide),h2 5 (by decide)];rfl
theorem PD (x y:PB) (e:Bool) {p:Nat} (hp:p<448):(az ⟨x,y,e⟩).setIfInBounds (7+p/64) (.int .u64 (jE (bW y) p (p/64)).toNat)=az ⟨x,y ||| eQ p,e⟩:=by
 have h1:∀ j,bW (y ||| eQ p) j=jE (bW y) p j:=fun j=>Pk y hp j
 have h2:∀ j,j≠p/64->jE (bW y) p j=bW y j:=fun j hj=>by unfold jE;rw[if_neg hj]
 obtain⟨q,hq⟩:=ah (p/64);rw[<-hq]at h2 ⊢;obtain⟨v,hv⟩:=ah (jE (bW y) p);rw[<-hv]at h1 h2 ⊢;have OT:q<7:=by omega
 unfold az;simp only[h1];have h7:q=0\/q=1\/q=2\/q=3\/q=4\/q=5\/q=6:=by omega
 rcases h7 with rfl | rfl | rfl | rfl | rfl | rfl | rfl
 ·rw[h2 1 (by decide),h2 2 (by decide),h2 3 (by decide),h2 4 (by decide),h2 5 (by decide),h2 6 (by decide)];rfl
 ·rw[h2 0 (by decide),h2 2 (by decide),h2 3 (by decide),h2 4 (by decide),h2 5 (by decide),h2 6 (by decide)];rfl
 ·rw[h2 0 (by decide),h2 1 (by decide),h2 3 (by decide),h2 4 (by decide),h2 5 (by decide),h2 6 (by decide)];rfl
 ·rw[h2 0 (by decide),h2 1 (by decide),h2 2 (by decide),h2 4 (by decide),h2 5 (by decide),h2 6 (by decide)];rfl
 ·rw[h2 0 (by decide),h2 1 (by decide),h2 2 (by decide),h2 3 (by decide),h2 5 (by decide),h2 6 (by decide)];rfl
 ·rw[h2 0 (by decide),h2 1 (by decide),h2 2 (by decide),h2 3 (by decide),h2 4 (by decide),h2 6 (by decide)];rfl
 ·rw[h2 0 (by decide),h2 1 (by decide),h2 2 (by decide),h2 3 (by decide),h2 4 (by decide),h2 5 (by decide)];rfl
end Go.Proofs.YtpcmhjbehdgdbaaGreatDoor
