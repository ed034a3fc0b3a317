/- The law MinimalLeast at any small one. -/
import Derived.Test.YtjgccapbphadjaaGreatDoorOM24
set_option maxRecDepth 100000
set_option maxHeartbeats 16000000
open Go.Lib (hid)
open Go.Value renaming slice->An,int->As,agg->A_,bool->A',tuple->B_,pointer->Cd,string->DE
open Go.Ending renaming returned->At
open Go.IntKind renaming u64->AF,i64->AI,u8->C_
open BitVec renaming allOnes->AM
open Option renaming none->AN,some->AS
open Go renaming World->AT,Value->B',Addr->DH
open List renaming range->Bm
open Bool renaming true->Bs,false->C'
open Go.RowKit renaming Hid->By
namespace Go.Proofs.YtjgccapbphadjaaGreatDoor
open Go Go.RowKit Go.Shelf Go.Maps
theorem vv (i:Nat) (hi:i<4):(wd (AM 256) i).toNat=18446744073709551615:=by
 have h0:(wd (AM 256) 0).toNat=18446744073709551615:=by kernel_rfl
 have h1:(wd (AM 256) 1).toNat=18446744073709551615:=by kernel_rfl
 have h2:(wd (AM 256) 2).toNat=18446744073709551615:=by kernel_rfl
 have h3:(wd (AM 256) 3).toNat=18446744073709551615:=by kernel_rfl
 rcases(show i=0\/i=1\/i=2\/i=3 by omega)with rfl | rfl | rfl | rfl<;>assumption
theorem aJ.grow {w W:AT} {v:B'} {t:RX} (h:aJ (· <w.heap.size) w v t) (hk:aa w W):aJ (· <W.heap.size) W v t:=(h.mN hk).mono fun _ hb=>aA hb hk.size
theorem aJ.two {V:AT} {b k1 n1 c1 k2 n2 c2:Nat} {s1 s2:BS} {a1 d1 a2 d2:Int} {p1 p2:Option DH} {t1 t2:RX} {ty:TypeId} {C:Array B'} (h1:aJ (· <V.heap.size) V (A_ (aq k1 s1 a1 d1 (An p1 n1 c1))) t1) (h2:aJ (· <V.heap.size) V (A_ (aq k2 s2 a2 d2 (An p2 n2 c2))) t2) (hB:ar V b C ty) (hC:C=aq k1 s1 a1 d1 (An p1 n1 c1)++aq k2 s2 a2 d2 (An p2 n2 c2)) (k:Nat): aJ (· <V.heap.size) V (A_ (aq k 0 0 0 (An (AS ⟨b,0,AN⟩) 2 2))) (.nd k 0 0 0 [t1,t2]):=by
 have hz1:(aq k1 s1 a1 d1 (An p1 n1 c1)).size=8:=rfl;refine .mk k 0 0 0 [t1,t2] _ b 0 2 (fun i=>if i=0 then A_ (aq k1 s1 a1 d1 (An p1 n1 c1))else A_ (aq k2 s2 a2 d2 (An p2 n2 c2))) (fun e=>by cases e) (fun _=>⟨rfl,hB.lt,hB.lt,by simp⟩) (fun i x hi=>?_) (fun i x hi=>?_)
 ·match i,hi with
  | 0, hi => exact ⟨_, rfl, fun j u hj => by
    have hj8 : j < 8 := by rw [<- hz1]; exact (Array.getElem?_eq_some_iff.1 hj).1
    have h5 := hB.cell j;rw [hC, Array.getElem?_append_left (by omega)] at h5
    simpa using h5.trans hj⟩
  | 1, hi => exact ⟨_, rfl, fun j u hj => by
    have h5 := hB.cell (8 + j);rw [hC, Array.getElem?_append_right (by omega), hz1, Nat.add_sub_cancel_left] at h5
    simpa using h5.trans hj⟩
  | i+2,hi=>simp at hi
 ·match i,hi with
  | 0,hi=>cases hi;exact h1
  | 1,hi=>cases hi;exact h2
  | i+2,hi=>simp at hi
theorem JS (w:AT): ah 57 #[] w fun e w'=>∃ a0 a1 a2,e=At (A_ #[An a0 1 1,An a1 4 4,An a2 4 4])/\cS w' (A_ #[An a0 1 1,An a1 4 4,An a2 4 4]) kC/\aa w w':=by
 have o0:=vv 0 (by decide);have o1:=vv 1 (by decide);have o2:=vv 2 (by decide);have o3:=vv 3 (by decide);have HW:=hid (And.intro o0 (And.intro o1 (And.intro o2 o3)));clear o0 o1 o2 o3;go_enter Tryz.func57,Tryz.ntmps57;go_wp2;refine bu ?_;intro V hV;have k0:ar V (w.heap.size) #[An (AS ⟨w.heap.size+1,0,AN⟩) 1 1,An (AS ⟨w.heap.size+1+1+1+1+1+1,0,AN⟩) 4 4,An (AS ⟨w.heap.size+1+1+1+1+1+1+1+1+1,0,AN⟩) 4 4] 29:=by rw[hV];exact(((((((((ar.new _ _ _).alloc _).alloc _).alloc _).alloc _).alloc _).alloc _).alloc _).alloc _).alloc _
 have k1:ar V (w.heap.size+1) #[As AF 18446744073709551615,As AF 18446744073709551615,As AF 18446744073709551615,As AF 18446744073709551615] 56:=by rw[hV];exact(((((((((ar.new _ _ _).at (by simp)).alloc _).alloc _).alloc _).alloc _).alloc _).alloc _).alloc _).alloc _
 have k2:ar V (w.heap.size+1+1) #[As AI 1] 3:=by rw[hV];exact((((((((ar.new _ _ _).at (by simp)).alloc _).alloc _).alloc _).alloc _).alloc _).alloc _).alloc _
 have k3:ar V (w.heap.size+1+1+1) #[As AI 0] 3:=by rw[hV];exact(((((((ar.new _ _ _).at (by simp)).alloc _).alloc _).alloc _).alloc _).alloc _).alloc _
 have k4:ar V (w.heap.size+1+1+1+1) #[As AI 3] 3:=by rw[hV];exact((((((ar.new _ _ _).at (by simp)).alloc _).alloc _).alloc _).alloc _).alloc _
 have k5:ar V (w.heap.size+1+1+1+1+1) #[As AI 2] 3:=by rw[hV];exact(((((ar.new _ _ _).at (by simp)).alloc _).alloc _).alloc _).alloc _
 have k6:ar V (w.heap.size+1+1+1+1+1+1) #[An (AS ⟨w.heap.size+1+1,0,AN⟩) 1 1,An (AS ⟨w.heap.size+1+1+1,0,AN⟩) 1 1,An (AS ⟨w.heap.size+1+1+1+1,0,AN⟩) 1 1,An (AS ⟨w.heap.size+1+1+1+1+1,0,AN⟩) 1 1] 39:=by rw[hV];exact((((ar.new _ _ _).at (by simp)).alloc _).alloc _).alloc _
 have k7:ar V (w.heap.size+1+1+1+1+1+1+1) #[As AI 0] 3:=by rw[hV];exact(((ar.new _ _ _).at (by simp)).alloc _).alloc _
 have k8:ar V (w.heap.size+1+1+1+1+1+1+1+1) #[As AI 0] 3:=by rw[hV];exact((ar.new _ _ _).at (by simp)).alloc _
 have k9:ar V (w.heap.size+1+1+1+1+1+1+1+1+1) #[An AN 0 0,An (AS ⟨w.heap.size+1+1+1+1+1+1+1,0,AN⟩) 1 1,An AN 0 0,An (AS ⟨w.heap.size+1+1+1+1+1+1+1+1,0,AN⟩) 1 1] 39:=by rw[hV];exact(ar.new _ _ _).at (by simp)
 have X1:By (aa w V):=by rw[hV];exact hid (((((((((((Ext.refl w).alloc _).alloc _).alloc _).alloc _).alloc _).alloc _).alloc _).alloc _).alloc _).alloc _).below
 clear hV;obtain⟨o0,o1,o2,o3⟩:=HW.out
 have hdf:cS V (A_ #[An (AS ⟨w.heap.size+1,0,AN⟩) 1 1,An (AS ⟨w.heap.size+1+1+1+1+1+1,0,AN⟩) 4 4,An (AS ⟨w.heap.size+1+1+1+1+1+1+1+1+1,0,AN⟩) 4 4]) kC:=⟨_,_,_,rfl,JQ [AM 256] k1 (by
   show _=[As AF (wd (AM 256) 0).toNat,As AF (wd (AM 256) 1).toNat,As AF (wd (AM 256) 2).toNat,As AF (wd (AM 256) 3).toNat]
   rw[o0,o1,o2,o3];rfl) rfl,
  Lm [An (AS ⟨w.heap.size+1+1,0,AN⟩) 1 1,An (AS ⟨w.heap.size+1+1+1,0,AN⟩) 1 1,An (AS ⟨w.heap.size+1+1+1+1,0,AN⟩) 1 1,An (AS ⟨w.heap.size+1+1+1+1+1,0,AN⟩) 1 1] k6 rfl rfl ⟨qC [1] k2 rfl rfl,qC [0] k3 rfl rfl,qC [3] k4 rfl rfl,qC [2] k5 rfl rfl,trivial⟩,
  Lm [An AN 0 0,An (AS ⟨w.heap.size+1+1+1+1+1+1+1,0,AN⟩) 1 1,An AN 0 0,An (AS ⟨w.heap.size+1+1+1+1+1+1+1+1,0,AN⟩) 1 1] k9 rfl rfl ⟨Ln,qC [0] k7 rfl rfl,Ln,qC [0] k8 rfl rfl,trivial⟩⟩
 obtain⟨⟨m0,m1,m2⟩,_⟩:=k0.three;exact bodyPost_ret (v:=A_ #[An (AS ⟨w.heap.size+1,0,AN⟩) 1 1,An (AS ⟨w.heap.size+1+1+1+1+1+1,0,AN⟩) 4 4,An (AS ⟨w.heap.size+1+1+1+1+1+1+1+1+1,0,AN⟩) 4 4]) (by simp[results,Tryz.results57,go_sem,m0,m1,m2]) rfl ⟨_,_,_,rfl,hdf,X1⟩
theorem Dp {w:AT} {p:DH} {v:B'} (h:w.cell? p=AS v):p.block<w.heap.size:=by
 unfold World.cell? at h;split at h
 ·rename_i hb;exact(Array.getElem?_eq_some_iff.1 hb).1
 ·cases h
theorem vw {t:RX} (h:(t.pre.all fun x=>x.di)=Bs):t.fine:=fun x hx=>List.all_eq_true.1 h x hx
theorem Tb:((Bm kC.nx.length).map fun s=>cQ (gI kC s))=[0,1,0,1].map aN:=by have h:(Bm kC.nx.length).map (gI kC)=[0,1,0,1]:=SZ;rw[show((Bm kC.nx.length).map fun s=>cQ (gI kC s))=((Bm kC.nx.length).map (gI kC)).map cQ by rw[List.map_map];rfl,h];rfl
theorem AR {W:AT} {a:Option DH} {c:Nat} (h:bZ et W (An a 1 c) [97]):(convert 44 9 (An a 1 c)).run Tryz.prog W=.ok (DE ⟨#[97]⟩) W:=by
 rcases h with⟨e,h⟩ | ⟨g,off,cap,e,hg,lL,hc⟩
 ·cases h
 ·cases e
  exact Lib.run_convert_whole W 44 5 9 Tryz.underlying44 Tryz.underlying5 Tryz.underlying9 g off ⟨#[97]⟩ (fun i hi=>by
   obtain rfl:i=0:=by have:i<1:=hi;omega
   exact hc 0 97 rfl) c
theorem JT {l:List Int} (hn:l.length<=1000000) (W:AT) (u v:B') (h:bZ aN W u l) (h':bZ aN W v l):ah 33 #[u,v] W fun e w'=>e=At (A' Bs)/\aa W w':=(tL u v l l W h h' hn).mono fun e w' ⟨he,hx⟩=>by
 rw[beq_self_eq_true]at he;exact⟨he,hx.below⟩
theorem gh {w W:AT} {p:DH} {v:B'} (hb:aa w W) (h:w.cell? p=AS v):W.cell? p=AS v:=((ae.ak hb fun _ h=>h:ae (· <w.heap.size) w W).cell (Dp h)).trans h
theorem GF (w:AT) (hT:∀ W,aa w W->nE W): ah 10 #[] w fun e w'=>e=At (A' Bs)/\aa w w':=by
 have TT:By (∀ A,aa w A->∀ V,aa A V->nE V):=hid fun A hA V hV=>hT V (hA.trans (hV.mono hA.size))
 obtain⟨sa,J6⟩:=ag (zl [97]);obtain⟨sb,my⟩:=ag (zl [98]);obtain⟨l2,hl2⟩:=ag ((aP GA).mr.length);have CA:By (∀ W,ah 55 #[DE ⟨#[97]⟩] W fun e w'=>e=At (A_ #[As C_ 2,As AF (wd sa 0).toNat,As AF (wd sa 1).toNat,As AF (wd sa 2).toNat,As AF (wd sa 3).toNat,As AI 0,As AI 0,An AN 0 0])/\aa W w'):=hid fun W=>by rw[J6];exact uI ⟨#[97]⟩ [97] rfl (by decide) W
 have CB:By (∀ W,ah 55 #[DE ⟨#[98]⟩] W fun e w'=>e=At (A_ #[As C_ 2,As AF (wd sb 0).toNat,As AF (wd sb 1).toNat,As AF (wd sb 2).toNat,As AF (wd sb 3).toNat,As AI 0,As AI 0,An AN 0 0])/\aa W w'):=hid fun W=>by rw[my];exact uI ⟨#[98]⟩ [98] rfl (by decide) W
 have LFA:By (∀ W,aJ (· <W.heap.size) W (A_ (aq 2 sa 0 0 (An AN 0 0))) (uY [97])):=hid fun W=>by rw[J6];exact aJ.leaf (· <W.heap.size) W 2 (zl [97]) 0 0 AN 0
 have LFB:By (∀ W,aJ (· <W.heap.size) W (A_ (aq 2 sb 0 0 (An AN 0 0))) (uY [98])):=hid fun W=>by rw[my];exact aJ.leaf (· <W.heap.size) W 2 (zl [98]) 0 0 AN 0
 have AL:By (∀ (W:AT) (b:DH),ah 54 #[An (AS b) 2 2] W fun e w'=>e=At (A_ #[As C_ 4,As AF 0,As AF 0,As AF 0,As AF 0,As AI 0,As AI 0,An (AS b) 2 2])/\aa W w'):=hid fun W b=>by have h:=N7 (AS b) 2 2 W;rw[bP]at h;exact h
 have KT:By (∀ (W:AT) (b:DH),ah 58 #[An (AS b) 2 2] W fun e w'=>e=At (A_ #[As C_ 3,As AF 0,As AF 0,As AF 0,As AF 0,As AI 0,As AI 0,An (AS b) 2 2])/\aa W w'):=hid fun W b=>by have h:=N8 (AS b) 2 2 W;rw[bP]at h;exact h
 have O1:By (∀ W v,aa w W->aJ (· <W.heap.size) W v Gz->ah 53 #[v,A' Bs,As AI 9] W (oV 3 4 4 0 NZ W)):=hid fun W v hW hv=>ky v Gz (vw (by kernel_rfl)) (by decide) (by decide) Bs 9 adE rfl rfl rfl W hv fun V hV=>TT W hW V hV
 have O2:By (∀ W v,aa w W->aJ (· <W.heap.size) W v VD->ah 53 #[v,A' C',As AI 99] W (oV 3 3 3 0 GA W)):=hid fun W v hW hv=>ky v VD (vw (by kernel_rfl)) (by decide) (by decide) C' 99 adF rfl rfl rfl W hv fun V hV=>TT W hW V hV
 have O3:By (∀ W v,aa w W->aJ (· <W.heap.size) W v (pK (uY [97]))->ah 53 #[v,A' Bs,As AI 9] W (oV 2 3 3 0 Ta W)):=hid fun W v hW hv=>ky v (pK (uY [97])) (vw (by kernel_rfl)) (by decide) (by decide) Bs 9 adG rfl rfl rfl W hv fun V hV=>TT W hW V hV
 have O4:By (∀ W v,aa w W->aJ (· <W.heap.size) W v (pK (VC [97,97]))->ah 53 #[v,A' Bs,As AI 9] W (oV 2 4 4 0 GC W)):=hid fun W v hW hv=>ky v tAA (vw (by kernel_rfl)) (by decide) (by decide) Bs 9 ZV rfl rfl rfl W hv fun V hV=>TT W hW V hV
 have CS:By (∀ W v,cS W v NZ->ah 14 #[v] W fun e w'=>e=At (B_ #[As AI 3,As AI 2,As AI 0])/\aa W w'):=hid fun W v hv=>Gu ((dH _).1 adH) WT.2.symm WT.1.symm rfl W v hv
 have CM:By (∀ W v,cS W v GA->ah 12 #[v] W (oV 1 1 l2 0 (aP GA) W)):=hid fun W v hv=>tA ((dH _).1 adI) WU.2.symm WU.1.symm hl2 W v hv
 have FO:By (∀ W,ah 57 #[] W fun e w'=>(∃ a0 a1 a2,e=At (A_ #[An a0 1 1,An a1 4 4,An a2 4 4])/\cS w' (A_ #[An a0 1 1,An a1 4 4,An a2 4 4]) kC)/\aa W w'):=hid fun W=>(JS W).mono fun e w' ⟨a0,a1,a2,h1,h2,h3⟩=>⟨⟨a0,a1,a2,h1,h2⟩,h3⟩
 have BK:By (∀ W v,cS W v kC->ah 36 #[v] W fun e w'=>∃ a c,e=At (B_ #[An a 4 c,As AI 0])/\w'.ownsRow W.heap.size 3 1 (An a 4 c) 4 ([0,1,0,1].map aN)/\aa W w'):=hid fun W v hv=>(JN ((dH _).1 ZY) W v hv).mono fun e w' ⟨a,c,h1,h2,h3⟩=>⟨a,c,h1,Tb▸h2,h3⟩
 have CE:By (∀ W v v',cS W v Ta->cS W v' GC->ah 32 #[v,v'] W fun e w'=>∃ a c,e=At (B_ #[An a 1 c,A' C',As AI 0])/\bZ et w' (An a 1 c) [97]/\aa W w'):=hid fun W v v' hv hv'=>by
  have h:=NW ((dH _).1 adJ) ((dH _).1 ZW) (by decide) W v v' hv hv';unfold Dm at h;rw[p_a]at h;exact h
 have X:By (aa w w):=hid (Below.refl _ _);clear J6 my hl2 hT TT;go_enter Tryz.func10,Tryz.ntmps10;go_wp2_with fail
 refine(CA w).mono ?_;rintro e w1 ⟨rfl,hx⟩;replace X:=hid (X.trans (hx.mono X.size));clear hx;go_wp2_with fail
 refine(CB w1).mono ?_;rintro e w2 ⟨rfl,hx⟩;replace X:=hid (X.trans (hx.mono X.size));clear hx;go_wp2_with fail
 refine aH ?_;intro V1 hV;have hb:aa w2 V1:=by rw[hV];exact((Ext.refl w2).alloc _).below
 have kb:ar V1 w2.heap.size #[As C_ 2,As AF (wd sa 0).toNat,As AF (wd sa 1).toNat,As AF (wd sa 2).toNat,As AF (wd sa 3).toNat,As AI 0,As AI 0,An AN 0 0,As C_ 2,As AF (wd sb 0).toNat,As AF (wd sb 1).toNat,As AF (wd sb 2).toNat,As AF (wd sb 3).toNat,As AI 0,As AI 0,An AN 0 0] 97:=by rw[hV];exact ar.new _ _ _
 replace X:=hid (X.trans (hb.mono X.size));have KB:=hid kb;clear hb kb hV;have T1:By (aJ (· <V1.heap.size) V1 (A_ #[As C_ 4,As AF 0,As AF 0,As AF 0,As AF 0,As AI 0,As AI 0,An (AS ⟨w2.heap.size,0,AN⟩) 2 2]) Gz):=hid (by have h5:=aJ.two (LFA V1) (LFB V1) KB rfl 4;rw[bP]at h5;exact h5);clear KB;refine(AL V1 _).mono ?_;rintro e w3 ⟨rfl,hx⟩;replace X:=hid (X.trans (hx.mono X.size));replace T1:=hid (T1.grow hx);clear hx;go_wp2_with fail
 refine(O1 w3 _ X T1).mono ?_;rintro e w4 ⟨da1,dc1,db1,de1,dg1,dh1,rfl,hd,hx⟩;clear T1;replace X:=hid (X.trans (hx.mono X.size));have D1:=hid hd.df;clear hd hx;go_wp2_with fail
 refine aH ?_;intro V2 hV;have hb:aa w4 V2:=by rw[hV];exact((Ext.refl w4).alloc _).below
 have kb:ar V2 w4.heap.size #[An da1 3 dc1,An db1 4 de1,An dg1 4 dh1] 29:=by rw[hV];exact ar.new _ _ _
 replace X:=hid (X.trans (hb.mono X.size));replace D1:=hid (D1.below hb);have B1:=hid kb;clear hb kb hV;refine(CS V2 _ D1).mono ?_;rintro e w5 ⟨rfl,hx⟩;replace X:=hid (X.trans (hx.mono X.size));replace D1:=hid (D1.below hx);replace B1:=hid (B1.below hx B1.lt);clear hx;clear D1;go_wp2_with fail
 refine(CA w5).mono ?_;rintro e w6 ⟨rfl,hx⟩;replace X:=hid (X.trans (hx.mono X.size));replace B1:=hid (B1.below hx B1.lt);clear hx;go_wp2_with fail
 refine(CB w6).mono ?_;rintro e w7 ⟨rfl,hx⟩;replace X:=hid (X.trans (hx.mono X.size));replace B1:=hid (B1.below hx B1.lt);clear hx;go_wp2_with fail
 refine aH ?_;intro V3 hV;have hb:aa w7 V3:=by rw[hV];exact((Ext.refl w7).alloc _).below
 have kb:ar V3 w7.heap.size #[As C_ 2,As AF (wd sa 0).toNat,As AF (wd sa 1).toNat,As AF (wd sa 2).toNat,As AF (wd sa 3).toNat,As AI 0,As AI 0,An AN 0 0,As C_ 2,As AF (wd sb 0).toNat,As AF (wd sb 1).toNat,As AF (wd sb 2).toNat,As AF (wd sb 3).toNat,As AI 0,As AI 0,An AN 0 0] 97:=by rw[hV];exact ar.new _ _ _
 replace X:=hid (X.trans (hb.mono X.size));replace B1:=hid (B1.below hb B1.lt);have KB:=hid kb;clear hb kb hV;have T2:By (aJ (· <V3.heap.size) V3 (A_ #[As C_ 4,As AF 0,As AF 0,As AF 0,As AF 0,As AI 0,As AI 0,An (AS ⟨w7.heap.size,0,AN⟩) 2 2]) Gz):=hid (by have h5:=aJ.two (LFA V3) (LFB V3) KB rfl 4;rw[bP]at h5;exact h5);clear KB;refine(AL V3 _).mono ?_;rintro e w8 ⟨rfl,hx⟩;replace X:=hid (X.trans (hx.mono X.size));replace B1:=hid (B1.below hx B1.lt);replace T2:=hid (T2.grow hx);clear hx;go_wp2_with fail
 refine(mh _ Gz _ w8 (fun _ h=>h) T2).mono ?_;rintro e w9 ⟨bs1,rfl,ht,hx⟩;clear T2;replace X:=hid (X.trans (hx.mono X.size));replace B1:=hid (B1.below hx B1.lt);have T3:=hid (ht.mono fun b (hb:b<w9.heap.size/\_)=>hb.1);clear ht hx;go_wp2_with fail
 refine(CA w9).mono ?_;rintro e Vz ⟨rfl,hx⟩;replace X:=hid (X.trans (hx.mono X.size));replace B1:=hid (B1.below hx B1.lt);replace T3:=hid (T3.grow hx);clear hx;go_wp2_with fail
 refine(mh _ (uY [97]) _ Vz (fun _ h=>h) (LFA Vz)).mono ?_;rintro e ZZ ⟨bs,rfl,ht,hx⟩;replace X:=hid (X.trans (hx.mono X.size));replace B1:=hid (B1.below hx B1.lt);replace T3:=hid (T3.grow hx);have T4:=hid (ht.mono fun b (hb:b<ZZ.heap.size/\_)=>hb.1);clear ht hx;go_wp2_with fail
 refine aH ?_;intro V4 hV;have hb:aa ZZ V4:=by rw[hV];exact((Ext.refl ZZ).alloc _).below
 have kb:ar V4 ZZ.heap.size #[As C_ 5,As AF 0,As AF 0,As AF 0,As AF 0,As AI 0,As AI (-1),An (AS ⟨bs1,0,AN⟩) 1 1,As C_ 5,As AF 0,As AF 0,As AF 0,As AF 0,As AI 0,As AI (-1),An (AS ⟨bs,0,AN⟩) 1 1] 97:=by rw[hV];exact ar.new _ _ _
 replace X:=hid (X.trans (hb.mono X.size));replace B1:=hid (B1.below hb B1.lt);replace T3:=hid (T3.grow hb);replace T4:=hid (T4.grow hb);have KB:=hid kb;clear hb kb hV;have u1:aJ (· <V4.heap.size) V4 (A_ (aq 5 0 0 (-1) (An (AS ⟨bs1,0,AN⟩) 1 1))) (pK Gz):=by rw[bP];exact T3
 have u2:aJ (· <V4.heap.size) V4 (A_ (aq 5 0 0 (-1) (An (AS ⟨bs,0,AN⟩) 1 1))) (pK (uY [97])):=by rw[bP];exact T4
 have T5:By (aJ (· <V4.heap.size) V4 (A_ #[As C_ 4,As AF 0,As AF 0,As AF 0,As AF 0,As AI 0,As AI 0,An (AS ⟨ZZ.heap.size,0,AN⟩) 2 2]) VD):=hid (by have h5:=aJ.two u1 u2 KB (by rw[bP,bP];rfl) 4;rw[bP]at h5;exact h5);clear u1 u2;clear KB;refine(AL V4 _).mono ?_;rintro e w12 ⟨rfl,hx⟩;replace X:=hid (X.trans (hx.mono X.size));replace B1:=hid (B1.below hx B1.lt);replace T3:=hid (T3.grow hx);replace T4:=hid (T4.grow hx);replace T5:=hid (T5.grow hx);clear hx;clear T3;clear T4;go_wp2_with fail
 refine(O2 w12 _ X T5).mono ?_;rintro e w13 ⟨da2,dc2,db2,de2,dg2,dh2,rfl,hd,hx⟩;clear T5;replace X:=hid (X.trans (hx.mono X.size));replace B1:=hid (B1.below hx B1.lt);have D2:=hid hd.df;clear hd hx;go_wp2_with fail
 refine aH ?_;intro V5 hV;have hb:aa w13 V5:=by rw[hV];exact((Ext.refl w13).alloc _).below
 have kb:ar V5 w13.heap.size #[An da2 3 dc2,An db2 3 de2,An dg2 3 dh2] 29:=by rw[hV];exact ar.new _ _ _
 replace X:=hid (X.trans (hb.mono X.size));replace B1:=hid (B1.below hb B1.lt);replace D2:=hid (D2.below hb);have B2:=hid kb;clear hb kb hV;refine(CM V5 _ D2).mono ?_;rintro e w14 ⟨la,lc,lb,le,lg,lh,rfl,hd,hx⟩;clear D2;clear B2;replace X:=hid (X.trans (hx.mono X.size));replace B1:=hid (B1.below hx B1.lt);clear hd hx;obtain⟨⟨i0,i1,i2⟩,_⟩:=B1.three;clear B1;go_upto_region 5 with fail
 refine ax ?_;intro V5 hV;have hb:aa w14 V5:=by rw[hV];exact((Ext.refl w14).alloc _).below
 have kb:ar V5 w14.heap.size #[An la 1 lc,An lb 1 le,An lg l2 lh] 29:=by rw[hV];exact ar.new _ _ _
 replace i0:=(gh hb i0);replace i1:=(gh hb i1);replace X:=hid (X.trans (hb.mono X.size));obtain⟨⟨j0,j1,j2⟩,_⟩:=kb.three;clear hb kb hV i2 j2;go_wp2_with fail
 refine(FO V5).mono ?_;rintro e w15 ⟨⟨fa,fb,fc,rfl,hd⟩,hx⟩;replace X:=hid (X.trans (hx.mono X.size));have D3:=hid hd;clear hd;clear hx;clear i0 i1 j0 j1;go_wp2_with fail
 refine(BK w15 _ D3).mono ?_;rintro e w16 ⟨pa,pc,rfl,hp,hx⟩;clear D3;replace X:=hid (X.trans (hx.mono X.size));have PR:=hid hp;clear hp hx;go_wp2_with fail
 refine(CA w16).mono ?_;rintro e w17 ⟨rfl,hx⟩;replace X:=hid (X.trans (hx.mono X.size));replace PR:=hid (aj PR hx);clear hx;go_wp2_with fail
 refine(mh _ (uY [97]) _ w17 (fun _ h=>h) (LFA w17)).mono ?_;rintro e w18 ⟨bs,rfl,ht,hx⟩;replace X:=hid (X.trans (hx.mono X.size));replace PR:=hid (aj PR hx);have T6:=hid (ht.mono fun b (hb:b<w18.heap.size/\_)=>hb.1);clear ht hx;go_wp2_with fail
 refine(O3 w18 _ X T6).mono ?_;rintro e w19 ⟨da4,dc4,db4,de4,dg4,dh4,rfl,hd,hx⟩;clear T6;replace X:=hid (X.trans (hx.mono X.size));replace PR:=hid (aj PR hx);have D4:=hid hd.df;clear hd hx;go_wp2_with fail
 refine aH ?_;intro V6 hV;have hb:aa w19 V6:=by rw[hV];exact((Ext.refl w19).alloc _).below
 have kb:ar V6 w19.heap.size #[An da4 2 dc4,An db4 3 de4,An dg4 3 dh4] 29:=by rw[hV];exact ar.new _ _ _
 replace X:=hid (X.trans (hb.mono X.size));replace PR:=hid (aj PR hb);replace D4:=hid (D4.below hb);have B4:=hid kb;clear hb kb hV;refine(CA V6).mono ?_;rintro e w20 ⟨rfl,hx⟩;replace X:=hid (X.trans (hx.mono X.size));replace PR:=hid (aj PR hx);replace D4:=hid (D4.below hx);replace B4:=hid (B4.below hx B4.lt);clear hx;go_wp2_with fail
 refine(CA w20).mono ?_;rintro e w21 ⟨rfl,hx⟩;replace X:=hid (X.trans (hx.mono X.size));replace PR:=hid (aj PR hx);replace D4:=hid (D4.below hx);replace B4:=hid (B4.below hx B4.lt);clear hx;go_wp2_with fail
 refine aH ?_;intro V7 hV;have hb:aa w21 V7:=by rw[hV];exact((Ext.refl w21).alloc _).below
 have kb:ar V7 w21.heap.size #[As C_ 2,As AF (wd sa 0).toNat,As AF (wd sa 1).toNat,As AF (wd sa 2).toNat,As AF (wd sa 3).toNat,As AI 0,As AI 0,An AN 0 0,As C_ 2,As AF (wd sa 0).toNat,As AF (wd sa 1).toNat,As AF (wd sa 2).toNat,As AF (wd sa 3).toNat,As AI 0,As AI 0,An AN 0 0] 97:=by rw[hV];exact ar.new _ _ _
 replace X:=hid (X.trans (hb.mono X.size));replace PR:=hid (aj PR hb);replace D4:=hid (D4.below hb);replace B4:=hid (B4.below hb B4.lt);have KB:=hid kb;clear hb kb hV;have T7:By (aJ (· <V7.heap.size) V7 (A_ #[As C_ 3,As AF 0,As AF 0,As AF 0,As AF 0,As AI 0,As AI 0,An (AS ⟨w21.heap.size,0,AN⟩) 2 2]) (VC [97,97])):=hid (by have h5:=aJ.two (LFA V7) (LFA V7) KB rfl 3;rw[bP]at h5;exact h5);clear KB;refine(KT V7 _).mono ?_;rintro e w22 ⟨rfl,hx⟩;replace X:=hid (X.trans (hx.mono X.size));replace PR:=hid (aj PR hx);replace D4:=hid (D4.below hx);replace B4:=hid (B4.below hx B4.lt);replace T7:=hid (T7.grow hx);clear hx;go_wp2_with fail
 refine(mh _ (VC [97,97]) _ w22 (fun _ h=>h) T7).mono ?_;rintro e w23 ⟨bs,rfl,ht,hx⟩;clear T7;replace X:=hid (X.trans (hx.mono X.size));replace PR:=hid (aj PR hx);replace D4:=hid (D4.below hx);replace B4:=hid (B4.below hx B4.lt);have T8:=hid (ht.mono fun b (hb:b<w23.heap.size/\_)=>hb.1);clear ht hx;go_wp2_with fail
 refine(O4 w23 _ X T8).mono ?_;rintro e w24 ⟨da5,dc5,db5,de5,dg5,dh5,rfl,hd,hx⟩;clear T8;replace X:=hid (X.trans (hx.mono X.size));replace PR:=hid (aj PR hx);replace D4:=hid (D4.below hx);replace B4:=hid (B4.below hx B4.lt);have D5:=hid hd.df;clear hd hx;obtain⟨⟨g0,g1,g2⟩,_⟩:=B4.three;go_upto_region 10 with fail
 refine ax ?_;intro V8 hV;have hb:aa w24 V8:=by rw[hV];exact((Ext.refl w24).alloc _).below
 have kb:ar V8 w24.heap.size #[An da5 2 dc5,An db5 4 de5,An dg5 4 dh5] 29:=by rw[hV];exact ar.new _ _ _
 replace g0:=gh hb g0;replace g1:=gh hb g1;replace g2:=gh hb g2;replace X:=hid (X.trans (hb.mono X.size));replace PR:=hid (aj PR hb);replace D4:=hid (D4.below hb);replace D5:=hid (D5.below hb);obtain⟨⟨h0,h1,h2⟩,_⟩:=kb.three;clear hb kb hV B4;go_wp2_with fail
 refine(CE V8 _ _ D4 D5).mono ?_;rintro e w25 ⟨qa,qc,rfl,hp,hx⟩;clear D4;clear D5;replace X:=hid (X.trans (hx.mono X.size));replace PR:=hid (aj PR hx);have QR:=hid hp;clear hp hx g0 g1 g2 h0 h1 h2;have hst:=AR QR;go_wp2_with fail
 refine aH ?_;intro V9 hV;have hb:aa w25 V9:=by rw[hV];exact((Ext.refl w25).alloc _).below
 have kb:ar V9 w25.heap.size #[As AI 0,As AI 1,As AI 0,As AI 1] 3:=by rw[hV];exact ar.new _ _ _
 replace X:=hid (X.trans (hb.mono X.size));replace PR:=hid (aj PR hb);replace QR:=hid (QR.below hb);have h01:=qC [0,1,0,1] kb rfl rfl;clear hb kb hV hst;refine(JT (l:=[0,1,0,1]) (by decide) V9 _ _ (dc (l:=[0,1,0,1]) PR rfl) h01).mono ?_;rintro e w26 ⟨rfl,hx⟩;clear PR;replace X:=hid (X.trans (hx.mono X.size));replace QR:=hid (QR.below hx);clear hx h01;have hst:=AR QR;have hs2:((⟨#[97]⟩:ByteArray)==⟨#[97]⟩)=Bs:=by kernel_rfl
 go_wp2;go_ret;exact⟨rfl,X⟩
theorem cS.nx {w:AT} {a b c:B'} {d:DF} (h:cS w (A_ #[a,b,c]) d):gT w b d.nx:=by obtain⟨v0,v1,v2,e,_,h1,_⟩:=h;cases e;exact h1
theorem VE {w:AT} {x0 x2:B'} {a:Option DH} {n c s:Nat} {d:DF} (h:cS w (A_ #[x0,An a n c,x2]) d) (hs:s<n) (hn:n=d.nx.length):∃ b o,a=AS ⟨b,o,AN⟩/\n<=c:=by
 obtain⟨us,h1,h2,_⟩:=h.nx;rcases h2 with⟨e,hu⟩ | ⟨b,off,cap,e,hb,hc,_⟩
 ·rw[hu]at h1
  have:d.nx.length=0:=h1.symm;omega
 ·cases e;exact⟨b,off,rfl,hc⟩
theorem zn {d:DF} (h:Rt d) {i j:Nat} (hi:i<(aP d).cl.length) (hj:j<(aP d).cl.length) (hne:i≠j):((aP d).nx.any fun l=>l.getD i 0 != l.getD j 0)=Bs:=by
 obtain⟨s,hs,hd⟩:=zg h hi hj hne;have rt:=jW h;refine List.any_eq_true.2 ⟨_,List.getElem_mem (l:=(aP d).nx) (n:=s) hs,?_⟩;rw[bne_iff_ne];intro e;refine hd ?_;have e2:(aP d).nx.getD s []=(aP d).nx[s]:=by rw[bh,az hs];rfl
 unfold dL;rw[e2];exact congrArg Int.toNat e
theorem sq (v:B') (d:DF) (ok:Bool) (mP:ok=Bs->Rt d/\d.nx.length<=60) {n0 n1 n2:Nat} (h0:n0=d.cl.length) (h1:n1=d.nx.length) (w:AT) (hv:∃ a n c fl,v=A_ #[An a n c,As C_ fl]) (hA:∀ W,aa w W->ah 10 #[] W fun e w'=>e=At (A' Bs)/\aa W w') (hM:∀ W,aa w W->ah 11 #[v] W (Dg n0 n1 n2 ok d W)): ah 3 #[v] w fun e w'=>e=At (A' Bs)/\aa w w':=by
 obtain⟨xa,xn,xc,fl,rfl⟩:=hv;have HA:=hid hA;have HM:=hid hM;have j6:=hid mP;have H0:=hid h0;have H1:=hid h1;clear hA hM mP h0 h1;go_enter Tryz.func3,Tryz.ntmps3;go_upto_region 1 with fail
 refine ax ?_;intro V0 hV;have X:By (aa w V0):=hid (by rw[hV];exact((Ext.refl w).alloc _).below);have BX:By (ar V0 w.heap.size #[An xa xn xc,As C_ fl] 24):=hid (by rw[hV];exact ar.new _ _ _);clear hV;go_wp2_with fail
 refine(HA V0 X).mono ?_;rintro e w1 ⟨rfl,hx⟩;replace X:=hid (X.trans (hx.mono X.size));replace BX:=hid (BX.below hx BX.lt);clear hx;have i0:w1.cell? ⟨w.heap.size,0,AN⟩=AS (An xa xn xc):=BX.cell 0;have i1:w1.cell? ⟨w.heap.size,1,AN⟩=AS (As C_ fl):=BX.cell 1;clear BX;go_wp2_with fail
 refine(HM w1 X).mono ?_;rintro e w2 ⟨d0,dc0,d1,dc1,d2,dc2,rfl,hd,hx⟩;replace X:=hid (X.trans (hx.mono X.size));have DA:=hid hd.df;clear hd hx i0 i1 HA HM;go_upto_region 4 with fail
 refine ax ?_;intro V1 hV;have hb:aa w2 V1:=by rw[hV];exact((Ext.refl w2).alloc _).below
 have kb:ar V1 w2.heap.size #[An d0 n0 dc0,An d1 n1 dc1,An d2 n2 dc2] 29:=by rw[hV];exact ar.new _ _ _
 replace X:=hid (X.trans (hb.mono X.size));replace DA:=hid (DA.below hb);have BA:=hid kb;clear hb kb hV;cases ok with
 | false=>
  clear j6;go_wp2;go_ret;exact⟨rfl,X⟩
 | true=>
  obtain⟨rt,h60⟩:=j6.out rfl;clear j6;obtain⟨p,hp⟩:=ag (aP d);obtain⟨k0,lH⟩:=ag p.cl.length;obtain⟨k1,iK⟩:=ag p.nx.length;obtain⟨k2,hk2⟩:=ag p.mr.length;obtain⟨eb,Cm⟩:=ag (Vv d p);have rp:Rt p:=by rw[hp];exact jW rt
  have VF:aP p=p:=by rw[hp];exact Gd rt
  have hsz:k1<=n1/\k0<=n0:=by rw[iK,lH,hp,H1.out,H0.out];exact Ju rt
  have adK:k1<=60:=by have:=hsz.1;have:=H1.out;omega
  have apQ:k0<=1000000:=by rw[lH];exact rp.UZ.cl
  have apR:1<=k1:=by rw[iK];exact rp.pos
  have CL:By (∀ W v,cS W v d->ah 12 #[v] W (oV k0 k1 k2 0 p W)):=hid fun W v hv=>by rw[hp];exact tA rt (by rw[lH,hp]) (by rw[iK,hp]) (by rw[hk2,hp]) W v hv
  have CP:By (∀ W v,cS W v p->ah 12 #[v] W (oV k0 k1 k2 0 p W)):=hid fun W v hv=>by
   have h:=tA rp (k0:=k0) (k1:=k1) (k2:=k2) (by rw[VF];exact lH) (by rw[VF];exact iK) (by rw[VF];exact hk2) W v hv;rwa[VF]at h
  have ep:Vv p p=Bs:=Vw.2 rfl;have CI:By (∀ W v,cS W v p->ah 13 #[v] W fun e w'=>e=At (B_ #[A' Bs,As AI 0])/\aa W w'):=hid fun W v hv=>by
   have h:=uG rp (k0:=k0) (k1:=k1) (k2:=k2) (by rw[VF];exact lH) (by rw[VF];exact iK) (by rw[VF];exact hk2) W v hv;rwa[VF,ep]at h
  have CW:By (∀ W v,cS W v d->ah 13 #[v] W fun e w'=>e=At (B_ #[A' eb,As AI 0])/\aa W w'):=hid fun W v hv=>by
   have h:=uG rt (k0:=k0) (k1:=k1) (k2:=k2) (by rw[<-hp];exact lH) (by rw[<-hp];exact iK) (by rw[<-hp];exact hk2) W v hv;rwa[<-hp, <-Cm]at h
  have CZ:By (∀ W v,cS W v d->ah 14 #[v] W fun e w'=>e=At (B_ #[As AI k1,As AI k0,As AI 0])/\aa W w'):=hid fun W v hv=>Gu rt (k0:=k0) (k1:=k1) (k2:=k2) (by rw[<-hp];exact lH) (by rw[<-hp];exact iK) (by rw[<-hp];exact hk2) W v hv
  have CR:By (∀ W v,cS W v p->ah 15 #[v] W fun e w'=>∃ a c,e=At (B_ #[An a k1 c,As AI 0])/\w'.ownsRow W.heap.size 3 1 (An a k1 c) k1 ((Bm k1).map cQ)/\aa W w'):=hid fun W v hv=>(uD v p rp rp.UZ W hv).mono fun e w' ⟨u,h1,h2,h3⟩=>by
   have hr:bD p=Bm k1:=by rw[iK,hp];exact Gf rt
   rw[hr,List.length_range]at h2;obtain⟨a,c,rfl⟩:=ownsRow_form h2;exact⟨a,c,h1,h2,h3⟩
  have CG:By (∀ W v,cS W v p->ah 16 #[v] W fun e w'=>e=At (A' Bs)/\aa W w'):=hid fun W v hv=>fp rp v W hv
  have CS:By (∀ W v u,cS W v p->cS W u p->ah 17 #[v,u] W fun e w'=>e=At (A' Bs)/\aa W w'):=hid fun W v u hv hu=>by
   have h:=nT v u p p W hv.e hu.e rp.UZ;rwa[ep]at h
  have CT:By (∀ W v u,cS W v d->cS W u p->ah 17 #[v,u] W fun e w'=>e=At (A' eb)/\aa W w'):=hid fun W v u hv hu=>by
   have h:=nT v u d p W hv.e hu.e rt.UZ;rwa[<-Cm]at h
  have CA:By (∀ W v (s t:Nat),cS W v p->s<k1->t<k1->s≠t->ah 18 #[v,As AI s,As AI t] W fun e w'=>∃ a m c,e=At (B_ #[An a m c,A' C',As AI 0])/\m<=k1/\aa W w'):=hid fun W v s t hv hs ht hne=>by
   have hq:p.nx.length*p.nx.length<=900000:=by rw[<-iK];exact Nat.le_trans (Nat.mul_le_mul adK adK) (by decide)
   have h:=NV rp hq s t (by omega) (by omega) W v hv;have ha:=Gg rt (s:=s) (t:=t) (by rw[<-hp, <-iK];exact hs) (by rw[<-hp, <-iK];exact ht) hne;rw[<-hp, <-iK]at ha;obtain⟨q,Kv,Th⟩:=ha;refine h.mono fun e w' h5=>?_
   unfold Dm at h5;rw[Kv]at h5;obtain⟨a,c,h6,_,h7⟩:=h5;exact⟨a,q.length,c,h6,Th,h7⟩
  have hnk:∀ (i:Nat) (l:List Int),p.nx[i]? =AS l->l.length=k0:=fun i l h=>by
   have hi:=(List.getElem?_eq_some_iff.1 h).1;have h5:=rp.len i hi;rw[bh,h]at h5;rw[lH];exact h5
  have CC:By (∀ W (i j bi bj:Nat) v,gT W v p.nx->i<k0->j<k0->i≠j->W.cell? ⟨bi,0,AN⟩=AS (As AI i)->W.cell? ⟨bj,0,AN⟩=AS (As AI j)->ah 19 #[v,.func (.func 20) #[] #[Cd (AS ⟨bi,0,AN⟩),Cd (AS ⟨bj,0,AN⟩)]] W fun e w'=>e=At (A' Bs)/\aa W w'):=hid fun W i j bi bj v hv hi hj hne ci cj=>by
   have h:=sj 20 #[Cd (AS ⟨bi,0,AN⟩),Cd (AS ⟨bj,0,AN⟩)] (fun l=>l.getD i 0 != l.getD j 0) v p.nx W hv (by omega) (fun args w=>rfl) fun l hl a c W' GR lQ=>by
    obtain⟨q,hq⟩:=List.mem_iff_getElem?.1 hl;have h9:=hnk q l hq;exact JL bi bj i j l a l.length c W' lQ (by omega) (by omega) (gh GR ci) (gh GR cj)
   have h8:=zn rt (i:=i) (j:=j) (by rw[<-hp, <-lH];exact hi) (by rw[<-hp, <-lH];exact hj) hne;rw[<-hp]at h8;rwa[h8]at h
  have GK:=hid iK;have LK:=hid lH;have ahu:¬ ((n1:Int)<k1):=by have:=hsz.1;omega
  have apT:¬ ((n0:Int)<k0):=by have:=hsz.2;omega
  have hbb:(eb != eb)=C':=by cases eb<;>rfl
  clear hp lH iK hk2 Cm VF ep hsz rt hnk H0 H1;obtain⟨⟨i0,i1,i2⟩,_⟩:=BA.three;go_wp2_with fail
  refine(CL V1 _ DA).mono ?_;rintro e w3 ⟨p0,pc0,p1,pc1,p2,pc2,rfl,hd,hx⟩;replace X:=hid (X.trans (hx.mono X.size));replace DA:=hid (DA.below hx);replace BA:=hid (BA.below hx BA.lt);have DP:=hid hd.df;clear hd hx CL;clear i0 i1 i2;go_upto_region 7 with fail
  refine ax ?_;intro V2 hV;have hb:aa w3 V2:=by rw[hV];exact((Ext.refl w3).alloc _).below
  have kb:ar V2 w3.heap.size #[An p0 k0 pc0,An p1 k1 pc1,An p2 k2 pc2] 29:=by rw[hV];exact ar.new _ _ _
  replace X:=hid (X.trans (hb.mono X.size));replace DA:=hid (DA.below hb);replace BA:=hid (BA.below hb BA.lt);replace DP:=hid (DP.below hb);have BP:=hid kb;clear hb kb hV;obtain⟨⟨j0,j1,j2⟩,_⟩:=BP.three;go_wp2_with fail
  refine(CP V2 _ DP).mono ?_;rintro e w4 ⟨q0,qc0,q1,qc1,q2,qc2,rfl,hd,hx⟩;replace X:=hid (X.trans (hx.mono X.size));replace DA:=hid (DA.below hx);replace BA:=hid (BA.below hx BA.lt);replace DP:=hid (DP.below hx);replace BP:=hid (BP.below hx BP.lt);have DQ:=hid hd.df;clear hd hx CP;clear j0 j1 j2;go_upto_region 8 with fail
  refine ax ?_;intro V3 hV;have hb:aa w4 V3:=by rw[hV];exact((Ext.refl w4).alloc _).below
  have kb:ar V3 w4.heap.size #[An q0 k0 qc0,An q1 k1 qc1,An q2 k2 qc2] 29:=by rw[hV];exact ar.new _ _ _
  replace X:=hid (X.trans (hb.mono X.size));replace DA:=hid (DA.below hb);replace BA:=hid (BA.below hb BA.lt);replace DP:=hid (DP.below hb);replace BP:=hid (BP.below hb BP.lt);replace DQ:=hid (DQ.below hb);have BQ:=hid kb;clear hb kb hV;obtain⟨⟨j0,j1,j2⟩,_⟩:=BP.three;go_wp2_with fail
  refine(CI V3 _ DP).mono ?_;rintro e w5 ⟨rfl,hx⟩;replace X:=hid (X.trans (hx.mono X.size));replace DA:=hid (DA.below hx);replace BA:=hid (BA.below hx BA.lt);replace DP:=hid (DP.below hx);replace BP:=hid (BP.below hx BP.lt);replace DQ:=hid (DQ.below hx);replace BQ:=hid (BQ.below hx BQ.lt);clear hx;clear CI;clear j0 j1 j2;obtain⟨⟨i0,i1,i2⟩,_⟩:=BA.three;go_wp2_with fail
  refine(CW w5 _ DA).mono ?_;rintro e w6 ⟨rfl,hx⟩;replace X:=hid (X.trans (hx.mono X.size));replace DA:=hid (DA.below hx);replace BA:=hid (BA.below hx BA.lt);replace DP:=hid (DP.below hx);replace BP:=hid (BP.below hx BP.lt);replace DQ:=hid (DQ.below hx);replace BQ:=hid (BQ.below hx BQ.lt);clear hx;clear CW;clear i0 i1 i2;obtain⟨⟨i0,i1,i2⟩,_⟩:=BA.three;go_wp2_with fail
  refine(CZ w6 _ DA).mono ?_;rintro e w7 ⟨rfl,hx⟩;replace X:=hid (X.trans (hx.mono X.size));replace DA:=hid (DA.below hx);replace BA:=hid (BA.below hx BA.lt);replace DP:=hid (DP.below hx);replace BP:=hid (BP.below hx BP.lt);replace DQ:=hid (DQ.below hx);replace BQ:=hid (BQ.below hx BQ.lt);clear hx;clear CZ;clear i0 i1 i2;obtain⟨⟨j0,j1,j2⟩,_⟩:=BP.three;go_wp2_with fail
  refine(CR w7 _ DP).mono ?_;rintro e w8 ⟨ra,rc,rfl,hr,hx⟩;replace X:=hid (X.trans (hx.mono X.size));replace DA:=hid (DA.below hx);replace BA:=hid (BA.below hx BA.lt);replace DP:=hid (DP.below hx);replace BP:=hid (BP.below hx BP.lt);replace DQ:=hid (DQ.below hx);replace BQ:=hid (BQ.below hx BQ.lt);have RR:=hid hr;clear hr hx CR;clear j0 j1 j2;obtain⟨⟨j0,j1,j2⟩,_⟩:=BP.three;go_wp2_with fail
  refine(CG w8 _ DP).mono ?_;rintro e w9 ⟨rfl,hx⟩;replace X:=hid (X.trans (hx.mono X.size));replace DA:=hid (DA.below hx);replace BA:=hid (BA.below hx BA.lt);replace DP:=hid (DP.below hx);replace BP:=hid (BP.below hx BP.lt);replace DQ:=hid (DQ.below hx);replace BQ:=hid (BQ.below hx BQ.lt);replace RR:=hid (aj RR hx);clear hx;clear CG;clear j0 j1 j2;obtain⟨⟨j0,j1,j2⟩,_⟩:=BP.three;obtain⟨⟨g0,g1,g2⟩,_⟩:=BQ.three;go_wp2_with fail
  refine(CS w9 _ _ DP DQ).mono ?_;rintro e Vz ⟨rfl,hx⟩;replace X:=hid (X.trans (hx.mono X.size));replace DA:=hid (DA.below hx);replace BA:=hid (BA.below hx BA.lt);replace DP:=hid (DP.below hx);replace BP:=hid (BP.below hx BP.lt);replace DQ:=hid (DQ.below hx);replace BQ:=hid (BQ.below hx BQ.lt);replace RR:=hid (aj RR hx);clear hx;clear CS DQ BQ;clear j0 j1 j2 g0 g1 g2;obtain⟨⟨i0,i1,i2⟩,_⟩:=BA.three;obtain⟨⟨j0,j1,j2⟩,_⟩:=BP.three;go_wp2_with fail
  refine(CT Vz _ _ DA DP).mono ?_;rintro e ZZ ⟨rfl,hx⟩;replace X:=hid (X.trans (hx.mono X.size));replace DA:=hid (DA.below hx);replace BA:=hid (BA.below hx BA.lt);replace DP:=hid (DP.below hx);replace BP:=hid (BP.below hx BP.lt);replace RR:=hid (aj RR hx);clear hx;clear CT DA;clear i0 i1 i2 j0 j1 j2;obtain⟨⟨i0,i1,i2⟩,_⟩:=BA.three;obtain⟨⟨j0,j1,j2⟩,_⟩:=BP.three;obtain⟨hN,hNe⟩:=ag DP;clear hN hNe;go_wp2_with fail
  go_loopw [130] (fun iv wr=>∃ s:Nat,s<=k1/\iv=As AI s/\aa ZZ wr) (fun iv _=>k1-(intOf iv).toNat)
  case atStart=>exact⟨0,by omega,rfl,Below.refl _ _⟩
  case round=>
   obtain⟨s,hs,rfl,hx⟩:=hrel;obtain⟨wo,rfl⟩:=ag (wr:AT);clear i0 i1 i2 j0 j1 j2;by_cases hlt:s<k1
   ·skip
    have hss:(s:Int)<k1:=by omega
    clear BA;replace X:=hid (X.trans (hx.mono X.size));replace BP:=hid (BP.below hx BP.lt);replace DP:=hid (DP.below hx);replace RR:=hid (aj RR hx);have XO:=hid hx;clear hx;obtain⟨gr,ur,hra,_,_,ZA,cr,_⟩:=fB RR hlt;obtain rfl:ur=As AI s:=by rw[aO,List.getElem?_range hlt]at ZA;exact(Option.some.inj ZA).symm
    cases hra
    replace cr:wo.cell? ⟨gr,s,AN⟩=AS (As AI s):=by simpa using cr
    have hsr:¬ ((k1:Int)<=s):=by omega
    obtain⟨lx,hlx⟩:∃ l,p.nx[s]? =AS l:=⟨_,az (by rw[<-GK.out];exact hlt)⟩;obtain⟨pb,po,rfl,lL⟩:=VE DP hlt GK;have hsc:s<=pc1:=by omega
    clear hlx lx;obtain⟨⟨j0,j1,j2⟩,_⟩:=BP.three;go_wp2_with fail
    go_loopw [150] (fun iv wr=>∃ t:Nat,t<=s/\iv=As AI t/\aa wo wr) (fun iv _=>s-(intOf iv).toNat)
    case atStart=>exact⟨0,by omega,rfl,Below.refl _ _⟩
    case round=>
     obtain⟨t,ht,rfl,hx⟩:=hrel;obtain⟨wi,rfl⟩:=ag (wr:AT);clear j0 j1 j2 cr;by_cases Oa:t<s
     ·skip
      have htt:(t:Int)<s:=by omega
      have XI:=hid hx;replace X:=hid (X.trans (hx.mono X.size));replace BP:=hid (BP.below hx BP.lt);replace DP:=hid (DP.below hx);clear hx;obtain⟨⟨j0,j1,j2⟩,_⟩:=BP.three;go_wp2_with fail
      refine(CA wi _ s t DP hlt (by omega) (by omega)).mono ?_;rintro e wj ⟨wa,wm,wc,rfl,hm,hx⟩;have XJ:=hid (XI.trans (hx.mono XI.size));have hwm:¬ ((k1:Int)<wm):=by omega
      clear hx j0 j1 j2;go_wp2;go_roundw;case rel=>exact⟨t+1,by omega,by go_num,XJ⟩
      case measure=>simp[intOf];omega
     ·obtain rfl:t=s:=by omega
      have htt:¬ ((t:Int)<t):=by omega
      have XJ:=hid (XO.trans (hx.mono XO.size));clear hx;go_wp2;go_roundw;case rel=>exact⟨_,_,_,_,_,_,_,⟨t+1,by omega,by go_num,XJ⟩,rfl,rfl,rfl,rfl,rfl,rfl,rfl⟩
      case measure=>simp[intOf];omega
   ·obtain rfl:s=k1:=by omega
    have hss:¬ ((s:Int)<s):=by omega
    clear RR BA CA;replace X:=hid (X.trans (hx.mono X.size));replace BP:=hid (BP.below hx BP.lt);replace DP:=hid (DP.below hx);clear hx;obtain⟨⟨j0,j1,j2⟩,_⟩:=BP.three;go_wp2_with fail
    go_loopw [177] (fun iv wr=>∃ i:Nat,i<=k0/\iv=As AI i/\aa wo wr) (fun iv _=>k0-(intOf iv).toNat)
    case atStart=>exact⟨0,by omega,rfl,Below.refl _ _⟩
    case round=>
     obtain⟨i,hi,rfl,hx⟩:=hrel;obtain⟨wp,rfl⟩:=ag (wr:AT);clear j0 j1 j2;by_cases gL:i<k0
     ·skip
      have hii:(i:Int)<k0:=by omega
      have XO:=hid hx;replace X:=hid (X.trans (hx.mono X.size));replace BP:=hid (BP.below hx BP.lt);replace DP:=hid (DP.below hx);clear hx;go_upto_region 30 with fail
      refine ax ?_;intro V9 hV;have hb:aa wp V9:=by rw[hV];exact((Ext.refl wp).alloc _).below
      have BI:By (ar V9 wp.heap.size #[As AI i] 3):=hid (by rw[hV];exact ar.new _ _ _);replace X:=hid (X.trans (hb.mono X.size));replace BP:=hid (BP.below hb BP.lt);replace DP:=hid (DP.below hb);replace XO:=hid (XO.trans (hb.mono XO.size));clear hV hb;have ci:V9.cell? ⟨wp.heap.size,0,AN⟩=AS (As AI i):=BI.cell 0;go_wp2_with fail
      go_loopw [181] (fun jv wr=>∃ j:Nat,j<=i/\jv=As AI j/\aa V9 wr) (fun jv _=>i-(intOf jv).toNat)
      case atStart=>exact⟨0,by omega,rfl,Below.refl _ _⟩
      case round=>
       obtain⟨j,hj,rfl,hx⟩:=hrel;obtain⟨wq,rfl⟩:=ag (wr:AT);clear ci;have XI:=hid hx;replace X:=hid (X.trans (hx.mono X.size));replace BP:=hid (BP.below hx BP.lt);replace DP:=hid (DP.below hx);replace BI:=hid (BI.below hx BI.lt);clear hx;have ci:wq.cell? ⟨wp.heap.size,0,AN⟩=AS (As AI i):=BI.cell 0;by_cases Dt:j<i
       ·skip
        have Tj:(j:Int)<i:=by omega
        clear ci;go_upto_region 33 with fail
        refine ax ?_;intro V10 hV;have hb:aa wq V10:=by rw[hV];exact((Ext.refl wq).alloc _).below
        have BJ:By (ar V10 wq.heap.size #[As AI j] 3):=hid (by rw[hV];exact ar.new _ _ _);replace X:=hid (X.trans (hb.mono X.size));replace BP:=hid (BP.below hb BP.lt);replace DP:=hid (DP.below hb);replace BI:=hid (BI.below hb BI.lt);replace XI:=hid (XI.trans (hb.mono XI.size));clear hV hb;obtain⟨⟨j0,j1,j2⟩,_⟩:=BP.three;go_wp2_with fail
        refine(CC V10 i j _ _ _ (DP.nx) gL (by omega) (by omega) (BI.cell 0) (BJ.cell 0)).mono ?_;rintro e wz ⟨rfl,hx⟩;have XZ:=hid (XI.trans (hx.mono XI.size));clear hx j0 j1 j2;go_wp2;go_roundw;case rel=>exact⟨j+1,by omega,by go_num,XZ⟩
        case measure=>simp[intOf];omega
       ·obtain rfl:j=i:=by omega
        have Tj:¬ ((j:Int)<j):=by omega
        have XZ:=hid (XO.trans (XI.mono XO.size));go_wp2;go_roundw;case rel=>exact⟨j+1,by omega,by go_num,XZ⟩
        case measure=>simp[intOf];omega
     ·obtain rfl:i=k0:=by omega
      have hii:¬ ((i:Int)<i):=by omega
      have XZ:=hid (X.trans (hx.mono X.size));clear hx;go_wp2;go_ret;exact⟨rfl,XZ⟩
theorem uE.shape {w:AT} {v:B'} {l:List (List (Nat×Nat×Nat))} {fl:Nat} (h:uE w v l fl):∃ a n c,v=A_ #[An a n c,As C_ fl]:=by
 obtain⟨u,rfl,h⟩:=h;rcases h with⟨p,c,rfl,_⟩ | ⟨b,off,c,rfl,_⟩
 ·exact⟨_,_,_,rfl⟩
 ·exact⟨_,_,_,rfl⟩
theorem tB (v:B') (l:List (List (Nat×Nat×Nat))) (iZ:l.length<=1000000000000000) (fl:Nat) (nY:fl<256) (w:AT) (h:uE w v l fl) (hT:∀ W,aa w W->nE W): ah 3 #[v] w fun e w'=>e=At (A' Bs)/\aa w w':=by
 obtain⟨a,n,c,hv⟩:=h.shape;have hA:∀ W,aa w W->ah 10 #[] W fun e w'=>e=At (A' Bs)/\aa W w':=fun W hW=>GF W fun V hV=>hT V (hW.trans (hV.mono hW.size))
 rcases Nq l fl nY with⟨d,he,rt,h60⟩ | he
 ·exact sq v d Bs (fun _=>⟨rt,h60⟩) rfl rfl w ⟨_,_,_,_,hv⟩ hA fun W hW=>yj v fl nY l iZ he (fun _=>rt.pos) rfl rfl rfl W (h.below hW) fun V hV=>hT V (hW.trans (hV.mono hW.size))
 ·exact sq v ⟨[],[],[]⟩ C' (fun e=>by cases e) rfl rfl w ⟨_,_,_,_,hv⟩ hA fun W hW=>yj v fl nY l iZ he (fun e=>by cases e) rfl rfl rfl W (h.below hW) fun V hV=>hT V (hW.trans (hV.mono hW.size))
end Go.Proofs.YtjgccapbphadjaaGreatDoor
