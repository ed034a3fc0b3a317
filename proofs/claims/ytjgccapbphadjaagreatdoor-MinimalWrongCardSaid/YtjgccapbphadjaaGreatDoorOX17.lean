/- The law MinimalWrong at any small one, any byte and any integer. -/
import Derived.Test.YtjgccapbphadjaaGreatDoorOX16
import Derived.Deep.CutBlock
set_option maxRecDepth 100000
set_option maxHeartbeats 16000000
open Go.Lib (hid)
open Go.Value renaming slice->An,int->As,tuple->Cd,bool->C_,agg->DH,string->F_
open Option renaming none->AF,some->AS
open Go.Lib renaming hid->AI,bytesWorld->DQ
open Go.IntKind renaming i64->AM,u64->A_,u8->Ft
open Go.Ending renaming returned->AN
open List renaming getElem?_eq_some_iff->AT,replicate->Bs,length_drop->B_,length_replicate->DS,range->D_,getElem?_drop->D',contains_eq_any_beq->EV,getElem?_of_mem->E_,map_replicate->FG,map_map->GO
open Go renaming World->A',Value->Bm,bodyPost_ret->B',TypeId->FF,Addr->GB
open BitVec renaming allOnes->By
open Go.RowKit renaming Hid->C'
open Bool renaming false->DE,true->D0
open Go.World renaming ownsRow->DP
namespace Go.Proofs.YtjgccapbphadjaaGreatDoor
section
open Go Go.RowKit Go.Shelf Go.Maps
def SS (r:Option (List Nat)) (W:A') (e:Ending) (w':A'):Prop:=∃ a c,e=AN (Cd #[An a (r.getD []).length c,C_ (!r.isSome),As AM 0])/\bw en w' (An a (r.getD []).length c) (r.getD [])/\aa W w'
theorem Nv {d:DF} (sm:Sm d) (hr:d.right=DE) (s t:Int) (w:A') (v:Bm) (h:bV w v d): ah 18 #[v,As AM s,As AM t] w fun e w'=>e=AN (Cd #[An AF 0 0,C_ DE,As AM 182])/\aa w w':=by
 have CR:C' (∀ W,aa w W->ah 16 #[v] W fun e w'=>e=AN (C_ DE)/\aa W w'):=AI fun W hW=>eA sm hr v W (h.below hW)
 obtain⟨n0,bX⟩:=ag d.cl.length;obtain⟨n1,cM⟩:=ag d.nx.length;obtain⟨n2,dP⟩:=ag d.mr.length;obtain⟨a0,c0,a1,c1,a2,c2,rfl⟩:=h.form;rw[<-bX, <-cM, <-dP]at h CR ⊢;have H:=AI h;have gS:=AI cM;clear h bX cM dP;go_enter Tryz.func18,Tryz.ntmps18;go_upto_region 1 with fail
 refine aw ?_;intro V hV;have B0:C' (ar V w.heap.size #[An a0 n0 c0,An a1 n1 c1,An a2 n2 c2] 29):=AI (by rw[hV];exact ar.new w _ _);have X0:C' (aa w V):=AI (by rw[hV];exact((Ext.refl w).alloc _).below);clear hV;obtain⟨p0,p1,p2⟩:=aM.fj B0;go_wp2_with fail
 refine(CR V X0).mono ?_;rintro e w1 ⟨rfl,hx⟩;have B1:=AI (B0.below hx B0.lt);have X1:=AI (X0.trans (hx.mono X0.size));clear hx p0 p1 p2 B0 X0 CR;go_wp2;exact B' (v:=Cd #[An AF 0 0,C_ DE,As AM 182]) (by simp[results,Tryz.results18,go_sem]) rfl ⟨rfl,X1⟩
theorem xA {d:DF} (rt:Rt d) (s t:Int) (hst:s<0\/(s=0/\(d.nx.length:Int)<=t)) (w:A') (v:Bm) (h:bV w v d): ah 18 #[v,As AM s,As AM t] w fun e w'=>e=AN (Cd #[An AF 0 0,C_ DE,As AM 2])/\aa w w':=by
 have ai1:=rt.pos;have CR:C' (∀ W,aa w W->ah 16 #[v] W fun e w'=>e=AN (C_ D0)/\aa W w'):=AI fun W hW=>eW rt v W (h.below hW)
 obtain⟨n0,bX⟩:=ag d.cl.length;obtain⟨n1,cM⟩:=ag d.nx.length;obtain⟨n2,dP⟩:=ag d.mr.length;obtain⟨a0,c0,a1,c1,a2,c2,rfl⟩:=h.form;rw[<-bX, <-cM, <-dP]at h CR ⊢;have H:=AI h;have gS:=AI cM;rw[<-cM]at hst ai1;clear h bX cM dP;go_enter Tryz.func18,Tryz.ntmps18;go_upto_region 1 with fail
 refine aw ?_;intro V hV;have B0:C' (ar V w.heap.size #[An a0 n0 c0,An a1 n1 c1,An a2 n2 c2] 29):=AI (by rw[hV];exact ar.new w _ _);have X0:C' (aa w V):=AI (by rw[hV];exact((Ext.refl w).alloc _).below);clear hV;obtain⟨p0,p1,p2⟩:=aM.fj B0;go_wp2_with fail
 refine(CR V X0).mono ?_;rintro e w1 ⟨rfl,hx⟩;have B1:=AI (B0.below hx B0.lt);have X1:=AI (X0.trans (hx.mono X0.size));clear hx p0 p1 p2 B0 X0 CR;obtain⟨p0,p1,p2⟩:=aM.fj B1;rcases hst with hs | ⟨rfl,ht⟩
 ·have d1:decide (s<0)=true:=decide_eq_true hs
  go_wp2;exact B' (v:=Cd #[An AF 0 0,C_ DE,As AM 2]) (by simp[results,Tryz.results18,go_sem]) rfl ⟨rfl,X1⟩
 ·have d1:decide ((0:Int)<0)=false:=decide_eq_false (by omega)
  have d2:decide ((n1:Int)<=0)=false:=decide_eq_false (by omega);have d3:decide (t<0)=false:=decide_eq_false (by omega);have d4:decide ((n1:Int)<=t)=true:=decide_eq_true ht;have d5:¬ ((n1:Int)<=0):=by omega
  have d6:¬ (n1=0):=by omega
  go_wp2;exact B' (v:=Cd #[An AF 0 0,C_ DE,As AM 2]) (by simp[results,Tryz.results18,go_sem]) rfl ⟨rfl,X1⟩
theorem Jg {a:DF} (b:DF) (sm:Sm a) (hr:a.right=DE) (w:A') (v v':Bm) (h:bV w v a) (h':bV w v' b): ah 32 #[v,v'] w fun e w'=>e=AN (Cd #[An AF 0 0,C_ DE,As AM 182])/\aa w w':=by
 have CA:C' (∀ W,aa w W->ah 16 #[v] W fun e w'=>e=AN (C_ DE)/\aa W w'):=AI fun W hW=>eA sm hr v W (h.below hW)
 obtain⟨n0,bX⟩:=ag a.cl.length;obtain⟨n1,cM⟩:=ag a.nx.length;obtain⟨n2,dP⟩:=ag a.mr.length;obtain⟨m0,nZ⟩:=ag b.cl.length;obtain⟨m1,lA⟩:=ag b.nx.length;obtain⟨m2,mE⟩:=ag b.mr.length;obtain⟨a0,c0,a1,c1,a2,c2,rfl⟩:=h.form;obtain⟨b0,d0,b1,d1,b2,d2,rfl⟩:=h'.form;rw[<-bX, <-cM, <-dP]at CA ⊢;rw[<-nZ, <-lA, <-mE];clear h h' bX cM dP nZ lA mE;go_enter Tryz.func32,Tryz.ntmps32;go_upto_region 1 with fail
 refine aw ?_;intro V hV;have B0:C' (ar V w.heap.size #[An a0 n0 c0,An a1 n1 c1,An a2 n2 c2] 29):=AI (by rw[hV];exact(ar.new w _ _).alloc _);have R0:C' (ar V (w.heap.size+1) #[An b0 m0 d0,An b1 m1 d1,An b2 m2 d2] 29):=AI (by rw[hV];exact(ar.new (w.alloc _) _ _).at (by simp));have X0:C' (aa w V):=AI (by rw[hV];exact(((Ext.refl w).alloc _).alloc _).below);clear hV;obtain⟨p0,p1,p2⟩:=aM.fj B0;go_wp2_with fail
 refine(CA V X0).mono ?_;rintro e w1 ⟨rfl,hx⟩;have B1:=AI (B0.below hx B0.lt);have R1:=AI (R0.below hx R0.lt);have X1:=AI (X0.trans (hx.mono X0.size));clear hx p0 p1 p2 B0 R0 X0 CA;go_wp2;exact B' (v:=Cd #[An AF 0 0,C_ DE,As AM 182]) (by simp[results,Tryz.results32,go_sem]) rfl ⟨rfl,X1⟩
theorem Jh {a b:DF} (ra:Rt a) (sm:Sm b) (hr:b.right=DE) (w:A') (v v':Bm) (h:bV w v a) (h':bV w v' b): ah 32 #[v,v'] w fun e w'=>e=AN (Cd #[An AF 0 0,C_ DE,As AM 182])/\aa w w':=by
 have CA:C' (∀ W,aa w W->ah 16 #[v] W fun e w'=>e=AN (C_ D0)/\aa W w'):=AI fun W hW=>eW ra v W (h.below hW)
 have CB:C' (∀ W,aa w W->ah 16 #[v'] W fun e w'=>e=AN (C_ DE)/\aa W w'):=AI fun W hW=>eA sm hr v' W (h'.below hW)
 obtain⟨n0,bX⟩:=ag a.cl.length;obtain⟨n1,cM⟩:=ag a.nx.length;obtain⟨n2,dP⟩:=ag a.mr.length;obtain⟨m0,nZ⟩:=ag b.cl.length;obtain⟨m1,lA⟩:=ag b.nx.length;obtain⟨m2,mE⟩:=ag b.mr.length;obtain⟨a0,c0,a1,c1,a2,c2,rfl⟩:=h.form;obtain⟨b0,d0,b1,d1,b2,d2,rfl⟩:=h'.form;rw[<-bX, <-cM, <-dP]at CA ⊢;rw[<-nZ, <-lA, <-mE]at CB ⊢;clear h h' bX cM dP nZ lA mE;go_enter Tryz.func32,Tryz.ntmps32;go_upto_region 1 with fail
 refine aw ?_;intro V hV;have B0:C' (ar V w.heap.size #[An a0 n0 c0,An a1 n1 c1,An a2 n2 c2] 29):=AI (by rw[hV];exact(ar.new w _ _).alloc _);have R0:C' (ar V (w.heap.size+1) #[An b0 m0 d0,An b1 m1 d1,An b2 m2 d2] 29):=AI (by rw[hV];exact(ar.new (w.alloc _) _ _).at (by simp));have X0:C' (aa w V):=AI (by rw[hV];exact(((Ext.refl w).alloc _).alloc _).below);clear hV;obtain⟨p0,p1,p2⟩:=aM.fj B0;go_wp2_with fail
 refine(CA V X0).mono ?_;rintro e w1 ⟨rfl,hx⟩;have B1:=AI (B0.below hx B0.lt);have R1:=AI (R0.below hx R0.lt);have X1:=AI (X0.trans (hx.mono X0.size));clear hx p0 p1 p2 B0 R0 X0 CA;obtain⟨r0,r1,r2⟩:=aM.fj R1;go_wp2_with fail
 refine(CB w1 X1).mono ?_;rintro e w2 ⟨rfl,hx⟩;have B2:=AI (B1.below hx B1.lt);have R2:=AI (R1.below hx R1.lt);have X2:=AI (X1.trans (hx.mono X1.size));clear hx r0 r1 r2 B1 R1 X1 CB;go_wp2;exact B' (v:=Cd #[An AF 0 0,C_ DE,As AM 182]) (by simp[results,Tryz.results32,go_sem]) rfl ⟨rfl,X2⟩
theorem Nw {a b:DF} (ra:Rt a) (rb:Rt b) (hM:a.nx.length*b.nx.length<=900000) (w:A') (v v':Bm) (h:bV w v a) (h':bV w v' b): ah 32 #[v,v'] w (SS (jW a b (0,0)) w):=by
 have CA:C' (∀ W,aa w W->ah 16 #[v] W fun e w'=>e=AN (C_ D0)/\aa W w'):=AI fun W hW=>eW ra v W (h.below hW)
 have CB:C' (∀ W,aa w W->ah 16 #[v'] W fun e w'=>e=AN (C_ D0)/\aa W w'):=AI fun W hW=>eW rb v' W (h'.below hW)
 have CL:C' (∀ W,aa w W->ah 68 #[v,v',DH #[As AM (0:Nat),As AM (0:Nat)]] W (PartsAt a b (0,0) W)):=AI fun W hW=>Jf ra rb (0,0) ⟨ra.pos,rb.pos⟩ hM W v v' (h.below hW) (h'.below hW)
 obtain⟨n0,bX⟩:=ag a.cl.length;obtain⟨n1,cM⟩:=ag a.nx.length;obtain⟨n2,dP⟩:=ag a.mr.length;obtain⟨m0,nZ⟩:=ag b.cl.length;obtain⟨m1,lA⟩:=ag b.nx.length;obtain⟨m2,mE⟩:=ag b.mr.length;obtain⟨a0,c0,a1,c1,a2,c2,rfl⟩:=h.form;obtain⟨b0,d0,b1,d1,b2,d2,rfl⟩:=h'.form;rw[<-bX, <-cM, <-dP]at CA CL ⊢;rw[<-nZ, <-lA, <-mE]at CB CL ⊢;obtain⟨r,hr⟩:=ag (jW a b (0,0));unfold PartsAt at CL;rw[<-hr]at CL ⊢;clear hr;clear h h' bX cM dP nZ lA mE;go_enter Tryz.func32,Tryz.ntmps32;go_upto_region 1 with fail
 refine aw ?_;intro V hV;have B0:C' (ar V w.heap.size #[An a0 n0 c0,An a1 n1 c1,An a2 n2 c2] 29):=AI (by rw[hV];exact(ar.new w _ _).alloc _);have R0:C' (ar V (w.heap.size+1) #[An b0 m0 d0,An b1 m1 d1,An b2 m2 d2] 29):=AI (by rw[hV];exact(ar.new (w.alloc _) _ _).at (by simp));have X0:C' (aa w V):=AI (by rw[hV];exact(((Ext.refl w).alloc _).alloc _).below);clear hV;obtain⟨p0,p1,p2⟩:=aM.fj B0;go_wp2_with fail
 refine(CA V X0).mono ?_;rintro e w1 ⟨rfl,hx⟩;have B1:=AI (B0.below hx B0.lt);have R1:=AI (R0.below hx R0.lt);have X1:=AI (X0.trans (hx.mono X0.size));clear hx p0 p1 p2 B0 R0 X0 CA;obtain⟨r0,r1,r2⟩:=aM.fj R1;go_wp2_with fail
 refine(CB w1 X1).mono ?_;rintro e w2 ⟨rfl,hx⟩;have B2:=AI (B1.below hx B1.lt);have R2:=AI (R1.below hx R1.lt);have X2:=AI (X1.trans (hx.mono X1.size));clear hx r0 r1 r2 B1 R1 X1 CB;obtain⟨p0,p1,p2⟩:=aM.fj B2;obtain⟨r0,r1,r2⟩:=aM.fj R2;go_wp2_with fail
 refine(CL w2 X2).mono ?_;rintro e w3 ⟨u,rfl,hu,hx⟩;obtain⟨ua,uc,rfl⟩:=hu.form;have HU:=AI hu;have X3:=AI (X2.trans (hx.mono X2.size));obtain⟨ln,Cr⟩:=ag ((r.getD []).length);rw[<-Cr]at HU ⊢;obtain⟨q,hq⟩:=ag r.isSome;rw[<-hq];have QF:=AI Cr;have HQ:=AI hq;clear hu hx Cr hq p0 p1 p2 r0 r1 r2 CL;go_wp2;exact B' (v:=Cd #[An ua ln uc,C_ (!q),As AM 0]) (by simp[results,Tryz.results32,go_sem]) rfl ⟨ua,uc,by rw[<-QF.out, <-HQ.out],by rw[<-QF.out];exact HU,X3⟩
theorem SU (a b c:BS) (h:(!ltOf aW b a)=D0) (k:(!ltOf aW c b)=D0):(!ltOf aW c a)=true:=by
 simp only[Bool.not_eq_true']at*;cases Yb:ltOf aW c a with
 | false=>rfl
 | true=>
  exfalso;rw[<-Bool.not_eq_true,eN]at h k;rw[eN]at Yb;rcases nY a b with e | e | e
  ·subst e;exact k Yb
  ·exact k (ig Yb e)
  ·exact h e
theorem SV (a b:BS):((!ltOf aW b a) || (!ltOf aW a b))=true:=by
 cases XZ:ltOf aW b a with
 | false=>rfl
 | true=>
  cases hab:ltOf aW a b with
  | false=>rfl
  | true=>
   rw[eN]at XZ hab;exact absurd (ig XZ hab) (jE b)
theorem fF {l L:List BS} (hp:(bc l).isPerm L=D0) (hs:decide (L.Pairwise fun x y=>(!ltOf aW y x)=D0)=D0):partsOf l=L:=
 List.Perm.eq_of_pairwise (fun a b _ _ h k=>abJ a b (by simpa using k) (by simpa using h)) (List.pairwise_mergeSort SU SV _) (of_decide_eq_true hs) ((List.mergeSort_perm _ _).trans (List.isPerm_iff.1 hp))
def yy (l:List Nat):BS:=pK fun c=>l.contains c
theorem Cg {ps:List PT} {P:List BS} {f:Nat} {st:List (List (List Int))×List (List Nat)} (hP:partsOf (cw ps)=P) (hl:¬64<ps.length) (ho:ps.all PT.ok=D0) (h1:1<=f) (h2:f<=4000) (hst:ji f (fun row k=>eQ ps row (lb P k)) P.length (lK ps) f=AS st):kR ps f=(⟨P,st.2.map fun r=>r.map Int.ofNat,st.1.map (dH ps)⟩,0):=by subst hP;unfold kR si;rw[if_neg hl,if_neg (by rw[ho];decide),if_neg (by omega),Int.toNat_natCast,if_neg (by omega),hst]
def uw (l:List Nat):RX:=.nd 2 (yy l) 0 0 []
def VD (l:List Nat):RX:=.nd 3 0 0 0 (l.map fun c=>uw [c])
def pI (t:RX):RX:=.nd 5 0 0 (-1) [t]
def Kz (t:RX) (b:Bool):PT:=⟨t.nf,b,0⟩
end
section
open Go Go.RowKit
set_option maxRecDepth 100000
def aee (l:List RX):RX:=.nd 4 0 0 0 l
def FP:RX:=aee [uw [97],uw [98]]
def VE:RX:=aee [pI FP,pI (uw [97])]
def tAA:RX:=pI (VD [97,97])
def cl3:List BS:=[~~~(yy [97,98]),yy [97],yy [98]]
def DW:List BS:=[~~~(yy [97]),yy [97]]
def Nx:DF:=⟨cl3,[[1,2,3],[1,1,1],[1,1,1],[1,1,1]],[[],[],[0],[0]]⟩
def FQ:DF:=⟨cl3,[[0,1,2],[0,1,2],[0,1,2]],[[0],[0],[0]]⟩
def SY:DF:=⟨DW,[[1,2],[1,1],[1,2]],[[0],[],[0]]⟩
def FT:DF:=⟨DW,[[1,2],[1,1],[1,3],[1,2]],[[0],[],[],[0]]⟩
theorem aef:kR [Kz FP D0] 9=(Nx,0):=
 (Cg (P:=cl3) (f:=9) (st:=([[[-1]],[[]],[[0]],[[1]]],[[1,2,3],[1,1,1],[1,1,1],[1,1,1]])) (fF (by kernel_rfl) (by kernel_rfl)) (by decide) (by kernel_rfl) (by decide) (by decide) (by kernel_rfl)).trans (by kernel_rfl)
theorem aeg:kR [Kz VE DE] 99=(FQ,0):=
 (Cg (P:=cl3) (f:=99) (st:=([[[-1]],[[-1,0,2]],[[-1,1]]],[[0,1,2],[0,1,2],[0,1,2]])) (fF (by kernel_rfl) (by kernel_rfl)) (by decide) (by kernel_rfl) (by decide) (by decide) (by kernel_rfl)).trans (by kernel_rfl)
theorem aeh:kR [Kz (pI (uw [97])) D0] 9=(SY,0):=
 (Cg (P:=DW) (f:=9) (st:=([[[-1]],[[]],[[0]]],[[1,2],[1,1],[1,2]])) (fF (by kernel_rfl) (by kernel_rfl)) (by decide) (by kernel_rfl) (by decide) (by decide) (by kernel_rfl)).trans (by kernel_rfl)
theorem aap:kR [Kz tAA D0] 9=(FT,0):=
 (Cg (P:=DW) (f:=9) (st:=([[[-1]],[[]],[[0]],[[1]]],[[1,2],[1,1],[1,3],[1,2]])) (fF (by kernel_rfl) (by kernel_rfl)) (by decide) (by kernel_rfl) (by decide) (by decide) (by kernel_rfl)).trans (by kernel_rfl)
theorem Xa:(dJ Nx).nx.length=3/\(dJ Nx).cl.length=2:=by constructor<;>kernel_rfl
theorem Xb:(dJ FQ).nx.length=1/\(dJ FQ).cl.length=1:=by constructor<;>kernel_rfl
theorem p_a:jW SY FT (0,0)=AS [97]:=(Nq (P:=DW) (fF (by kernel_rfl) (by kernel_rfl)) (0,0)).trans (by kernel_rfl)
theorem aei:Nx.right=true:=((cX _).2 ⟨by decide,by decide,by decide,fF (by kernel_rfl) (by kernel_rfl),by decide,by decide,by decide⟩)
theorem aej:FQ.right=true:=((cX _).2 ⟨by decide,by decide,by decide,fF (by kernel_rfl) (by kernel_rfl),by decide,by decide,by decide⟩)
theorem aek:SY.right=true:=((cX _).2 ⟨by decide,by decide,by decide,fF (by kernel_rfl) (by kernel_rfl),by decide,by decide,by decide⟩)
theorem aaq:FT.right=true:=((cX _).2 ⟨by decide,by decide,by decide,fF (by kernel_rfl) (by kernel_rfl),by decide,by decide,by decide⟩)
theorem aar:ky.right=true:=((cX _).2 ⟨by decide,by decide,by decide,fF (by kernel_rfl) (by kernel_rfl),by decide,by decide,by decide⟩)
end
section
open Go Go.RowKit Go.Shelf Go.Maps
theorem yz (W:A') (e:FF) (s:ByteArray):aa W (DQ W e s):=by refine⟨?_,?_,?_,by rw[Lib.bytesWorld_size];omega,fun k hk=>Lib.bytesWorld_at_old W e s k hk⟩<;>(unfold DQ World.freeze;split<;>rfl)
theorem Ny (k:Nat) (s:BS) (mn mx:Int) (a:Bm) {i:Nat} (hi:i<4):(aq k s mn mx a)[1+i]? =AS (As A_ (wd s i).toNat):=by
 match i,hi with
 | 0,_=>rfl
 | 1,_=>rfl
 | 2,_=>rfl
 | 3,_=>rfl
theorem Ji {s t:BS} {q:Nat} {x:Bm} (hq4:q<4) (h:(encS s).setIfInBounds q x=encS t) (k:Nat) (mn mx:Int) (a:Bm):(aq k s mn mx a).setIfInBounds (1+q) x=aq k t mn mx a:=by unfold encS at h;unfold aq;have h0:=congrArg (·[0]?) h;have h1:=congrArg (·[1]?) h;have h2:=congrArg (·[2]?) h;have h3:=congrArg (·[3]?) h;clear h;rcases(show q=0\/q=1\/q=2\/q=3 by omega)with rfl | rfl | rfl | rfl<;>(simp at h0 h1 h2 h3;simp[h0,h1,h2,h3])
theorem FU (k:Nat) (s:BS) (mn mx:Int) (a:Bm) {c:Nat} (hc:c<256):(aq k s mn mx a).setIfInBounds (1+c/64) (As A_ (bits .or A_ (wd s (c/64)).toNat (A_.wrap (2^ (c%64)))))=aq k (mP s c) mn mx a:=Ji (by omega) (uU s hc) k mn mx a
theorem tU (s:ByteArray) (l:List Nat) (mm:s.data.toList.map (·.toNat)=l) (hn:l.length<=1000000) (w:A'): ah 55 #[F_ s] w fun e w'=>e=AN (DH (aq 2 (pK fun c=>l.contains c) 0 0 (An AF 0 0)))/\aa w w':=by
 obtain⟨u,hu⟩:=ag (pK fun c=>l.contains c);rw[<-hu];have HU:=AI hu;have hcv:∀ W:A',(convert 9 44 (F_ s)).run Tryz.prog W=.ok (An (AS ⟨W.heap.size,0,AF⟩) s.size (grownCap W s.size 0 5)) (DQ W 5 s):=fun W=>Lib.run_convert_string_bytes W 9 44 5 s Tryz.underlying9 Tryz.underlying44 Tryz.underlying5
 have hsz:s.size=l.length:=by rw[<-mm];simp
 have HCE:C' (∀ (W:A') (i x:Nat),l[i]? =AS x->(DQ W 5 s).cell? ⟨W.heap.size,i,AF⟩=AS (As Ft x)):=AI fun W i x h=>by
  have hi:i<s.size:=by rw[hsz];exact(AT.1 h).1
  rw[Lib.bytesWorld_cell W 5 s i hi];rw[<-mm,aN]at h;cases hq:s.data.toList[i]? with
  | none=>rw[hq]at h;cases h
  | some b=>rw[hq]at h;cases h;rw[bB,hq];rfl
 have HL:C' (∀ c∈l,c<256):=AI fun c hc=>by
  rw[<-mm]at hc;obtain⟨b,_,rfl⟩:=List.mem_map.1 hc;exact b.toNat_lt
 rw[hsz]at hcv;have Ur:C' (∀ W:A',aa W (DQ W 5 s)):=AI fun W=>yz W _ s
 clear hu mm hsz;go_enter Tryz.func55,Tryz.ntmps55;go_upto_region 2 with fail
 refine aw ?_;intro V hV;have R0:C' (ar V w.heap.size eG 97):=by rw[hV];exact AI ((ar.new _ _ _).alloc _)
 have B0:C' (ar V (w.heap.size+1) (aq 2 0 0 0 (An AF 0 0)) 97):=by rw[hV,bP];exact AI ((ar.new _ _ _).at (by simp))
 have X0:C' (aa w V):=by rw[hV];exact AI (((Ext.refl w).alloc _).alloc _).below
 have yg:V.heap.size=w.heap.size+2:=by rw[hV];simp
 have qu:=AI yg;clear hV yg;go_wp2;go_loopw [10] (fun i wr=>∃ (k:Nat) (s':BS),k<=l.length/\i=As AM k/\(∀ c,c<256->s'.getLsbD c=(l.take k).contains c)/\ar wr (w.heap.size+1) (aq 2 s' 0 0 (An AF 0 0)) 97/\ar wr w.heap.size eG 97/\(∀ i x:Nat,l[i]? =AS x->wr.cell? ⟨V.heap.size,i,AF⟩=AS (As Ft x))/\aa w wr) (fun i _=>l.length-(intOf i).toNat);case atStart=>
  have hb:=Ur.out V;exact⟨0,0,by omega,rfl,fun c hc=>by simp,B0.below hb B0.lt,R0.below hb R0.lt,fun i x h=>HCE V i x h,X0.trans (hb.mono X0.size)⟩
 case round=>
  obtain⟨k,s',hk,rfl,hs,hB,hR,hce,hx⟩:=hrel;obtain⟨wo,rfl⟩:=ag (wr:A');have HS:=AI hs;have HCR:=AI hce;clear hs hce;by_cases hlt:k<l.length
  ·obtain⟨c,od⟩:∃ c,l[k]? =AS c:=⟨l[k],aB hlt⟩
   have kP:c<256:=HL.out c (ax od);have hcc:wo.cell? ⟨V.heap.size,k,AF⟩=AS (As Ft c):=HCR.out k c od;have hw:(aq 2 s' 0 0 (An AF 0 0))[1+c/64]? =AS (As A_ (wd s' (c/64)).toNat):=Ny _ _ _ _ _ (by omega);have hc1:wo.cell? ⟨w.heap.size+1,1+c/64,AF⟩=AS (As A_ (wd s' (c/64)).toNat):=(hB.cell _).trans hw;have hf:=hB.frozen (1+c/64);have er:l.take (k+1)=l.take k++ [c]:=by rw[List.take_add_one,od];rfl
   have HT:=AI er;have HB:=AI hB;have HR:=AI hR;have HX:=AI hx;have ed:(k:Int)<l.length:=by omega
   clear hB hR hx hw er od Ur hcv;go_wp2;go_roundw;case rel=>
    refine⟨k+1,mP s' c,by omega,by go_num,fun d hd=>?_,?_,?_,fun i x h=>?_,?_⟩
    ·rw[kO s' kP,HS.out d hd,HT.out,EV,EV,List.any_append]
     simp
    ·rw[<-FU 2 s' 0 0 _ kP];exact HB.set _ _
    ·exact HR.other (by simp) _
    ·rw[cell_far _ _ _ _ (by have:=qu.out;simp;omega)];exact HCR i x h
    ·exact HX.trans (((ae.refl (· <w.heap.size) _).setCell (p:=⟨w.heap.size+1,1+c/64,AF⟩) (fun h=>by have h':w.heap.size+1<w.heap.size:=h;omega) _).below)
   case measure=>simp[intOf];omega
  ·have QT:s'=u:=by rw[HU.out];exact BS.Jq fun c hc=>by rw[HS.out c hc,List.take_of_length_le (by omega)]
   subst QT;obtain rfl:k=l.length:=by omega
   have HR:=AI hR;have HX:=AI hx;have ed:¬ ((l.length:Int)<l.length):=by omega
   obtain⟨c0,c1,c2,c3,c4,c5,c6,c7⟩:=hB.eight;clear hB hR hx hcv Ur;go_wp2_with (refine wpList_store_row rfl 97 (.tmp 2) (.tmp 26) rfl w.heap.size (aq 2 s' 0 0 (An AF 0 0)) rfl rfl 97 eG HR (cW _ _ _ _ _) rfl (kq _ _ _ _ _ _ _) ?_;refine Hid.out ?_);refine AI ?_;obtain⟨V3,cP⟩:=ag (wo.setRow w.heap.size (aq 2 s' 0 0 (An AF 0 0)));rw[<-cP];have R9:C' (ar V3 w.heap.size (aq 2 s' 0 0 (An AF 0 0)) 97):=by rw[cP];exact AI HR.setRow
   have X9:aa w V3:=by rw[cP];exact HX.trans ((bG wo w.heap.size _).mono fun x (hx:x<w.heap.size)=>by show x≠_;omega:ae (· <w.heap.size) wo _).below
   clear cP;go_wp2;obtain⟨m0,m1,m2,m3,m4,m5,m6,m7⟩:=R9.eight;exact B' (v:=DH (aq 2 s' 0 0 (An AF 0 0))) (by simp[results,Tryz.results55,aq,go_sem,m0,m1,m2,m3,m4,m5,m6,m7]) rfl ⟨rfl,X9⟩
theorem Nz (p:Option GB) (n c:Nat) (w:A'): ah 54 #[An p n c] w fun e w'=>e=AN (DH (aq 4 0 0 0 (An p n c)))/\aa w w':=by
 rw[bP];go_enter Tryz.func54,Tryz.ntmps54;go_wp2;refine aQ ?_;intro V hV;have R1:C' (ar V w.heap.size #[As Ft 4,As A_ 0,As A_ 0,As A_ 0,As A_ 0,As AM 0,As AM 0,An p n c] 97):=by rw[hV];exact AI (ar.new _ _ _)
 have X1:C' (aa w V):=by rw[hV];exact AI ((Ext.refl w).alloc _).below
 clear hV;obtain⟨m0,m1,m2,m3,m4,m5,m6,m7⟩:=R1.eight;exact B' (v:=DH #[As Ft 4,As A_ 0,As A_ 0,As A_ 0,As A_ 0,As AM 0,As AM 0,An p n c]) (by simp[results,Tryz.results54,go_sem,m0,m1,m2,m3,m4,m5,m6,m7]) rfl ⟨rfl,X1⟩
theorem NA (p:Option GB) (n c:Nat) (w:A'): ah 58 #[An p n c] w fun e w'=>e=AN (DH (aq 3 0 0 0 (An p n c)))/\aa w w':=by
 rw[bP];go_enter Tryz.func58,Tryz.ntmps58;go_wp2;refine aQ ?_;intro V hV;have R1:C' (ar V w.heap.size #[As Ft 3,As A_ 0,As A_ 0,As A_ 0,As A_ 0,As AM 0,As AM 0,An p n c] 97):=by rw[hV];exact AI (ar.new _ _ _)
 have X1:C' (aa w V):=by rw[hV];exact AI ((Ext.refl w).alloc _).below
 clear hV;obtain⟨m0,m1,m2,m3,m4,m5,m6,m7⟩:=R1.eight;exact B' (v:=DH #[As Ft 3,As A_ 0,As A_ 0,As A_ 0,As A_ 0,As AM 0,As AM 0,An p n c]) (by simp[results,Tryz.results58,go_sem,m0,m1,m2,m3,m4,m5,m6,m7]) rfl ⟨rfl,X1⟩
theorem l6 (v:Bm) (t:RX) (F:Nat->Prop) (w:A') (hF:∀ x,F x->x<w.heap.size) (h:aH F w v t): ah 56 #[v] w fun e w'=>∃ b,e=AN (DH #[As Ft 5,As A_ 0,As A_ 0,As A_ 0,As A_ 0,As AM 0,As AM (-1),An (AS ⟨b,0,AF⟩) 1 1])/\aH (fun x=>x<w'.heap.size/\(F x\/w.heap.size<=x)) w' (DH #[As Ft 5,As A_ 0,As A_ 0,As A_ 0,As A_ 0,As AM 0,As AM (-1),An (AS ⟨b,0,AF⟩) 1 1]) (pI t)/\aa w w':=by
 obtain⟨p,c,rfl⟩:=h.form;have H:=AI h;obtain⟨k,hk⟩:=ag t.kind;obtain⟨nl,qE⟩:=ag t.subs.length;obtain⟨st,hst⟩:=ag t.set;obtain⟨tn,sK⟩:=ag t.mn;obtain⟨tx,J3⟩:=ag t.mx;rw[<-hk, <-qE, <-hst, <-sK, <-J3]at H ⊢;clear h hk qE hst sK J3;unfold aq;go_enter Tryz.func56,Tryz.ntmps56;go_wp2;refine aQ ?_;intro V hV;have B2:C' (ar V (w.heap.size+1+1) (aq k st tn tx (An p nl c)) 97):=by rw[hV];exact AI ((ar.new _ _ _).at (by simp))
 have R1:C' (ar V (w.heap.size+1) #[As Ft 5,As A_ 0,As A_ 0,As A_ 0,As A_ 0,As AM 0,As AM (-1),An (AS ⟨w.heap.size+1+1,0,AF⟩) 1 1] 97):=by rw[hV];exact AI (((ar.new _ _ _).at (by simp)).alloc _)
 have X1:C' (aa w V):=by rw[hV];exact AI ((((Ext.refl w).alloc _).alloc _).alloc _).below
 clear hV;obtain⟨m0,m1,m2,m3,m4,m5,m6,m7⟩:=R1.eight;refine B' (v:=DH #[As Ft 5,As A_ 0,As A_ 0,As A_ 0,As A_ 0,As AM 0,As AM (-1),An (AS ⟨w.heap.size+1+1,0,AF⟩) 1 1]) (by simp[results,Tryz.results56,go_sem,m0,m1,m2,m3,m4,m5,m6,m7]) rfl ⟨_,rfl,?_,X1⟩;have e:=aH.one hF H X1 B2 (by omega) 5 0 0 (-1);rw[bP]at e;exact e
def kz (w:A'):List Bm->List (List Int)->Prop
 | [],[]=>True
 | u::us,l::ll=>bw aG w u l/\kz w us ll
 | _,_=>False
theorem kz.len {w:A'} :∀ {us:List Bm} {ll:List (List Int)},kz w us ll->us.length=ll.length
 | [],[],_=>rfl
 | u::us,l::ll,h=>by simp only[List.length_cons];rw[kz.len h.2]
 | [],_::_,h=>h.elim
 | _::_,[],h=>h.elim
theorem kz.at {w:A'} :∀ {us:List Bm} {ll:List (List Int)},kz w us ll->∀ (i:Nat) (u:Bm) (l:List Int),us[i]? =AS u->ll[i]? =AS l->bw aG w u l
 | [],[],_,i,u,l,hu,_=>by simp at hu
 | x::us,y::ll,h,i,u,l,hu,hl=>by
  cases i with
  | zero=>
   simp at hu hl;subst hu hl;exact h.1
  | succ i=>exact kz.at h.2 i u l (by simpa using hu) (by simpa using hl)
 | [],_::_,h,_,_,_,_,_=>h.elim
 | _::_,[],h,_,_,_,_,_=>h.elim
theorem KC {w:A'} {B n:Nat} {c:Array Bm} {t:FF} (us:List Bm) {ll:List (List Int)} (h:ar w B c t) (hc:c.toList=us) (hn:n=us.length) (hr:kz w us ll):fy w (An (AS ⟨B,0,AF⟩) n n) ll:=by subst hn;exact⟨us,hr.len,Dv us h (by rw[hc];simp) rfl (aF _),hr.at⟩
theorem Jj {w:A'} {B n:Nat} {c:Array Bm} {t:FF} (l:List BS) (h:ar w B c t) (hc:c.toList=aL l) (hn:n=l.length):gF w (An (AS ⟨B,0,AF⟩) n n) l:=⟨GR l h hc hn,fun a n cap e=>by cases e;exact aF _⟩
theorem qs {w:A'} {B n:Nat} {c:Array Bm} {t:FF} (l:List Int) (h:ar w B c t) (hc:c.toList=l.map aG) (hn:n=l.length):bw aG w (An (AS ⟨B,0,AF⟩) n n) l:=by subst hn;exact Dv l h hc rfl (aF _)
theorem KD {w:A'} :bw aG w (An AF 0 0) []:=.inl ⟨rfl,rfl⟩
theorem uJ (i:Nat) (hi:i<4):(wd (By 256) i).toNat=18446744073709551615:=by
 have h0:(wd (By 256) 0).toNat=18446744073709551615:=by kernel_rfl
 have h1:(wd (By 256) 1).toNat=18446744073709551615:=by kernel_rfl
 have h2:(wd (By 256) 2).toNat=18446744073709551615:=by kernel_rfl
 have h3:(wd (By 256) 3).toNat=18446744073709551615:=by kernel_rfl
 rcases(show i=0\/i=1\/i=2\/i=3 by omega)with rfl | rfl | rfl | rfl<;>assumption
theorem aH.grow {w W:A'} {v:Bm} {t:RX} (h:aH (· <w.heap.size) w v t) (hk:aa w W):aH (· <W.heap.size) W v t:=(h.mF hk).mono fun _ hb=>ay hb hk.size
theorem aH.two {V:A'} {b k1 n1 c1 k2 n2 c2:Nat} {s1 s2:BS} {a1 d1 a2 d2:Int} {p1 p2:Option GB} {t1 t2:RX} {ty:FF} {C:Array Bm} (h1:aH (· <V.heap.size) V (DH (aq k1 s1 a1 d1 (An p1 n1 c1))) t1) (h2:aH (· <V.heap.size) V (DH (aq k2 s2 a2 d2 (An p2 n2 c2))) t2) (hB:ar V b C ty) (hC:C=aq k1 s1 a1 d1 (An p1 n1 c1)++aq k2 s2 a2 d2 (An p2 n2 c2)) (k:Nat): aH (· <V.heap.size) V (DH (aq k 0 0 0 (An (AS ⟨b,0,AF⟩) 2 2))) (.nd k 0 0 0 [t1,t2]):=by
 have hz1:(aq k1 s1 a1 d1 (An p1 n1 c1)).size=8:=rfl;refine .mk k 0 0 0 [t1,t2] _ b 0 2 (fun i=>if i=0 then DH (aq k1 s1 a1 d1 (An p1 n1 c1))else DH (aq k2 s2 a2 d2 (An p2 n2 c2))) (fun e=>by cases e) (fun _=>⟨rfl,hB.lt,hB.lt,by simp⟩) (fun i x hi=>?_) (fun i x hi=>?_)
 ·match i,hi with
  | 0, hi => exact ⟨_, rfl, fun j u hj => by
    have hj8 : j < 8 := by rw [<- hz1]; exact (Array.getElem?_eq_some_iff.1 hj).1
    have h5 := hB.cell j;rw [hC, Array.getElem?_append_left (by omega)] at h5
    simpa using h5.trans hj⟩
  | 1, hi => exact ⟨_, rfl, fun j u hj => by
    have h5 := hB.cell (8 + j);rw [hC, Array.getElem?_append_right (by omega), hz1, Nat.add_sub_cancel_left] at h5
    simpa using h5.trans hj⟩
  | i+2,hi=>simp at hi
 ·match i,hi with
  | 0,hi=>cases hi;exact h1
  | 1,hi=>cases hi;exact h2
  | i+2,hi=>simp at hi
theorem Jk (w:A'): ah 57 #[] w fun e w'=>∃ a0 a1 a2,e=AN (DH #[An a0 1 1,An a1 4 4,An a2 4 4])/\bV w' (DH #[An a0 1 1,An a1 4 4,An a2 4 4]) ky/\aa w w':=by
 have o0:=uJ 0 (by decide);have o1:=uJ 1 (by decide);have o2:=uJ 2 (by decide);have o3:=uJ 3 (by decide);have HW:=AI (And.intro o0 (And.intro o1 (And.intro o2 o3)));clear o0 o1 o2 o3;go_enter Tryz.func57,Tryz.ntmps57;go_wp2;refine aQ ?_;intro V hV;have k0:ar V (w.heap.size) #[An (AS ⟨w.heap.size+1,0,AF⟩) 1 1,An (AS ⟨w.heap.size+1+1+1+1+1+1,0,AF⟩) 4 4,An (AS ⟨w.heap.size+1+1+1+1+1+1+1+1+1,0,AF⟩) 4 4] 29:=by rw[hV];exact(((((((((ar.new _ _ _).alloc _).alloc _).alloc _).alloc _).alloc _).alloc _).alloc _).alloc _).alloc _
 have k1:ar V (w.heap.size+1) #[As A_ 18446744073709551615,As A_ 18446744073709551615,As A_ 18446744073709551615,As A_ 18446744073709551615] 56:=by rw[hV];exact(((((((((ar.new _ _ _).at (by simp)).alloc _).alloc _).alloc _).alloc _).alloc _).alloc _).alloc _).alloc _
 have k2:ar V (w.heap.size+1+1) #[As AM 1] 3:=by rw[hV];exact((((((((ar.new _ _ _).at (by simp)).alloc _).alloc _).alloc _).alloc _).alloc _).alloc _).alloc _
 have k3:ar V (w.heap.size+1+1+1) #[As AM 0] 3:=by rw[hV];exact(((((((ar.new _ _ _).at (by simp)).alloc _).alloc _).alloc _).alloc _).alloc _).alloc _
 have k4:ar V (w.heap.size+1+1+1+1) #[As AM 3] 3:=by rw[hV];exact((((((ar.new _ _ _).at (by simp)).alloc _).alloc _).alloc _).alloc _).alloc _
 have k5:ar V (w.heap.size+1+1+1+1+1) #[As AM 2] 3:=by rw[hV];exact(((((ar.new _ _ _).at (by simp)).alloc _).alloc _).alloc _).alloc _
 have k6:ar V (w.heap.size+1+1+1+1+1+1) #[An (AS ⟨w.heap.size+1+1,0,AF⟩) 1 1,An (AS ⟨w.heap.size+1+1+1,0,AF⟩) 1 1,An (AS ⟨w.heap.size+1+1+1+1,0,AF⟩) 1 1,An (AS ⟨w.heap.size+1+1+1+1+1,0,AF⟩) 1 1] 39:=by rw[hV];exact((((ar.new _ _ _).at (by simp)).alloc _).alloc _).alloc _
 have k7:ar V (w.heap.size+1+1+1+1+1+1+1) #[As AM 0] 3:=by rw[hV];exact(((ar.new _ _ _).at (by simp)).alloc _).alloc _
 have k8:ar V (w.heap.size+1+1+1+1+1+1+1+1) #[As AM 0] 3:=by rw[hV];exact((ar.new _ _ _).at (by simp)).alloc _
 have k9:ar V (w.heap.size+1+1+1+1+1+1+1+1+1) #[An AF 0 0,An (AS ⟨w.heap.size+1+1+1+1+1+1+1,0,AF⟩) 1 1,An AF 0 0,An (AS ⟨w.heap.size+1+1+1+1+1+1+1+1,0,AF⟩) 1 1] 39:=by rw[hV];exact(ar.new _ _ _).at (by simp)
 have X1:C' (aa w V):=by rw[hV];exact AI (((((((((((Ext.refl w).alloc _).alloc _).alloc _).alloc _).alloc _).alloc _).alloc _).alloc _).alloc _).alloc _).below
 clear hV;obtain⟨o0,o1,o2,o3⟩:=HW.out
 have hdf:bV V (DH #[An (AS ⟨w.heap.size+1,0,AF⟩) 1 1,An (AS ⟨w.heap.size+1+1+1+1+1+1,0,AF⟩) 4 4,An (AS ⟨w.heap.size+1+1+1+1+1+1+1+1+1,0,AF⟩) 4 4]) ky:=⟨_,_,_,rfl,Jj [By 256] k1 (by
   show _=[As A_ (wd (By 256) 0).toNat,As A_ (wd (By 256) 1).toNat,As A_ (wd (By 256) 2).toNat,As A_ (wd (By 256) 3).toNat]
   rw[o0,o1,o2,o3];rfl) rfl,
  KC [An (AS ⟨w.heap.size+1+1,0,AF⟩) 1 1,An (AS ⟨w.heap.size+1+1+1,0,AF⟩) 1 1,An (AS ⟨w.heap.size+1+1+1+1,0,AF⟩) 1 1,An (AS ⟨w.heap.size+1+1+1+1+1,0,AF⟩) 1 1] k6 rfl rfl ⟨qs [1] k2 rfl rfl,qs [0] k3 rfl rfl,qs [3] k4 rfl rfl,qs [2] k5 rfl rfl,trivial⟩,
  KC [An AF 0 0,An (AS ⟨w.heap.size+1+1+1+1+1+1+1,0,AF⟩) 1 1,An AF 0 0,An (AS ⟨w.heap.size+1+1+1+1+1+1+1+1,0,AF⟩) 1 1] k9 rfl rfl ⟨KD,qs [0] k7 rfl rfl,KD,qs [0] k8 rfl rfl,trivial⟩⟩
 obtain⟨⟨m0,m1,m2⟩,_⟩:=k0.three;exact B' (v:=DH #[An (AS ⟨w.heap.size+1,0,AF⟩) 1 1,An (AS ⟨w.heap.size+1+1+1+1+1+1,0,AF⟩) 4 4,An (AS ⟨w.heap.size+1+1+1+1+1+1+1+1+1,0,AF⟩) 4 4]) (by simp[results,Tryz.results57,go_sem,m0,m1,m2]) rfl ⟨_,_,_,rfl,hdf,X1⟩
theorem Ch {w:A'} {p:GB} {v:Bm} (h:w.cell? p=AS v):p.block<w.heap.size:=by
 unfold World.cell? at h;split at h
 ·rename_i hb;exact(Array.getElem?_eq_some_iff.1 hb).1
 ·cases h
theorem uK {t:RX} (h:(t.pre.all fun x=>x.cZ)=D0):t.fine:=fun x hx=>List.all_eq_true.1 h x hx
theorem SZ:((D_ ky.nx.length).map fun s=>cK (fS ky s))=[0,1,0,1].map aG:=by have h:(D_ ky.nx.length).map (fS ky)=[0,1,0,1]:=SG;rw[show((D_ ky.nx.length).map fun s=>cK (fS ky s))=((D_ ky.nx.length).map (fS ky)).map cK by rw[GO];rfl,h];rfl
theorem zY {W:A'} {a:Option GB} {c:Nat} (h:bw en W (An a 1 c) [97]):(convert 44 9 (An a 1 c)).run Tryz.prog W=.ok (F_ ⟨#[97]⟩) W:=by
 rcases h with⟨e,h⟩ | ⟨g,off,cap,e,hg,mD,hc⟩
 ·cases h
 ·cases e
  exact Lib.run_convert_whole W 44 5 9 Tryz.underlying44 Tryz.underlying5 Tryz.underlying9 g off ⟨#[97]⟩ (fun i hi=>by
   obtain rfl:i=0:=by have:i<1:=hi;omega
   exact hc 0 97 rfl) c
theorem Jl {l:List Int} (hn:l.length<=1000000) (W:A') (u v:Bm) (h:bw aG W u l) (h':bw aG W v l):ah 33 #[u,v] W fun e w'=>e=AN (C_ D0)/\aa W w':=(s6 u v l l W h h' hn).mono fun e w' ⟨he,hx⟩=>by
 rw[beq_self_eq_true]at he;exact⟨he,hx.below⟩
theorem jY {w W:A'} {p:GB} {v:Bm} (hb:aa w W) (h:w.cell? p=AS v):W.cell? p=AS v:=((ae.aj hb fun _ h=>h:ae (· <w.heap.size) w W).cell (Ch h)).trans h
theorem FX (w:A') (hT:∀ W,aa w W->nB W): ah 10 #[] w fun e w'=>e=AN (C_ D0)/\aa w w':=by
 have TT:C' (∀ A,aa w A->∀ V,aa A V->nB V):=AI fun A hA V hV=>hT V (hA.trans (hV.mono hA.size))
 obtain⟨sa,Jw⟩:=ag (yy [97]);obtain⟨sb,mi⟩:=ag (yy [98]);obtain⟨l2,hl2⟩:=ag ((dJ FQ).mr.length);have CA:C' (∀ W,ah 55 #[F_ ⟨#[97]⟩] W fun e w'=>e=AN (DH #[As Ft 2,As A_ (wd sa 0).toNat,As A_ (wd sa 1).toNat,As A_ (wd sa 2).toNat,As A_ (wd sa 3).toNat,As AM 0,As AM 0,An AF 0 0])/\aa W w'):=AI fun W=>by rw[Jw];exact tU ⟨#[97]⟩ [97] rfl (by decide) W
 have CB:C' (∀ W,ah 55 #[F_ ⟨#[98]⟩] W fun e w'=>e=AN (DH #[As Ft 2,As A_ (wd sb 0).toNat,As A_ (wd sb 1).toNat,As A_ (wd sb 2).toNat,As A_ (wd sb 3).toNat,As AM 0,As AM 0,An AF 0 0])/\aa W w'):=AI fun W=>by rw[mi];exact tU ⟨#[98]⟩ [98] rfl (by decide) W
 have LFA:C' (∀ W,aH (· <W.heap.size) W (DH (aq 2 sa 0 0 (An AF 0 0))) (uw [97])):=AI fun W=>by rw[Jw];exact aH.leaf (· <W.heap.size) W 2 (yy [97]) 0 0 AF 0
 have LFB:C' (∀ W,aH (· <W.heap.size) W (DH (aq 2 sb 0 0 (An AF 0 0))) (uw [98])):=AI fun W=>by rw[mi];exact aH.leaf (· <W.heap.size) W 2 (yy [98]) 0 0 AF 0
 have AL:C' (∀ (W:A') (b:GB),ah 54 #[An (AS b) 2 2] W fun e w'=>e=AN (DH #[As Ft 4,As A_ 0,As A_ 0,As A_ 0,As A_ 0,As AM 0,As AM 0,An (AS b) 2 2])/\aa W w'):=AI fun W b=>by have h:=Nz (AS b) 2 2 W;rw[bP]at h;exact h
 have KT:C' (∀ (W:A') (b:GB),ah 58 #[An (AS b) 2 2] W fun e w'=>e=AN (DH #[As Ft 3,As A_ 0,As A_ 0,As A_ 0,As A_ 0,As AM 0,As AM 0,An (AS b) 2 2])/\aa W w'):=AI fun W b=>by have h:=NA (AS b) 2 2 W;rw[bP]at h;exact h
 have O1:C' (∀ W v,aa w W->aH (· <W.heap.size) W v FP->ah 53 #[v,C_ D0,As AM 9] W (rD 3 4 4 0 Nx W)):=AI fun W v hW hv=>ku v FP (uK (by kernel_rfl)) (by decide) (by decide) D0 9 aef rfl rfl rfl W hv fun V hV=>TT W hW V hV
 have O2:C' (∀ W v,aa w W->aH (· <W.heap.size) W v VE->ah 53 #[v,C_ DE,As AM 99] W (rD 3 3 3 0 FQ W)):=AI fun W v hW hv=>ku v VE (uK (by kernel_rfl)) (by decide) (by decide) DE 99 aeg rfl rfl rfl W hv fun V hV=>TT W hW V hV
 have O3:C' (∀ W v,aa w W->aH (· <W.heap.size) W v (pI (uw [97]))->ah 53 #[v,C_ D0,As AM 9] W (rD 2 3 3 0 SY W)):=AI fun W v hW hv=>ku v (pI (uw [97])) (uK (by kernel_rfl)) (by decide) (by decide) D0 9 aeh rfl rfl rfl W hv fun V hV=>TT W hW V hV
 have O4:C' (∀ W v,aa w W->aH (· <W.heap.size) W v (pI (VD [97,97]))->ah 53 #[v,C_ D0,As AM 9] W (rD 2 4 4 0 FT W)):=AI fun W v hW hv=>ku v tAA (uK (by kernel_rfl)) (by decide) (by decide) D0 9 aap rfl rfl rfl W hv fun V hV=>TT W hW V hV
 have CS:C' (∀ W v,bV W v Nx->ah 14 #[v] W fun e w'=>e=AN (Cd #[As AM 3,As AM 2,As AM 0])/\aa W w'):=AI fun W v hv=>SF ((cX _).1 aei) Xa.2.symm Xa.1.symm rfl W v hv
 have CM:C' (∀ W v,bV W v FQ->ah 12 #[v] W (rD 1 1 l2 0 (dJ FQ) W)):=AI fun W v hv=>Nn ((cX _).1 aej) Xb.2.symm Xb.1.symm hl2 W v hv
 have FO:C' (∀ W,ah 57 #[] W fun e w'=>(∃ a0 a1 a2,e=AN (DH #[An a0 1 1,An a1 4 4,An a2 4 4])/\bV w' (DH #[An a0 1 1,An a1 4 4,An a2 4 4]) ky)/\aa W w'):=AI fun W=>(Jk W).mono fun e w' ⟨a0,a1,a2,h1,h2,h3⟩=>⟨⟨a0,a1,a2,h1,h2⟩,h3⟩
 have BK:C' (∀ W v,bV W v ky->ah 36 #[v] W fun e w'=>∃ a c,e=AN (Cd #[An a 4 c,As AM 0])/\w'.ownsRow W.heap.size 3 1 (An a 4 c) 4 ([0,1,0,1].map aG)/\aa W w'):=AI fun W v hv=>(xp ((cX _).1 aar) W v hv).mono fun e w' ⟨a,c,h1,h2,h3⟩=>⟨a,c,h1,SZ▸h2,h3⟩
 have CE:C' (∀ W v v',bV W v SY->bV W v' FT->ah 32 #[v,v'] W fun e w'=>∃ a c,e=AN (Cd #[An a 1 c,C_ DE,As AM 0])/\bw en w' (An a 1 c) [97]/\aa W w'):=AI fun W v v' hv hv'=>by
  have h:=Nw ((cX _).1 aek) ((cX _).1 aaq) (by decide) W v v' hv hv';unfold SS at h;rw[p_a]at h;exact h
 have X:C' (aa w w):=AI (Below.refl _ _);clear Jw mi hl2 hT TT;go_enter Tryz.func10,Tryz.ntmps10;go_wp2_with fail
 refine(CA w).mono ?_;rintro e w1 ⟨rfl,hx⟩;replace X:=AI (X.trans (hx.mono X.size));clear hx;go_wp2_with fail
 refine(CB w1).mono ?_;rintro e w2 ⟨rfl,hx⟩;replace X:=AI (X.trans (hx.mono X.size));clear hx;go_wp2_with fail
 refine aK ?_;intro V1 hV;have hb:aa w2 V1:=by rw[hV];exact((Ext.refl w2).alloc _).below
 have kb:ar V1 w2.heap.size #[As Ft 2,As A_ (wd sa 0).toNat,As A_ (wd sa 1).toNat,As A_ (wd sa 2).toNat,As A_ (wd sa 3).toNat,As AM 0,As AM 0,An AF 0 0,As Ft 2,As A_ (wd sb 0).toNat,As A_ (wd sb 1).toNat,As A_ (wd sb 2).toNat,As A_ (wd sb 3).toNat,As AM 0,As AM 0,An AF 0 0] 97:=by rw[hV];exact ar.new _ _ _
 replace X:=AI (X.trans (hb.mono X.size));have KB:=AI kb;clear hb kb hV;have T1:C' (aH (· <V1.heap.size) V1 (DH #[As Ft 4,As A_ 0,As A_ 0,As A_ 0,As A_ 0,As AM 0,As AM 0,An (AS ⟨w2.heap.size,0,AF⟩) 2 2]) FP):=AI (by have h5:=aH.two (LFA V1) (LFB V1) KB rfl 4;rw[bP]at h5;exact h5);clear KB;refine(AL V1 _).mono ?_;rintro e w3 ⟨rfl,hx⟩;replace X:=AI (X.trans (hx.mono X.size));replace T1:=AI (T1.out.grow hx);clear hx;go_wp2_with fail
 refine(O1 w3 _ X T1.out).mono ?_;rintro e w4 ⟨da1,dc1,db1,de1,dg1,dh1,rfl,hd,hx⟩;clear T1;replace X:=AI (X.trans (hx.mono X.size));have D1:=AI hd.df;clear hd hx;go_wp2_with fail
 refine aK ?_;intro V2 hV;have hb:aa w4 V2:=by rw[hV];exact((Ext.refl w4).alloc _).below
 have kb:ar V2 w4.heap.size #[An da1 3 dc1,An db1 4 de1,An dg1 4 dh1] 29:=by rw[hV];exact ar.new _ _ _
 replace X:=AI (X.trans (hb.mono X.size));replace D1:=AI (D1.below hb);have B1:=AI kb;clear hb kb hV;refine(CS V2 _ D1).mono ?_;rintro e w5 ⟨rfl,hx⟩;replace X:=AI (X.trans (hx.mono X.size));replace D1:=AI (D1.below hx);replace B1:=AI (B1.below hx B1.lt);clear hx;clear D1;go_wp2_with fail
 refine(CA w5).mono ?_;rintro e w6 ⟨rfl,hx⟩;replace X:=AI (X.trans (hx.mono X.size));replace B1:=AI (B1.below hx B1.lt);clear hx;go_wp2_with fail
 refine(CB w6).mono ?_;rintro e w7 ⟨rfl,hx⟩;replace X:=AI (X.trans (hx.mono X.size));replace B1:=AI (B1.below hx B1.lt);clear hx;go_wp2_with fail
 refine aK ?_;intro V3 hV;have hb:aa w7 V3:=by rw[hV];exact((Ext.refl w7).alloc _).below
 have kb:ar V3 w7.heap.size #[As Ft 2,As A_ (wd sa 0).toNat,As A_ (wd sa 1).toNat,As A_ (wd sa 2).toNat,As A_ (wd sa 3).toNat,As AM 0,As AM 0,An AF 0 0,As Ft 2,As A_ (wd sb 0).toNat,As A_ (wd sb 1).toNat,As A_ (wd sb 2).toNat,As A_ (wd sb 3).toNat,As AM 0,As AM 0,An AF 0 0] 97:=by rw[hV];exact ar.new _ _ _
 replace X:=AI (X.trans (hb.mono X.size));replace B1:=AI (B1.below hb B1.lt);have KB:=AI kb;clear hb kb hV;have T2:C' (aH (· <V3.heap.size) V3 (DH #[As Ft 4,As A_ 0,As A_ 0,As A_ 0,As A_ 0,As AM 0,As AM 0,An (AS ⟨w7.heap.size,0,AF⟩) 2 2]) FP):=AI (by have h5:=aH.two (LFA V3) (LFB V3) KB rfl 4;rw[bP]at h5;exact h5);clear KB;refine(AL V3 _).mono ?_;rintro e w8 ⟨rfl,hx⟩;replace X:=AI (X.trans (hx.mono X.size));replace B1:=AI (B1.below hx B1.lt);replace T2:=AI (T2.grow hx);clear hx;go_wp2_with fail
 refine(l6 _ FP _ w8 (fun _ h=>h) T2).mono ?_;rintro e w9 ⟨bs1,rfl,ht,hx⟩;clear T2;replace X:=AI (X.trans (hx.mono X.size));replace B1:=AI (B1.below hx B1.lt);have T3:=AI (ht.mono fun b (hb:b<w9.heap.size/\_)=>hb.1);clear ht hx;go_wp2_with fail
 refine(CA w9).mono ?_;rintro e oU ⟨rfl,hx⟩;replace X:=AI (X.trans (hx.mono X.size));replace B1:=AI (B1.below hx B1.lt);replace T3:=AI (T3.grow hx);clear hx;go_wp2_with fail
 refine(l6 _ (uw [97]) _ oU (fun _ h=>h) (LFA oU)).mono ?_;rintro e w11 ⟨bs,rfl,ht,hx⟩;replace X:=AI (X.trans (hx.mono X.size));replace B1:=AI (B1.below hx B1.lt);replace T3:=AI (T3.grow hx);have T4:=AI (ht.mono fun b (hb:b<w11.heap.size/\_)=>hb.1);clear ht hx;go_wp2_with fail
 refine aK ?_;intro V4 hV;have hb:aa w11 V4:=by rw[hV];exact((Ext.refl w11).alloc _).below
 have kb:ar V4 w11.heap.size #[As Ft 5,As A_ 0,As A_ 0,As A_ 0,As A_ 0,As AM 0,As AM (-1),An (AS ⟨bs1,0,AF⟩) 1 1,As Ft 5,As A_ 0,As A_ 0,As A_ 0,As A_ 0,As AM 0,As AM (-1),An (AS ⟨bs,0,AF⟩) 1 1] 97:=by rw[hV];exact ar.new _ _ _
 replace X:=AI (X.trans (hb.mono X.size));replace B1:=AI (B1.below hb B1.lt);replace T3:=AI (T3.grow hb);replace T4:=AI (T4.grow hb);have KB:=AI kb;clear hb kb hV;have u1:aH (· <V4.heap.size) V4 (DH (aq 5 0 0 (-1) (An (AS ⟨bs1,0,AF⟩) 1 1))) (pI FP):=by rw[bP];exact T3
 have u2:aH (· <V4.heap.size) V4 (DH (aq 5 0 0 (-1) (An (AS ⟨bs,0,AF⟩) 1 1))) (pI (uw [97])):=by rw[bP];exact T4
 have T5:C' (aH (· <V4.heap.size) V4 (DH #[As Ft 4,As A_ 0,As A_ 0,As A_ 0,As A_ 0,As AM 0,As AM 0,An (AS ⟨w11.heap.size,0,AF⟩) 2 2]) VE):=AI (by have h5:=aH.two u1 u2 KB (by rw[bP,bP];rfl) 4;rw[bP]at h5;exact h5);clear u1 u2;clear KB;refine(AL V4 _).mono ?_;rintro e w12 ⟨rfl,hx⟩;replace X:=AI (X.trans (hx.mono X.size));replace B1:=AI (B1.below hx B1.lt);replace T3:=AI (T3.grow hx);replace T4:=AI (T4.grow hx);replace T5:=AI (T5.grow hx);clear hx;clear T3;clear T4;go_wp2_with fail
 refine(O2 w12 _ X T5).mono ?_;rintro e w13 ⟨da2,dc2,db2,de2,dg2,dh2,rfl,hd,hx⟩;clear T5;replace X:=AI (X.trans (hx.mono X.size));replace B1:=AI (B1.below hx B1.lt);have D2:=AI hd.df;clear hd hx;go_wp2_with fail
 refine aK ?_;intro V5 hV;have hb:aa w13 V5:=by rw[hV];exact((Ext.refl w13).alloc _).below
 have kb:ar V5 w13.heap.size #[An da2 3 dc2,An db2 3 de2,An dg2 3 dh2] 29:=by rw[hV];exact ar.new _ _ _
 replace X:=AI (X.trans (hb.mono X.size));replace B1:=AI (B1.below hb B1.lt);replace D2:=AI (D2.below hb);have B2:=AI kb;clear hb kb hV;refine(CM V5 _ D2).mono ?_;rintro e w14 ⟨la,lc,lb,le,lg,lh,rfl,hd,hx⟩;clear D2;clear B2;replace X:=AI (X.trans (hx.mono X.size));replace B1:=AI (B1.below hx B1.lt);clear hd hx;obtain⟨⟨i0,i1,i2⟩,_⟩:=B1.three;clear B1;go_upto_region 5 with fail
 refine aw ?_;intro V5 hV;have hb:aa w14 V5:=by rw[hV];exact((Ext.refl w14).alloc _).below
 have kb:ar V5 w14.heap.size #[An la 1 lc,An lb 1 le,An lg l2 lh] 29:=by rw[hV];exact ar.new _ _ _
 replace i0:=(jY hb i0);replace i1:=(jY hb i1);replace X:=AI (X.trans (hb.mono X.size));obtain⟨⟨j0,j1,j2⟩,_⟩:=kb.three;clear hb kb hV i2 j2;go_wp2_with fail
 refine(FO V5).mono ?_;rintro e w15 ⟨⟨fa,fb,fc,rfl,hd⟩,hx⟩;replace X:=AI (X.trans (hx.mono X.size));have D3:=AI hd;clear hd;clear hx;clear i0 i1 j0 j1;go_wp2_with fail
 refine(BK w15 _ D3).mono ?_;rintro e w16 ⟨pa,pc,rfl,hp,hx⟩;clear D3;replace X:=AI (X.trans (hx.mono X.size));have PR:=AI hp;clear hp hx;go_wp2_with fail
 refine(CA w16).mono ?_;rintro e w17 ⟨rfl,hx⟩;replace X:=AI (X.trans (hx.mono X.size));replace PR:=AI (ai PR hx);clear hx;go_wp2_with fail
 refine(l6 _ (uw [97]) _ w17 (fun _ h=>h) (LFA w17)).mono ?_;rintro e w18 ⟨bs,rfl,ht,hx⟩;replace X:=AI (X.trans (hx.mono X.size));replace PR:=AI (ai PR hx);have T6:=AI (ht.mono fun b (hb:b<w18.heap.size/\_)=>hb.1);clear ht hx;go_wp2_with fail
 refine(O3 w18 _ X T6).mono ?_;rintro e w19 ⟨da4,dc4,db4,de4,dg4,dh4,rfl,hd,hx⟩;clear T6;replace X:=AI (X.trans (hx.mono X.size));replace PR:=AI (ai PR hx);have D4:=AI hd.df;clear hd hx;go_wp2_with fail
 refine aK ?_;intro V6 hV;have hb:aa w19 V6:=by rw[hV];exact((Ext.refl w19).alloc _).below
 have kb:ar V6 w19.heap.size #[An da4 2 dc4,An db4 3 de4,An dg4 3 dh4] 29:=by rw[hV];exact ar.new _ _ _
 replace X:=AI (X.trans (hb.mono X.size));replace PR:=AI (ai PR hb);replace D4:=AI (D4.below hb);have B4:=AI kb;clear hb kb hV;refine(CA V6).mono ?_;rintro e w20 ⟨rfl,hx⟩;replace X:=AI (X.trans (hx.mono X.size));replace PR:=AI (ai PR hx);replace D4:=AI (D4.below hx);replace B4:=AI (B4.below hx B4.lt);clear hx;go_wp2_with fail
 refine(CA w20).mono ?_;rintro e w21 ⟨rfl,hx⟩;replace X:=AI (X.trans (hx.mono X.size));replace PR:=AI (ai PR hx);replace D4:=AI (D4.below hx);replace B4:=AI (B4.below hx B4.lt);clear hx;go_wp2_with fail
 refine aK ?_;intro V7 hV;have hb:aa w21 V7:=by rw[hV];exact((Ext.refl w21).alloc _).below
 have kb:ar V7 w21.heap.size #[As Ft 2,As A_ (wd sa 0).toNat,As A_ (wd sa 1).toNat,As A_ (wd sa 2).toNat,As A_ (wd sa 3).toNat,As AM 0,As AM 0,An AF 0 0,As Ft 2,As A_ (wd sa 0).toNat,As A_ (wd sa 1).toNat,As A_ (wd sa 2).toNat,As A_ (wd sa 3).toNat,As AM 0,As AM 0,An AF 0 0] 97:=by rw[hV];exact ar.new _ _ _
 replace X:=AI (X.trans (hb.mono X.size));replace PR:=AI (ai PR hb);replace D4:=AI (D4.below hb);replace B4:=AI (B4.below hb B4.lt);have KB:=AI kb;clear hb kb hV;have T7:C' (aH (· <V7.heap.size) V7 (DH #[As Ft 3,As A_ 0,As A_ 0,As A_ 0,As A_ 0,As AM 0,As AM 0,An (AS ⟨w21.heap.size,0,AF⟩) 2 2]) (VD [97,97])):=AI (by have h5:=aH.two (LFA V7) (LFA V7) KB rfl 3;rw[bP]at h5;exact h5);clear KB;refine(KT V7 _).mono ?_;rintro e w22 ⟨rfl,hx⟩;replace X:=AI (X.trans (hx.mono X.size));replace PR:=AI (ai PR hx);replace D4:=AI (D4.below hx);replace B4:=AI (B4.below hx B4.lt);replace T7:=AI (T7.grow hx);clear hx;go_wp2_with fail
 refine(l6 _ (VD [97,97]) _ w22 (fun _ h=>h) T7).mono ?_;rintro e w23 ⟨bs,rfl,ht,hx⟩;clear T7;replace X:=AI (X.trans (hx.mono X.size));replace PR:=AI (ai PR hx);replace D4:=AI (D4.below hx);replace B4:=AI (B4.below hx B4.lt);have T8:=AI (ht.mono fun b (hb:b<w23.heap.size/\_)=>hb.1);clear ht hx;go_wp2_with fail
 refine(O4 w23 _ X T8).mono ?_;rintro e w24 ⟨da5,dc5,db5,de5,dg5,dh5,rfl,hd,hx⟩;clear T8;replace X:=AI (X.trans (hx.mono X.size));replace PR:=AI (ai PR hx);replace D4:=AI (D4.below hx);replace B4:=AI (B4.below hx B4.lt);have D5:=AI hd.df;clear hd hx;obtain⟨⟨g0,g1,g2⟩,_⟩:=B4.three;go_upto_region 10 with fail
 refine aw ?_;intro V8 hV;have hb:aa w24 V8:=by rw[hV];exact((Ext.refl w24).alloc _).below
 have kb:ar V8 w24.heap.size #[An da5 2 dc5,An db5 4 de5,An dg5 4 dh5] 29:=by rw[hV];exact ar.new _ _ _
 replace g0:=jY hb g0;replace g1:=jY hb g1;replace g2:=jY hb g2;replace X:=AI (X.trans (hb.mono X.size));replace PR:=AI (ai PR hb);replace D4:=AI (D4.below hb);replace D5:=AI (D5.below hb);obtain⟨⟨h0,h1,h2⟩,_⟩:=kb.three;clear hb kb hV B4;go_wp2_with fail
 refine(CE V8 _ _ D4 D5).mono ?_;rintro e w25 ⟨qa,qc,rfl,hp,hx⟩;clear D4;clear D5;replace X:=AI (X.trans (hx.mono X.size));replace PR:=AI (ai PR hx);have QR:=AI hp;clear hp hx g0 g1 g2 h0 h1 h2;have hst:=zY QR;go_wp2_with fail
 refine aK ?_;intro V9 hV;have hb:aa w25 V9:=by rw[hV];exact((Ext.refl w25).alloc _).below
 have kb:ar V9 w25.heap.size #[As AM 0,As AM 1,As AM 0,As AM 1] 3:=by rw[hV];exact ar.new _ _ _
 replace X:=AI (X.trans (hb.mono X.size));replace PR:=AI (ai PR hb);replace QR:=AI (QR.below hb);have h01:=qs [0,1,0,1] kb rfl rfl;clear hb kb hV hst;refine(Jl (l:=[0,1,0,1]) (by decide) V9 _ _ (bU (l:=[0,1,0,1]) PR rfl) h01).mono ?_;rintro e w26 ⟨rfl,hx⟩;clear PR;replace X:=AI (X.trans (hx.mono X.size));replace QR:=AI (QR.below hx);clear hx h01;have hst:=zY QR;have hs2:((⟨#[97]⟩:ByteArray)==⟨#[97]⟩)=true:=by kernel_rfl
 go_wp2;go_ret;exact⟨rfl,X⟩
end
section
open Go Go.RowKit
theorem Xc {d:DF} (h:¬Rt d):d.right=false:=by
 cases e:d.right with
 | false=>rfl
 | true=>exact absurd ((cX d).1 e) h
theorem rN {d:DF} (h:Rt d):(DF.mk d.cl d.nx (d.mr.drop 1)).right=false:=Xc fun r=>by
 have h1:(d.mr.drop 1).length=d.nx.length:=r.mr;have h2:=h.mr;have h3:=h.pos;rw[B_]at h1;omega
theorem nS {d:DF} (h:Rt d):(DF.mk (d.cl.drop 1) d.nx d.mr).right=false:=Xc fun r=>by
 have h1:(d.nx.getD 0 []).length=(d.cl.drop 1).length:=r.len 0 h.pos;have h2:=h.len 0 h.pos;have h3:=h.Dz;rw[B_]at h1;omega
end
section
open Go Go.RowKit Go.Shelf Go.Maps
theorem sQ {n0 K g cap:Nat} {e:FF} {L1 L2 L:List Bm} {W W':A'} (ho:W.ownsRow n0 e 1 (An (AS ⟨g,0,AF⟩) K cap) K L1) (mL:W'.ownsRow n0 e 1 (An (AS ⟨g,0,AF⟩) (K+1) cap) (K+1) (L1++L2)) (hg:W.grownBy W' (AS g)) {v:Bm} (h:W.ownsRow n0 e 1 v K L):W'.ownsRow n0 e 1 v K L:=by
 by_cases e2:v.ownBlock=AS g
 ·obtain⟨c,h1,h2,_⟩:=fe (by decide) h ho e2 rfl
  cases h2
  subst h1;have hL:L=L1:=by
   rcases ho.2 with⟨h1,_⟩ | ⟨g1,c1,Yd,h1,_,f1,_,_,_,t1⟩
   ·cases h1
   ·cases h1
    rcases h.2 with⟨h2,_⟩ | ⟨g2,c2,Lm,h2,_,f2,_,_,_,t2⟩
    ·cases h2
    ·cases h2
     rw[f1]at f2;cases f2;exact t2.symm.trans t1
  subst hL;exact jI h.1 mL
 ·exact h.kept hg (.inr e2)
theorem sR {n0 K g cap:Nat} {e:FF} {L1 L2:List Bm} {c:Bm} {W W':A'} (hK:1<=K) (ho:W.ownsRow n0 e 1 (An (AS ⟨g,0,AF⟩) K cap) K L1) (mL:W'.ownsRow n0 e 1 (An (AS ⟨g,0,AF⟩) (K+1) cap) (K+1) (L1++L2)) (hg:W.grownBy W' (AS g)) {b:Nat} (h:ar W b #[c] e):ar W' b #[c] e:=by
 by_cases e2:b=g
 ·subst e2
  rcases ho.2 with⟨h1,_⟩ | ⟨g1,c1,Yd,h1,_,f1,_,_,s1,_⟩
  ·cases h1
  ·cases h1
   rcases mL.2 with⟨h2,_⟩ | ⟨g2,c2,Lm,h2,_,f2,k2,_,s2,_⟩
   ·cases h2
   ·cases h2
    unfold ar at h;rw[h]at f1;cases f1;have hc1:cap=1:=by simpa using s1.symm
    omega
 ·unfold ar
  rw[hg.block b h.lt (fun e3=>e2 (by cases e3;rfl))];exact h
def xB (n0 K:Nat) (L1:List Bm) (c2 c3 c5:Bm) (L4 L6:List Bm):Nat->Bm->A'->Prop
 | 0,v,W=>W.ownsRow n0 3 1 v K L1
 | 1,v,W=>W.ownsRow n0 3 1 v (K+1) (L1++ [c2])
 | 2,v,W=>∀ b,v=An (AS ⟨b,0,AF⟩) 1 1->ar W b #[c2] 3
 | 3,v,W=>∀ b,v=An (AS ⟨b,0,AF⟩) 1 1->ar W b #[c3] 3
 | 4,v,W=>W.ownsRow n0 3 1 v K L4
 | 5,v,W=>∀ b,v=An (AS ⟨b,0,AF⟩) 1 1->ar W b #[c5] 3
 | 6,v,W=>W.ownsRow n0 3 1 v K L6
 | _,_,_=>True
theorem fZ (n0 K:Nat) (L1:List Bm) (c2 c3 c5:Bm) (L4 L6:List Bm):∀ i v A B,aa A B->xB n0 K L1 c2 c3 c5 L4 L6 i v A->xB n0 K L1 c2 c3 c5 L4 L6 i v B
 | 0,_,_,_,hb,h=>ai (show DP _ _ _ _ _ _ _ from h) hb
 | 1,_,_,_,hb,h=>ai (show DP _ _ _ _ _ _ _ from h) hb
 | 2,_,_,_,hb,h=>fun b e=>(h b e).below hb (h b e).lt
 | 3,_,_,_,hb,h=>fun b e=>(h b e).below hb (h b e).lt
 | 4,_,_,_,hb,h=>ai (show DP _ _ _ _ _ _ _ from h) hb
 | 5,_,_,_,hb,h=>fun b e=>(h b e).below hb (h b e).lt
 | 6,_,_,_,hb,h=>ai (show DP _ _ _ _ _ _ _ from h) hb
 | _+7,_,_,_,_,_=>trivial
theorem Ci {n0 K g cap:Nat} {L1:List Bm} {c2 c3 c5:Bm} {L4 L6:List Bm} {W W':A'} (hK:1<=K) (ho:W.ownsRow n0 3 1 (An (AS ⟨g,0,AF⟩) K cap) K L1) (mL:W'.ownsRow n0 3 1 (An (AS ⟨g,0,AF⟩) (K+1) cap) (K+1) (L1++ [c2])) (hg:W.grownBy W' (AS g)):∀ i v,xB n0 K L1 c2 c3 c5 L4 L6 i v W->xB n0 K L1 c2 c3 c5 L4 L6 i v W'
 | 0,v,h=>sQ ho mL hg (show DP _ _ _ _ _ _ _ from h)
 | 1,v,h=>lJ (Kb:=1) (L2:=[c2]) (by decide) ho mL hg 1 v h
 | 2,v,h=>fun b e=>sR hK ho mL hg (h b e)
 | 3,v,h=>fun b e=>sR hK ho mL hg (h b e)
 | 4,v,h=>sQ ho mL hg (show DP _ _ _ _ _ _ _ from h)
 | 5,v,h=>fun b e=>sR hK ho mL hg (h b e)
 | 6,v,h=>sQ ho mL hg (show DP _ _ _ _ _ _ _ from h)
 | _+7,_,_=>trivial
def tV (a:DF) (W:A') (bb cnt:Nat):Prop:=bb<W.heap.size/\∀ i,i<cnt->∃ x n y l,W.cell? ⟨bb,i,AF⟩=AS (An x n y)/\bw aG W (An x n y) l/\¬FE a l
theorem tV.below {a:DF} {W W':A'} {bb cnt:Nat} (h:tV a W bb cnt) (hb:aa W W'):tV a W' bb cnt:=
 ⟨ay h.1 hb.size,fun i hi=>by
  obtain⟨x,n,y,l,h1,h2,h3⟩:=h.2 i hi
  exact⟨x,n,y,l,((ae.aj hb fun _ h=>h:ae (· <W.heap.size) W W').cell (p:=⟨bb,i,AF⟩) h.1).trans h1,h2.below hb,h3⟩⟩
theorem tV.snoc {a:DF} {W W':A'} {bb g cap n n' base:Nat} {xs:List Bm} {x:Option GB} {m y:Nat} {l:List Int} (h:tV a W bb n) (ho:W.ownsRow base 39 1 (An (AS ⟨bb,0,AF⟩) n n') n xs) (hx:bw aG W (An x m y) l) (hno:¬FE a l) (hb:aa W W') (mL:W'.ownsRow base 39 1 (An (AS ⟨g,0,AF⟩) (n+1) cap) (n+1) (xs++ [An x m y])):tV a W' g (n+1):=by
 have hl:xs.length=n:=by have:=ho.1;omega
 refine⟨(mL.lt g rfl).2,fun i hi=>?_⟩;have hc:=mL.cellAt i (by simp;omega);by_cases e:i<n
 ·obtain⟨x1,n1,y1,l1,h1,h2,h3⟩:=h.2 i e
  rw[bH (by omega)]at hc;exact⟨x1,n1,y1,l1,hc.trans ((ho.cellAt i (by omega)).symm.trans h1),h2.below hb,h3⟩
 ·obtain rfl:i=n:=by omega
  rw[cF (by omega),hl,Nat.sub_self]at hc;exact⟨x,m,y,l,hc,hx.below hb,hno⟩
theorem bw.drop1 {α:Type} {enc:α->Bm} {w:A'} {b o o' m m' c c':Nat} {l:List α} (h:bw enc w (An (AS ⟨b,o,AF⟩) m c) l) (hm:m=m'+1) (hc:c=c'+1) (ho:c'=0\/o'=o+1):bw enc w (An (AS ⟨b,o',AF⟩) m' c') (l.drop 1):=by
 rcases h with⟨h,_⟩ | ⟨b1,o1,c1,e,hb,hl,h⟩
 ·cases h
 ·cases e
  have hd:(l.drop 1).length=m':=by rw[B_];omega
  refine .inr ⟨b,o',c',by rw[hd],hb,by omega,fun i x hi=>?_⟩;rw[D']at hi;have fT:=(AT.1 hi).1;have h5:=h (1+i) x hi;rw[show o'+i=o+(1+i) by omega];exact h5
theorem fy.drop1 {w:A'} {b o o' m m' c c':Nat} {ll:List (List Int)} (h:fy w (An (AS ⟨b,o,AF⟩) m c) ll) (hm:m=m'+1) (hc:c=c'+1) (ho:c'=0\/o'=o+1):fy w (An (AS ⟨b,o',AF⟩) m' c') (ll.drop 1):=by
 obtain⟨us,h1,h2,h3⟩:=h
 exact⟨us.drop 1,by rw[B_,B_,h1],h2.drop1 hm hc ho,fun i u l hu hl=>by
  rw[D']at hu hl
  exact h3 (1+i) u l hu hl⟩
theorem gF.drop1 {w:A'} {b o o' m m' c c':Nat} {l:List BS} (h:gF w (An (AS ⟨b,o,AF⟩) m c) l) (hm:m=m'+1) (hc:c=c'+1) (ho:c'=0\/o'=o+4):gF w (An (AS ⟨b,o',AF⟩) m' c') (l.drop 1):=by
 obtain⟨h,h9⟩:=h;have h8:=h9 _ _ _ rfl;refine⟨?_,fun a n cap e=>by cases e;omega⟩;rcases h with⟨h,_⟩ | ⟨b1,o1,c1,e,hb,h⟩
 ·cases h
 ·cases e
  have hd:(l.drop 1).length=m':=by rw[B_];omega
  refine .inr ⟨b,o',c',by rw[hd],hb,fun i x hi j hj=>?_⟩;rw[D']at hi;have fT:=(AT.1 hi).1;have h5:=h (1+i) x hi j hj;rw[show o'+i*4+j=o+(1+i)*4+j by omega];exact h5
theorem Sm.Xd {d:DF} (h:Sm d):Sm (DF.mk (d.cl.drop 1) d.nx d.mr):=⟨by show(d.cl.drop 1).length<=_;rw[B_];have:=h.cl;omega,h.nx,h.mr,h.xG,h.Ug⟩
theorem Sm.Xe {d:DF} (h:Sm d):Sm (DF.mk d.cl d.nx (d.mr.drop 1)):=⟨h.cl,h.nx,by show(d.mr.drop 1).length<=_;rw[B_];have:=h.mr;omega,h.xG,fun l hl=>h.Ug l (List.mem_of_mem_drop hl)⟩
theorem zZ {base g:Nat} {w:A'} {us:List Bm} {L:List (List Int)} (hlen:us.length=L.length) (h3:∀ (i:Nat) (u:Bm) (l:List Int),us[i]? =AS u->L[i]? =AS l->w.ownsRow base 3 1 u l.length (l.map aG)) (z:Int): ∃ L':List (List Int),L'.length=L.length/\(∀ (i:Nat) (u:Bm) (l:List Int),us[i]? =AS u->L'[i]? =AS l->(w.setCell ⟨g,0,AF⟩ (As AM z)).ownsRow base 3 1 u l.length (l.map aG))/\(∀ (i:Nat) (l:List Int),L[i]? =AS l->∃ l',L'[i]? =AS l'/\l'.length=l.length)/\∀ (i:Nat) (u:Bm) (l:List Int),us[i]? =AS u->L[i]? =AS l->u.ownBlock=AS g->L'[i]? =AS (l.set 0 z):=by
 have key:∀ (i:Nat) (u:Bm) (l:List Int),us[i]? =AS u->L[i]? =AS l->((D_ L.length).map fun i=>if(us.getD i undef).ownBlock=AS g then(L.getD i []).set 0 z else L.getD i [])[i]? =AS (if u.ownBlock=AS g then l.set 0 z else l):=fun i u l hu hl=>by
  rw[aN,List.getElem?_range (AT.1 hl).1];show AS (if(us.getD i undef).ownBlock=AS g then(L.getD i []).set 0 z else L.getD i [])=_;rw[getD_some hu,getD_some hl]
 refine⟨(D_ L.length).map fun i=>if(us.getD i undef).ownBlock=AS g then(L.getD i []).set 0 z else L.getD i [],by simp,fun i u l hu hl=>?_,fun i l hl=>?_,fun i u l hu hl e=>by rw[key i u l hu hl,if_pos e]⟩
 ·have fT:i<L.length:=by have:=(AT.1 hu).1;omega
  obtain⟨l0,hl0⟩:∃ l0,L[i]? =AS l0:=⟨_,aB fT⟩;rw[key i u l0 hu hl0]at hl;have hr:=h3 i u l0 hu hl0;by_cases e:u.ownBlock=AS g
  ·rw[if_pos e]at hl
   cases hl
   rcases hr.2 with⟨h1,_⟩ | ⟨g',c,cur,h1,_⟩
   ·subst h1;cases e
   ·subst h1
    injection e with e
    subst e;have:=(hr.stored 0 (As AM z)).1;rw[List.length_set,List.map_set];exact this
  ·rw[if_neg e]at hl
   cases hl
   exact ak hr ((ae.refl (· ≠g) _).setCell (p:=⟨g,0,AF⟩) (fun h=>h rfl) _) fun x hx e2=>e (by rw[hx,e2])
 ·have fT:=(AT.1 hl).1
  obtain⟨u,hu⟩:∃ u,us[i]? =AS u:=⟨_,aB (by omega)⟩;refine⟨_,key i u l hu hl,?_⟩;split<;>simp
theorem NB {d:DF} {s:Nat} {l:List Int} {z:Int} (hl:d.nx[s]? =AS l) (hz:z∈l) (h:(d.nx.length:Int)<=z):d.right=false:=by
 cases e:d.right with
 | false=>rfl
 | true=>
  have rt:=(cX d).1 e;have hs:=(AT.1 hl).1;have:=(rt.iK s hs z (by rw[getD_some hl];exact hz)).2;omega
theorem VF {W:A'} {base n0 n1 n2:Nat} {e0 e1 e2:Option GB} {g0 g1 g2:Nat} {d:DF} (rt:Rt d) (sd:Sm d) (bX:n0=d.cl.length) (cM:n1=d.nx.length) (_:n2=d.mr.length) (h:aM base W (DH #[An e0 n0 g0,An e1 n1 g1,An e2 n2 g2]) d) (q:0<n0) (z:Int) (hz:(n1:Int)<=z): ∃ (ga gr rc:Nat) (ur:Bm),e1=AS ⟨ga,0,AF⟩/\ga<W.heap.size/\W.cell? ⟨ga,0,AF⟩=AS (An (AS ⟨gr,0,AF⟩) n0 rc)/\base<=gr/\gr<W.heap.size/\ ∀ (A:A'),aa W A->A.frozen? ⟨gr,0,AF⟩=DE/\A.cell? ⟨gr,0,AF⟩=AS ur/\∃ DX,aM base (A.setCell ⟨gr,0,AF⟩ (As AM z)) (DH #[An e0 n0 g0,An e1 n1 g1,An e2 n2 g2]) DX/\DX.right=DE/\Sm DX:=by
 obtain⟨v0,v1,v2,e,h0,⟨us,u1,u2,u3⟩,⟨ms,t1,t2,t3⟩⟩:=h;cases e;have u2':=u2;have t2':=t2;rw[u1, <-cM]at u2';have hp:0<n1:=by rw[cM];exact rt.pos
 obtain⟨l,hl⟩:∃ l,d.nx[0]? =AS l:=⟨_,aB rt.pos⟩;have Yf:l.length=n0:=by have:=rt.len 0 rt.pos;rw[getD_some hl]at this;rw[this,bX]
 obtain⟨ga,u,rfl,_,xJ,Sj,Gg,_⟩:=eE u2' hp;have hrow:=u3 0 u l Sj hl;rw[Yf]at hrow;obtain⟨ra,rc,rfl⟩:=ownsRow_form hrow;obtain⟨gr,ur,rfl,hgr1,hgr2,_,hrc,_⟩:=eE hrow q;refine⟨ga,gr,rc,ur,rfl,xJ,Gg,hgr1,hgr2,fun A hA=>⟨(ai hrow hA).frozenAt 0,((ae.aj hA fun _ h=>h:ae (· <W.heap.size) W A).cell (p:=⟨gr,0,AF⟩) hgr2).trans hrc,?_⟩⟩;obtain⟨L',p1,p2,p3,p4⟩:=zZ (g:=gr) (w:=A) u1 (fun i u l hu hl=>ai (u3 i u l hu hl) hA) z;obtain⟨M',r1,r2,r3,_⟩:=zZ (g:=gr) (w:=A) t1 (fun i u l hu hl=>ai (t3 i u l hu hl) hA) z;have K5:ae (· ≠gr) A (A.setCell ⟨gr,0,AF⟩ (As AM z)):=(ae.refl _ _).setCell (p:=⟨gr,0,AF⟩) (fun h=>h rfl) _;have far:∀ {e:FF} {sz m:Nat} {v:Bm} {xs:List Bm},W.ownsRow base e sz v m xs->3≠e->(A.setCell ⟨gr,0,AF⟩ (As AM z)).ownsRow base e sz v m xs:=fun h he=>ak (ai h hA) K5 fun x hx e2=>by
  rcases ownBlock_ne he (ai hrow hA) (ai h hA)with h5 | h5
  ·cases h5
  ·exact h5 (by rw[hx,e2];rfl)
 refine⟨⟨d.cl,L',M'⟩,⟨_,_,_,rfl,far h0 (by decide),⟨us,by rw[u1,p1],far u2 (by decide),p2⟩,⟨ms,by rw[t1,r1],far t2 (by decide),r2⟩⟩,?_,?_⟩
 ·exact NB (s:=0) (l:=l.set 0 z) (z:=z) (p4 0 _ l Sj hl rfl) (by
   have hl0:0<l.length:=by rw[Yf];exact q
   exact ax (i:=0) (by rw[List.getElem?_set_self hl0])) (by show(L'.length:Int)<=z;rw[p1, <-cM];exact hz)
 ·exact⟨sd.cl,by show L'.length<=_;rw[p1];exact sd.nx,by show M'.length<=_;rw[r1];exact sd.mr,fun q hq=>by
   obtain⟨j,hj⟩:=E_ hq;obtain⟨q0,hq0⟩:∃ q0,d.nx[j]? =AS q0:=⟨_,aB (by have:=(AT.1 hj).1;rw[<-p1];exact this)⟩;obtain⟨q1,h1,h2⟩:=p3 j q0 hq0;rw[hj]at h1;cases h1;rw[h2];exact sd.xG _ (ax hq0),fun q hq=>by
   obtain⟨j,hj⟩:=E_ hq;obtain⟨q0,hq0⟩:∃ q0,d.mr[j]? =AS q0:=⟨_,aB (by have:=(AT.1 hj).1;rw[<-r1];exact this)⟩;obtain⟨q1,h1,h2⟩:=r3 j q0 hq0;rw[hj]at h1;cases h1
   rw[h2];exact sd.Ug _ (ax hq0)⟩
theorem Jm (v:Bm) (way:Nat) (ara:way<256) (z:Int) (a:DF) (ok:Bool) (j5:ok=D0→Rt a∧a.nx.length≤60) {n0 n1 n2:Nat} (bX:n0=a.cl.length) (cM:n1=a.nx.length) (dP:n2=a.mr.length) (w:A') (hv:∃ x n c fl,v=DH #[An x n c,As Ft fl]) (hA:∀ W,aa w W→ah 10 #[] W fun e w'=>e=AN (C_ D0)∧aa W w') (hM:∀ W,aa w W→ah 11 #[v] W (BQ n0 n1 n2 ok a W)): ah 6 #[v,As Ft way,As AM z] w fun e w'=>e=AN (C_ D0)∧aa w w':=by
  obtain⟨iI,uD,jl,jm,jn⟩:=info_parts Tryz.ki;obtain⟨xa,xn,xc,fl,rfl⟩:=hv;have HA:=AI hA;have HM:=AI hM;have iM:=AI j5;have pS:=AI bX;have gS:=AI cM;have pO:=AI dP;clear hA hM j5 bX cM dP;go_enter Tryz.func6,Tryz.ntmps6;go_upto_region 1 with fail
  refine aw ?_;intro V0 hV;have X:C' (aa w V0):=AI (by rw[hV];exact((Ext.refl w).alloc _).below);have BX:C' (ar V0 w.heap.size #[An xa xn xc,As Ft fl] 24):=AI (by rw[hV];exact ar.new _ _ _);clear hV;go_wp2_with fail
  refine(HA V0 X).mono ?_;rintro e w1 ⟨rfl,hx⟩;replace X:=AI (X.trans (hx.mono X.size));replace BX:=AI (BX.below hx BX.lt);clear hx;clear HA;have i0:w1.cell? ⟨w.heap.size,0,AF⟩=AS (An xa xn xc):=BX.cell 0;have i1:w1.cell? ⟨w.heap.size,1,AF⟩=AS (As Ft fl):=BX.cell 1;clear BX;go_wp2_with fail
  refine(HM w1 X).mono ?_;rintro e w2 ⟨d0,dc0,d1,dc1,d2,dc2,rfl,hd,hx⟩;replace X:=AI (X.trans (hx.mono X.size));have DA:=AI hd.df;clear hd hx i0 i1 HM;go_upto_region 4 with fail
  refine aw ?_;intro V1 hV;have hb:aa w2 V1:=by rw[hV];exact((Ext.refl w2).alloc _).below
  have kb:ar V1 w2.heap.size #[An d0 n0 dc0,An d1 n1 dc1,An d2 n2 dc2] 29:=by rw[hV];exact ar.new _ _ _
  replace X:=AI (X.trans (hb.mono X.size));replace DA:=AI (DA.below hb);have BA:=AI kb;clear hb kb hV;cases ok with
  | false =>
    clear iM;go_wp2;go_ret;exact ⟨rfl, X⟩
  | true =>
    obtain ⟨ra, aen⟩ := iM.out rfl;clear iM;have tM : 1 ≤ n1 := by rw [gS.out]; exact ra.pos
    have arc : n1 ≤ 60 := by rw [gS.out]; exact aen
    obtain ⟨zl, hzl⟩ := ag (min z (-1));obtain ⟨zh, hzh⟩ := ag (max z (n1 : Int));obtain ⟨z1, hz1⟩ := ag (max z 1);have aeo : zl < 0 := by omega
    have aep : (n1 : Int) ≤ zh := by omega
    have ai9 : 0 < z1 := by omega
    obtain ⟨pl, hpl⟩ := ag (sP (fS a) n1);have CG1 : C' (∀ W v, bV W v a → ah 18 #[v, As AM zl, As AM 0] W fun e w' => e = AN (Cd #[An AF 0 0, C_ DE, As AM 2]) ∧ aa W w') := AI fun W v hv => xA ra zl 0 (.inl aeo) W v hv
    have CG2 : C' (∀ W v, bV W v a → ah 18 #[v, As AM 0, As AM zh] W fun e w' => e = AN (Cd #[An AF 0 0, C_ DE, As AM 2]) ∧ aa W w') := AI fun W v hv => xA ra 0 zh (.inr ⟨rfl, by rw [← gS.out]; exact aep⟩) W v hv
    have CB : C' (∀ W v, bV W v a → ah 36 #[v] W fun e w' => ∃ x y, e = AN (Cd #[An x n1 y, As AM 0]) ∧ bw aG w' (An x n1 y) pl ∧ aa W w') := AI fun W v hv => (xp ra W v hv).mono fun e w' ⟨x, y, h1, h2, h3⟩ => by
      rw[←gS.out]at h1 h2;have h4:w'.ownsRow W.heap.size 3 1 (An x n1 y) n1 (pl.map aG):=by rw[hpl];unfold sP;rw[←ZU,GO];exact h2
      exact⟨x,y,h1,bU h4 (by rw[hpl,iJ]),h3⟩
    have CN : C' (∀ (W : A') (v u : Bm) (l : List Int), bV W v a → bw aG W u l → ¬ FE a l → ah 39 #[v, u] W fun e w' => e = AN (Cd #[DH #[An AF 0 0, An AF 0 0, An AF 0 0], As AM 220]) ∧ aa W w') := AI fun W v u l hv hu hno => (Jc ra l W v u hu hv rfl rfl rfl).mono fun e w' h => by
      rcases h with⟨h1,_⟩ | ⟨_,h2⟩
      · exact absurd h1 hno
      · exact h2
    have N1 : C' (∀ l : List Int, l.length ≠ n1 → ¬ FE a l) := AI fun l hl ⟨h, _⟩ => hl (by rw [h, gS.out])
    have N2 : C' (¬ FE a (Bs n1 zl)) := AI (by rw [gS.out]; exact Kv ra (.inl aeo));have N3 : C' (¬ FE a (Bs n1 z1)) := AI (by rw [gS.out]; exact Kv ra (.inr ai9))
    have N4 : C' (0 < TA pl → ¬ FE a (Bs n1 0)) := AI fun hm => by
      rw[gS.out];refine Vy ra ?_;have h5:=Ku (fS a) n1 tM;rw[←hpl]at h5;rw[←gS.out];omega
    have iV : ((n1 : Int) != n1) = DE := by simp
    obtain ⟨mx, hmx⟩ := ag (TA pl);have CX : C' (∀ W u, bw aG W u pl → ah 38 #[u] W fun e w' => e = AN (As AM mx) ∧ aa W w') := AI fun W u hu => SI u pl (by rw [hpl, iJ]; omega) (by rw [hpl, iJ]; omega) hmx W hu
    rw [← hmx] at N4
    have CQ : C' (∀ W u, bV W u a → ah 21 #[u] W fun e w' => ∃ a0 c0 a1 c1 a2 c2, e = AN (DH #[An a0 n0 c0, An a1 n1 c1, An a2 n2 c2]) ∧ aM W.heap.size w' (DH #[An a0 n0 c0, An a1 n1 c1, An a2 n2 c2]) a ∧ aa W w') := AI fun W u h => (Lu u a W h ra.Rh).mono fun e w' ⟨r, hr, hd, _, hx⟩ => by
      subst hr;obtain⟨a0,c0,a1,c1,a2,c2,rfl⟩:=hd.form;rw[pS.out,gS.out,pO.out];exact⟨a0,c0,a1,c1,a2,c2,rfl,hd,hx⟩
    have aja : 0 < n0 := by rw [pS.out]; exact ra.Dz
    have ajb : C' (n2 = n1) := AI (by rw [pO.out, gS.out]; exact ra.mr);have RA := AI ra;have HZL := AI hzl;have HZH := AI hzh;have HZ1 := AI hz1;have HPL := AI hpl;clear hzl hzh hz1 hpl hmx ra aen;have kf : min z (-1) = zl := HZL.symm;have ajc : max z (n1 : Int) = zh := HZH.symm;obtain ⟨⟨i0, i1, i2⟩, _⟩ := BA.three;go_upto_region 7 with fail
    clear i0 i1 i2;clear kf ajc;refine aw ?_;intro V2 hV;have hb : aa V1 V2 := by rw [hV]; exact ((Ext.refl V1).alloc _).below
    have BL : C' (ar V2 V1.heap.size #[As AM zl, As AM 0, As AM 0, As AM zh] 72) := AI (by rw [hV]; exact ar.new _ _ _);replace X := AI (X.trans (hb.mono X.size));replace DA := AI (DA.below hb);replace BA := AI (BA.below hb BA.lt);clear hV hb;go_loopw [10, 11, 12, 13, 66] (fun _ _ _ _ iv wr => ∃ i : Nat, i ≤ 2 ∧ iv = As AM i ∧ aa V2 wr) (fun _ _ _ _ iv _ => 2 - (intOf iv).toNat);case atStart => exact ⟨0, by omega, rfl, Below.refl _ _⟩
    case round =>
      obtain⟨i,hi,rfl,hx⟩:=hrel;obtain⟨wo,rfl⟩:=ag (wr:A');have XO:=AI hx;replace X:=AI (X.trans (hx.mono X.size));replace DA:=AI (DA.below hx);replace BA:=AI (BA.below hx BA.lt);replace BL:=AI (BL.below hx BL.lt);clear hx;by_cases hlt:i<2
      · skip
        have h01:i=0∨i=1:=by omega
        rcases h01 with rfl | rfl
        · skip
          have c0:wo.cell? ⟨V1.heap.size,0,AF⟩=AS (As AM zl):=BL.cell 0;have c1:wo.cell? ⟨V1.heap.size,1,AF⟩=AS (As AM 0):=BL.cell 1;go_upto_region 9 with fail
          refine aw ?_;intro V3 hV;have hb:aa wo V3:=by rw[hV];exact((Ext.refl wo).alloc _).below
          have BS:C' (ar V3 wo.heap.size #[As AM zl,As AM 0] 72):=AI (by rw[hV];exact ar.new _ _ _);replace X:=AI (X.trans (hb.mono X.size));replace DA:=AI (DA.below hb);replace BA:=AI (BA.below hb BA.lt);replace BL:=AI (BL.below hb BL.lt);replace XO:=AI (XO.trans (hb.mono XO.size));clear hV hb c0 c1;have s0:V3.cell? ⟨wo.heap.size,0,AF⟩=AS (As AM zl):=BS.out.cell 0;have s1:V3.cell? ⟨wo.heap.size,1,AF⟩=AS (As AM 0):=BS.out.cell 1;obtain⟨⟨i0,i1,i2⟩,_⟩:=BA.three;go_wp2_with fail
          refine(CG1 V3 _ DA).mono ?_;rintro e w5 ⟨rfl,hx⟩;replace XO:=AI (XO.trans (hx.mono XO.size));clear i0 i1 i2;clear hx s0 s1 BS;go_wp2;go_roundw;case rel=>exact⟨1,by omega,by go_num,XO⟩
          case measure=>simp[intOf]
        · skip
          have c0:wo.cell? ⟨V1.heap.size,2,AF⟩=AS (As AM 0):=BL.cell 2;have c1:wo.cell? ⟨V1.heap.size,3,AF⟩=AS (As AM zh):=BL.cell 3;go_upto_region 9 with fail
          refine aw ?_;intro V3 hV;have hb:aa wo V3:=by rw[hV];exact((Ext.refl wo).alloc _).below
          have BS:C' (ar V3 wo.heap.size #[As AM 0,As AM zh] 72):=AI (by rw[hV];exact ar.new _ _ _);replace X:=AI (X.trans (hb.mono X.size));replace DA:=AI (DA.below hb);replace BA:=AI (BA.below hb BA.lt);replace BL:=AI (BL.below hb BL.lt);replace XO:=AI (XO.trans (hb.mono XO.size));clear hV hb c0 c1;have s0:V3.cell? ⟨wo.heap.size,0,AF⟩=AS (As AM 0):=BS.out.cell 0;have s1:V3.cell? ⟨wo.heap.size,1,AF⟩=AS (As AM zh):=BS.out.cell 1;obtain⟨⟨i0,i1,i2⟩,_⟩:=BA.three;go_wp2_with fail
          refine(CG2 V3 _ DA).mono ?_;rintro e w5 ⟨rfl,hx⟩;replace XO:=AI (XO.trans (hx.mono XO.size));clear i0 i1 i2;clear hx s0 s1 BS;go_wp2;go_roundw;case rel=>exact⟨2,by omega,by go_num,XO⟩
          case measure=>simp[intOf]
      · obtain rfl:i=2:=by omega
        clear BL XO CG1 CG2;obtain⟨⟨i0,i1,i2⟩,_⟩:=BA.three;go_wp2_with fail
        refine(CB wo _ DA).mono ?_;rintro e w6 ⟨pa,pc,rfl,hs,hx⟩;replace X:=AI (X.trans (hx.mono X.size));replace DA:=AI (DA.below hx);replace BA:=AI (BA.below hx BA.lt);have PL:=AI hs;clear hs hx CB;clear i0 i1 i2;obtain⟨⟨i0,i1,i2⟩,_⟩:=BA.three;go_upto_region 16 with fail
        obtain⟨nm,hnm⟩:∃ k:Nat,k+1=n1:=⟨n1-1,by omega⟩;have Km:=PL.cap
        have hnc : nm ≤ pc := by have : pl.length = n1 := by rw [HPL.out, iJ]
                                 omega
        have hwn:AM.wrap ((n1:Int)-1)=(nm:Int):=by rw[show(n1:Int)-1=(nm:Int) by omega];exact IntWalk.i64_in _ (by omega)
        have kf:min z (-1)=zl:=HZL.symm;have acD:max z 1=z1:=HZ1.symm;have Yz:C' (pl.length=n1):=AI (by rw[HPL.out,iJ]);refine br (fC w6.heap.size (xB w6.heap.size n1 (pl.map aG) (As AM 0) (As AM zl) (As AM z1) (Bs n1 (As AM zl)) (Bs n1 (As AM z1)))) (fC.below (fZ _ _ _ _ _ _ _ _) (Ext.refl w6).drew.below) (fun _ _ _ h k=>h.trans k) (by kernel_rfl) 21 [0,0,2,6,15,0,32,0,224,0,512,1536,0,4096,16352,0,32768,98304,0,262144,1048544,2097151,4194303] (fun i=>i==6 || i==7 || i==8 || i==11 || i==14 || i==17 || i==20) (by kernel_rfl) (fun i=>if i=6 then aU.fact _ _ 0 (fun v=>∃ a c,v=An a n1 c) (An AF n1 0) ⟨AF,0,rfl⟩else if i=7 then aU.fact _ _ 2 (fun v=>∃ b,v=An (AS ⟨b,0,AF⟩) 1 1) (An (AS ⟨0,0,AF⟩) 1 1) ⟨0,rfl⟩else if i=8 then aU.fact _ _ 1 (fun v=>∃ a c,v=An a (n1+1) c) (An AF (n1+1) 0) ⟨AF,0,rfl⟩else if i=11 then aU.fact _ _ 3 (fun v=>∃ b,v=An (AS ⟨b,0,AF⟩) 1 1) (An (AS ⟨0,0,AF⟩) 1 1) ⟨0,rfl⟩else if i=14 then aU.fact _ _ 4 (fun v=>∃ a c,v=An a n1 c) (An AF n1 0) ⟨AF,0,rfl⟩else if i=17 then aU.fact _ _ 5 (fun v=>∃ b,v=An (AS ⟨b,0,AF⟩) 1 1) (An (AS ⟨0,0,AF⟩) 1 1) ⟨0,rfl⟩else if i=20 then aU.fact _ _ 6 (fun v=>∃ a c,v=An a n1 c) (An AF n1 0) ⟨AF,0,rfl⟩else aU.any _) ?_;intro C hC hne;have HC:=AI hC;clear hC
        repeat (refine au (fun K hK=>?_);first | (refine bL rfl ?_;try go_simp;refine hK _ _ ?_;clear hK K) | (refine bJ rfl rfl ?_;unfold az;go_simp;refine hK _ _ ?_;clear hK K))
        refine au (fun K0 hK=>?_);refine bS rfl rfl (aU.fact _ _ 0 (fun v=>∃ a c,v=An a n1 c) (An AF n1 0) ⟨AF,0,rfl⟩) rfl (fun W hW hN=>?_) (fun v hv=>?_)
        · have tT:=(HC.out W).1 hW
          have nI:=tT.1.size;have Zp:aa w6 W:=(tT.1.mono fun z (hz:z<w6.heap.size)=>⟨hz,hz⟩:ae (· <w6.heap.size) w6 W).below;clear hW hK K0 hN tT;go_simp;refine bA ((kH _ pl W (PL.below Zp) (by rw[Yz.out];omega)).mono ?_);rintro e w99 ⟨u,rfl,ho,hx⟩;rw[Yz.out]at ho;have GG:w99.ownsRow w6.heap.size 3 1 u n1 (pl.map aG):=aC ho nI;exact⟨_,rfl,fC.below (fZ _ _ _ _ _ _ _ _) hx,ownsRow_form GG,GG⟩
        obtain⟨ca,cc,rfl⟩:=hv;go_simp;refine hK _ _ ?_;clear hK K0
        repeat (refine au (fun K hK=>?_);first | (refine bL rfl ?_;try go_simp;refine hK _ _ ?_;clear hK K) | (refine bJ rfl rfl ?_;unfold az;go_simp;refine hK _ _ ?_;clear hK K))
        refine au (fun K0 hK=>?_);refine bS rfl rfl (aU.fact _ _ 2 (fun v=>∃ b,v=An (AS ⟨b,0,AF⟩) 1 1) (An (AS ⟨0,0,AF⟩) 1 1) ⟨0,rfl⟩) rfl (fun W hW hN=>?_) (fun v hv=>?_)
        · clear hW hK K0 hN
          go_simp;exact⟨fC.below (fZ _ _ _ _ _ _ _ _) ((Ext.refl _).alloc _).below,⟨_,rfl⟩,fun b hb=>by cases hb;exact ar.new _ _ _⟩
        obtain⟨b7,rfl⟩:=hv;go_simp;refine hK _ _ ?_;clear hK K0
        repeat (refine au (fun K hK=>?_);first | (refine bL rfl ?_;try go_simp;refine hK _ _ ?_;clear hK K) | (refine bJ rfl rfl ?_;unfold az;go_simp;refine hK _ _ ?_;clear hK K))
        refine au (fun K0 hK=>?_);refine bS rfl rfl (aU.fact _ _ 1 (fun v=>∃ a c,v=An a (n1+1) c) (An AF (n1+1) 0) ⟨AF,0,rfl⟩) rfl (fun W hW hN=>?_) (fun v hv=>?_)
        · have tT:=(HC.out W).1 hW
          have nI:=tT.1.size;have h0:W.ownsRow w6.heap.size 3 1 (An ca n1 cc) n1 (pl.map aG):=hN.at 1 rfl (by kernel_rfl);have Pt:∀ b,(An (AS ⟨b7,0,AF⟩) 1 1:Bm)=An (AS ⟨b,0,AF⟩) 1 1→ar W b #[As AM 0] 3:=hN.at 0 rfl (by kernel_rfl);clear hW hK K0 hN tT;refine qP (.tmp 112) (.tmp 113) 39 rfl w6.heap.size 3 iI (As AM 0) 1 8 Tryz.underlying39 uD jl jm jn rfl (by decide) (An ca n1 cc) n1 (pl.map aG) rfl h0 (An (AS ⟨b7,0,AF⟩) 1 1) 1 [As AM 0] rfl (.inr ⟨⟨b7,0,AF⟩,1,rfl,cC (Pt b7 rfl)⟩) rfl (by simp[Value.oneCell']) (by unfold maxLen;omega) (by omega) nI ?_;intro v' w' ho hg halt;rcases halt with hb | ⟨g,cap,y1,y2,y3⟩
          · exact⟨fC.below (fZ _ _ _ _ _ _ _ _) hb,ownsRow_form ho,ho⟩
          · subst y2
            rw[y1]at h0 hg;exact⟨⟨ae.aZ hg fun x hx=>⟨hx.2,fun e=>by cases e;have:=(h0.lt _ rfl).1;have:=hx.1;omega⟩,Ci tM h0 ho hg⟩,⟨_,_,rfl⟩,ho⟩
        obtain⟨la,lc,rfl⟩:=hv;go_simp;refine hK _ _ ?_;clear hK K0
        repeat (refine au (fun K hK=>?_);first | (refine bL rfl ?_;try go_simp;refine hK _ _ ?_;clear hK K) | (refine bJ rfl rfl ?_;unfold az;go_simp;refine hK _ _ ?_;clear hK K))
        refine au (fun K0 hK=>?_);refine bS rfl rfl (aU.fact _ _ 3 (fun v=>∃ b,v=An (AS ⟨b,0,AF⟩) 1 1) (An (AS ⟨0,0,AF⟩) 1 1) ⟨0,rfl⟩) rfl (fun W hW hN=>?_) (fun v hv=>?_)
        · clear hW hK K0 hN
          go_simp;exact⟨fC.below (fZ _ _ _ _ _ _ _ _) ((Ext.refl _).alloc _).below,⟨_,rfl⟩,fun b hb=>by cases hb;exact ar.new _ _ _⟩
        obtain⟨nK,rfl⟩:=hv;go_simp;refine hK _ _ ?_;clear hK K0
        repeat (refine au (fun K hK=>?_);first | (refine bL rfl ?_;try go_simp;refine hK _ _ ?_;clear hK K) | (refine bJ rfl rfl ?_;unfold az;go_simp;refine hK _ _ ?_;clear hK K))
        refine au (fun K0 hK=>?_);refine bS rfl rfl (aU.fact _ _ 4 (fun v=>∃ a c,v=An a n1 c) (An AF n1 0) ⟨AF,0,rfl⟩) rfl (fun W hW hN=>?_) (fun v hv=>?_)
        · have tT:=(HC.out W).1 hW
          have nI:=tT.1.size;have Pt:∀ b,(An (AS ⟨nK,0,AF⟩) 1 1:Bm)=An (AS ⟨b,0,AF⟩) 1 1→ar W b #[As AM zl] 3:=hN.at 0 rfl (by kernel_rfl);clear hW hK K0 hN tT;go_simp;refine bA ((tS nK zl n1 (by omega) W ((Pt nK rfl).cell 0)).mono ?_);rintro e w99 ⟨x9,y9,rfl,ho,hx⟩;exact⟨_,rfl,fC.below (fZ _ _ _ _ _ _ _ _) hx,⟨_,_,rfl⟩,aC ho nI⟩
        obtain⟨ra1,rc1,rfl⟩:=hv;go_simp;refine hK _ _ ?_;clear hK K0
        repeat (refine au (fun K hK=>?_);first | (refine bL rfl ?_;try go_simp;refine hK _ _ ?_;clear hK K) | (refine bJ rfl rfl ?_;unfold az;go_simp;refine hK _ _ ?_;clear hK K))
        refine au (fun K0 hK=>?_);refine bS rfl rfl (aU.fact _ _ 5 (fun v=>∃ b,v=An (AS ⟨b,0,AF⟩) 1 1) (An (AS ⟨0,0,AF⟩) 1 1) ⟨0,rfl⟩) rfl (fun W hW hN=>?_) (fun v hv=>?_)
        · clear hW hK K0 hN
          go_simp;exact⟨fC.below (fZ _ _ _ _ _ _ _ _) ((Ext.refl _).alloc _).below,⟨_,rfl⟩,fun b hb=>by cases hb;exact ar.new _ _ _⟩
        obtain⟨b17,rfl⟩:=hv;go_simp;refine hK _ _ ?_;clear hK K0
        repeat (refine au (fun K hK=>?_);first | (refine bL rfl ?_;try go_simp;refine hK _ _ ?_;clear hK K) | (refine bJ rfl rfl ?_;unfold az;go_simp;refine hK _ _ ?_;clear hK K))
        refine au (fun K0 hK=>?_);refine bS rfl rfl (aU.fact _ _ 6 (fun v=>∃ a c,v=An a n1 c) (An AF n1 0) ⟨AF,0,rfl⟩) rfl (fun W hW hN=>?_) (fun v hv=>?_)
        · have tT:=(HC.out W).1 hW
          have nI:=tT.1.size;have Pt:∀ b,(An (AS ⟨b17,0,AF⟩) 1 1:Bm)=An (AS ⟨b,0,AF⟩) 1 1→ar W b #[As AM z1] 3:=hN.at 0 rfl (by kernel_rfl);clear hW hK K0 hN tT;go_simp;refine bA ((tS b17 z1 n1 (by omega) W ((Pt b17 rfl).cell 0)).mono ?_);rintro e w99 ⟨x9,y9,rfl,ho,hx⟩;exact⟨_,rfl,fC.below (fZ _ _ _ _ _ _ _ _) hx,⟨_,_,rfl⟩,aC ho nI⟩
        obtain⟨rb1,rc2,rfl⟩:=hv;go_simp;refine hK _ _ ?_;clear hK K0;refine bC (fun W7 hW hH=>?_);have tT:=(HC.out W7).1 hW;have hb:aa w6 W7:=(tT.1.mono fun z (hz:z<w6.heap.size)=>⟨hz,hz⟩:ae (· <w6.heap.size) w6 W7).below;have F1:C' (W7.ownsRow w6.heap.size 3 1 (An la (n1+1) lc) (n1+1) (pl.map aG++ [As AM 0])):=AI (hH _ (ax (show _=AS _ from rfl:_[4]? =AS _)));have F2:C' (W7.ownsRow w6.heap.size 3 1 (An ra1 n1 rc1) n1 (Bs n1 (As AM zl))):=AI (hH _ (ax (show _=AS _ from rfl:_[2]? =AS _)));have F3:C' (W7.ownsRow w6.heap.size 3 1 (An rb1 n1 rc2) n1 (Bs n1 (As AM z1))):=AI (hH _ (ax (show _=AS _ from rfl:_[0]? =AS _)));replace X:=AI (X.trans (hb.mono X.size));replace DA:=AI (DA.below hb);replace BA:=AI (BA.below hb BA.lt);replace PL:=AI (PL.below hb);have G1:C' (bw aG W7 (An la (n1+1) lc) (pl++ [0])):=AI (bU (base:=w6.heap.size) (e:=3) (by rw[List.map_append];exact F1) (by rw[aJ,Yz.out];rfl));have G2:C' (bw aG W7 (An ra1 n1 rc1) (Bs n1 zl)):=AI (bU (base:=w6.heap.size) (e:=3) (by rw[FG];exact F2) (by rw[DS]));have G3:C' (bw aG W7 (An rb1 n1 rc2) (Bs n1 z1)):=AI (bU (base:=w6.heap.size) (e:=3) (by rw[FG];exact F3) (by rw[DS]));have G0:C' (bw aG W7 (An pa nm pc) (pl.take nm)):=AI (PL.take nm (by omega));have HS7:C' (w6.heap.size≤W7.heap.size):=AI tT.1.size;clear tT hb hW hH HC hne F1 F2 F3 kf acD;go_upto_region 17 with fail
        refine aw ?_;intro V4 hV;have hb:aa W7 V4:=by rw[hV];exact((Ext.refl W7).alloc _).below
        have BB:C' (ar V4 W7.heap.size #[An pa nm pc,An la (n1+1) lc,An ra1 n1 rc1,An rb1 n1 rc2] 39):=AI (by rw[hV];exact ar.new _ _ _);replace X:=AI (X.trans (hb.mono X.size));replace DA:=AI (DA.below hb);replace BA:=AI (BA.below hb BA.lt);replace PL:=AI (PL.below hb);replace G0:=AI (G0.below hb);replace G1:=AI (G1.below hb);replace G2:=AI (G2.below hb);replace G3:=AI (G3.below hb);clear hV hb
        have BD:C' (tV a V4 W7.heap.size 4):=AI ⟨BB.lt,fun i hi=>by
          have c:=BB.cell i;rcases(show i=0∨i=1∨i=2∨i=3 by omega)with rfl | rfl | rfl | rfl
          · exact⟨pa,nm,pc,pl.take nm,c,G0,N1 _ (by rw[List.length_take,Yz.out];omega)⟩
          · exact⟨la,n1+1,lc,pl++ [0],c,G1,N1 _ (by rw[aJ,Yz.out];show n1+1≠n1;omega)⟩
          · exact⟨ra1,n1,rc1,Bs n1 zl,c,G2,N2⟩
          · exact⟨rb1,n1,rc2,Bs n1 z1,c,G3,N3⟩⟩
        have OB:C' (V4.ownsRow W7.heap.size 39 1 (An (AS ⟨W7.heap.size,0,AF⟩) 4 4) 4 [An pa nm pc,An la (n1+1) lc,An ra1 n1 rc1,An rb1 n1 rc2]):=AI ⟨rfl,.inr ⟨_,4,_,rfl,aF _,BB,by decide,by decide,rfl,rfl⟩⟩;clear BB G0 G1 G2 G3 N1 N2 N3;go_wp2_with fail
        refine(CX V4 _ PL).mono ?_;rintro e w8 ⟨rfl,hx⟩;replace X:=AI (X.trans (hx.mono X.size));replace DA:=AI (DA.below hx);replace BA:=AI (BA.below hx BA.lt);replace PL:=AI (PL.below hx);replace BD:=AI (BD.below hx);replace OB:=AI (ai OB hx);clear hx CX
        go_upto_if 130 with fail
        go_cut [16] from 130 to 136 (fun bv wx=>∃ cnt bb cap,bv=An (AS ⟨bb,0,AF⟩) cnt cap∧cnt≤5∧tV a wx bb cnt∧aa w8 wx)
        case first=>
          by_cases hm:0<mx
          · skip
            have dm:=decide_eq_true hm;have hn9:n1≤1000000:=by omega
            go_wp2_with (at_make;refine wpList_make_full _ rfl (.tmp 133) (.tmp 133) 39 rfl w8.heap.size 3 iI (As AM 0) 1 Tryz.underlying39 uD jl jm AM AM _ _ n1 rfl rfl rfl rfl (by rw[jn];omega) (by unfold maxLen;omega) (aF _) ?_;intro wm hr hg;refine Hid.out ?_)
            refine AI ?_;have hb3:aa w8 wm:=(ae.aZ hg fun x hx=>⟨hx,fun e=>by cases e⟩:ae (· <w8.heap.size) w8 wm).below;rw[om]at hr;have GZ:=AI (bU hr (by rw[DS]));have BDM:=AI (BD.below hb3);have OBM:=AI (ai OB hb3);have XM:=AI hb3;have hmz:W7.heap.size≤wm.heap.size:=Nat.le_of_lt BDM.1;have NZ:=AI (N4.out hm);clear hr hg hb3 hm;obtain⟨iL,uC,j6,j7,j8⟩:=info_parts Tryz.pd;go_wp2_with (at_builtin;refine Hid.out ?_);refine AI ?_;refine jN rfl (.tmp 131) (.tmp 135) 27 rfl W7.heap.size 39 iL (An AF 0 0) 1 24 Tryz.underlying27 uC j6 j7 j8 rfl (by decide) ⟨W7.heap.size,0,AF⟩ 4 _ rfl OBM.1 (fun j u hj=>by rw[Addr.add_mid,Nat.zero_add];exact((OBM.alloc _).cellAt j (AT.1 hj).1).trans hj) ⟨wm.heap.size,0,AF⟩ 1 1 [An (AS ⟨w8.heap.size,0,AF⟩) n1 n1] rfl (dO _ _ _) rfl (by decide) (by decide) (by decide) (by simp;omega) ?_;intro v' w5 mL Gb hat
            obtain⟨g5,c5,rfl⟩:∃ g c,v'=An (AS ⟨g,0,AF⟩) 5 c:=by
              rcases mL.2 with⟨h,_⟩ | ⟨g,c,_,h,_⟩
              · rw[h]at hat;cases hat
              · exact⟨g,c,h⟩
            have hbm:aa wm w5:=((Ext.refl wm).alloc _).below.trans (Gb.mono (by simp));have BD5:=AI (BDM.snoc OBM GZ NZ hbm mL);have X5:=AI (XM.trans (hbm.mono XM.size));clear mL Gb hat hbm;go_wp2
            go_meet
            exact⟨5,_,_,rfl,by decide,BD5,X5⟩
          · skip
            have dm:=decide_eq_false hm;go_wp2_with fail
            go_meet
            exact⟨4,_,_,rfl,by decide,BD,Below.refl _ _⟩
        case rest=>
        obtain⟨cnt,bb,cap,rfl,WM,Tt,Te⟩:=hcut;obtain⟨V6,rfl⟩:=ag (wc:A');clear BD OB N4;replace X:=AI (X.trans (Te.mono X.size));replace DA:=AI (DA.below Te);replace BA:=AI (BA.below Te BA.lt);replace PL:=AI (PL.below Te);have BD:=AI Tt;clear Tt Te;go_upto_region 20 with fail
        go_loopw [17,18,19,20,139] (fun _ _ _ _ iv wr=>∃ k:Nat,k≤cnt∧iv=As AM k∧aa V6 wr) (fun _ _ _ _ iv _=>cnt-(intOf iv).toNat)
        case atStart=>exact⟨0,by omega,rfl,Below.refl _ _⟩
        case round=>
          obtain⟨k,hk,rfl,hx⟩:=hrel;obtain⟨wo,rfl⟩:=ag (wr:A');have XO:=AI hx;replace X:=AI (X.trans (hx.mono X.size));replace DA:=AI (DA.below hx);replace BA:=AI (BA.below hx BA.lt);replace PL:=AI (PL.below hx);replace BD:=AI (BD.below hx);clear hx;by_cases hlt:k<cnt
          · skip
            have ed:(k:Int)<cnt:=by omega
            obtain⟨lx,ln,ly,ll,hc,hs,hno⟩:=BD.2 k hlt;have SL:=AI hs;have pG:=AI hno;clear hs hno;obtain⟨⟨i0,i1,i2⟩,_⟩:=BA.three;go_wp2_with fail
            refine(CN wo _ _ ll DA SL pG).mono ?_;rintro e w9 ⟨rfl,hx⟩;replace XO:=AI (XO.trans (hx.mono XO.size));clear i0 i1 i2;clear hx hc SL pG;go_upto_region 23 with fail
            refine aw ?_;intro V9 hV;have BM:C' (ar V9 w9.heap.size #[An AF 0 0,An AF 0 0,An AF 0 0] 29):=AI (by rw[hV];exact ar.new _ _ _);replace XO:C' (aa V6 V9):=AI (XO.trans ((show aa w9 V9 by rw[hV];exact((Ext.refl w9).alloc _).below).mono XO.size));clear hV;obtain⟨⟨j0,j1,j2⟩,_⟩:=BM.three;obtain⟨b4,hb4⟩:=ag (((k:Int)==4));have t4:((k:Int)==4)=b4:=hb4.symm;obtain⟨bl,hbl⟩:=ag (decide ((k:Int)<4));have tl:decide ((k:Int)<4)=bl:=hbl.symm;clear hb4 hbl;cases b4 with
            | false =>
              go_wp2;go_roundw;case rel => exact ⟨k + 1, by omega, by go_num, XO⟩
              case measure => simp [intOf]; omega
            | true =>
              go_wp2;go_roundw;case rel => exact ⟨k + 1, by omega, by go_num, XO⟩
              case measure => simp [intOf]; omega
          · obtain rfl:k=cnt:=by omega
            have ed:¬ ((k:Int)<k):=by omega
            clear BD XO CN;obtain⟨⟨i0,i1,i2⟩,_⟩:=BA.three;go_wp2_with fail
            refine(CQ wo _ DA).mono ?_;rintro e oU ⟨f0,g0,f1,g1,f2,g2,rfl,ho,hx⟩;have OX:=AI ho;have Z:=AI hx;clear i0 i1 i2;clear ho hx CQ;go_upto_region 27 with fail
            refine aw ?_;intro V7 hV;have BX:C' (ar V7 oU.heap.size #[An f0 n0 g0,An f1 n1 g1,An f2 n2 g2] 29):=AI (by rw[hV];exact ar.new oU _ _);have XN:C' (aa oU V7):=AI (by rw[hV];exact((Ext.refl _).alloc _).below);clear hV;replace Z:=AI (Z.trans (XN.mono Z.size));obtain⟨ga,gr,rc,ur,rfl,hga,NN,hgr1,hgr2,hA⟩:=VF RA RA.Rh pS gS pO OX aja zh aep;have S7:V7.cell? ⟨ga,0,AF⟩=AS (An (AS ⟨gr,0,AF⟩) n0 rc):=((ae.aj XN fun _ h=>h:ae (· <oU.heap.size) oU V7).cell (p:=⟨ga,0,AF⟩) hga).trans NN;have PK:=AI hA;have HGA:=AI hga;have HG1:=AI hgr1;have HG2:=AI hgr2;have S10:C' (wo.heap.size≤oU.heap.size):=AI (Nat.le_of_lt (Nat.lt_of_le_of_lt hgr1 hgr2));clear hA hga NN hgr1 hgr2;have q1:((n1:Int)==0)=false:=by simp;omega
            have q0:((n0:Int)==0)=false:=by simp;omega
            have aeu:(0:Int)<n1:=by omega
            have arf:0<n1:=by omega
            have aev:(0:Int)<n0:=by omega
            obtain⟨d0,d1,d2⟩:=aM.fj BX;go_upto_region 29 with fail
            go_upto_block 4 with fail
            go_cut [218] from 197 to 218 (fun _ wx=>∃ u0 c0 u1 c1 u2 c2 k0 k1 k2 DX,ar wx oU.heap.size #[An u0 k0 c0,An u1 k1 c1,An u2 k2 c2] 29∧bV wx (DH #[An u0 k0 c0,An u1 k1 c1,An u2 k2 c2]) DX∧DX.right=DE∧Sm DX∧aa wo wx)
            case first=>
              rcases(show way%3=0∨way%3=1∨way%3=2 by omega)with h3 | h3 | h3
              · skip
                have t0:((way:Int)%3==0)=true:=by simp;omega
                clear h3;go_upto_region 32 with fail
                have arh:max z (n1:Int)=zh:=HZH.symm;refine aI DE (fun _=>False) (by kernel_rfl) 9 [0,1,3,7,0,0,32,96,240,511,1023] (fun i=>i==10) (by kernel_rfl) (fun _=>aU.any _) ?_;intro C hC hne;have HC:=AI hC;have k1:=aD hC (p:=⟨oU.heap.size,1,AF⟩) BX.lt (fun h=>h) d1;have k3:=aD hC (p:=⟨ga,0,AF⟩) (ay HGA XN.size) (fun h=>h) S7;clear hC d0 d1 d2 S7
                repeat (refine au (fun K hK=>?_);first | (refine bL rfl ?_;try go_simp;refine hK _ _ ?_;clear hK K) | (refine bJ rfl rfl ?_;unfold az;go_simp;refine hK _ _ ?_;clear hK K))
                refine bC (fun W hW hH=>?_);have hM:=(HC.out W).1 hW;have XW:=AI (XN.trans (hM.below.mono XN.size));have Z8:=AI (Z.trans (hM.below.mono Z.size));have BX8:=AI (BX.below hM.below BX.lt);obtain⟨hrf,hrc,DX,odx,ndx,sdx⟩:=PK.out W XW;clear hM hW hH HC hne k1 k3;go_wp2_with fail
                go_meet
                have K8:ae (· ≠gr) W (W.setCell ⟨gr,0,AF⟩ (As AM zh)):=(ae.refl _ _).setCell (p:=⟨gr,0,AF⟩) (fun h=>h rfl) _;have g1:=HG1.out;have g2:=HG2.out;exact⟨_,_,_,_,_,_,_,_,_,DX,BX8.keeps K8 (by show oU.heap.size≠gr;omega),odx.df,ndx,sdx,Z8.trans (K8.mono fun x (hx:x<wo.heap.size)=>by show x≠gr;omega:ae (· <wo.heap.size) W _).below⟩
              · skip
                have t0:((way:Int)%3==0)=false:=by simp;omega
                have t1:((way:Int)%3==1)=true:=by simp;omega
                clear h3;obtain⟨v0,v1,v2,ev,hs0,hs1,hs2⟩:=OX.df;cases ev;have aas:=S10.out;have K9:∀ v,ae (· ≠oU.heap.size) V7 (V7.setCell ⟨oU.heap.size,2,AF⟩ v):=fun v=>(ae.refl _ _).setCell (p:=⟨oU.heap.size,2,AF⟩) (fun h=>h rfl) v
                have X9:∀ v,aa oU (V7.setCell ⟨oU.heap.size,2,AF⟩ v):=fun v=>XN.trans ((K9 v).mono fun x (hx:x<oU.heap.size)=>by show x≠_;omega:ae (· <oU.heap.size) V7 _).below
                have Z9:∀ v,aa wo (V7.setCell ⟨oU.heap.size,2,AF⟩ v):=fun v=>Z.trans ((K9 v).mono fun x (hx:x<wo.heap.size)=>by show x≠_;omega:ae (· <wo.heap.size) V7 _).below
                have XH:=AI X9;have ZH:=AI Z9;clear K9 X9 Z9 aas;obtain⟨⟨y0,y1,y2⟩,y3,y4,y5⟩:=BX.three;clear d0 d1 d2 S7 aeu aev q0 q1;have J2:=AI hs0;have HS1:=AI hs1;have H5:=AI hs2;clear hs0 hs1 hs2;have dP:1≤n2:=by have:=ajb.out;omega
                obtain⟨b9,o9,rfl⟩:∃ b o,f2=AS ⟨b,o,AF⟩:=by
                  obtain⟨us,_,hu,_⟩:=H5.out;rcases hu with⟨h,_⟩ | ⟨b,o,c,h,_⟩
                  · injection h;omega
                  · injection h with h;exact⟨b,o,h⟩
                have yO:n2≤g2:=by obtain⟨us,_,hu,_⟩:=H5.out;exact hu.cap
                by_cases hg:g2=1
                · subst hg
                  go_wp2_with fail
                  go_meet
                  exact⟨_,_,_,_,_,_,_,_,_,DF.mk a.cl a.nx (a.mr.drop 1),BX.set 2 _,⟨_,_,_,rfl,⟨J2.1.below (XH _),J2.2⟩,HS1.below (XH _),(H5.drop1 (by omega) (by omega) (.inl (by omega))).below (XH _)⟩,rN RA,RA.Rh.Xe,ZH _⟩
                · go_wp2_with fail
                  go_meet
                  exact⟨_,_,_,_,_,_,_,_,_,DF.mk a.cl a.nx (a.mr.drop 1),BX.set 2 _,⟨_,_,_,rfl,⟨J2.1.below (XH _),J2.2⟩,HS1.below (XH _),(H5.drop1 (by omega) (by omega) (.inr rfl)).below (XH _)⟩,rN RA,RA.Rh.Xe,ZH _⟩
              · skip
                have t0:((way:Int)%3==0)=false:=by simp;omega
                have t1:((way:Int)%3==1)=false:=by simp;omega
                clear h3;obtain⟨v0,v1,v2,ev,hs0,hs1,hs2⟩:=OX.df;cases ev;have aas:=S10.out;have K9:∀ v,ae (· ≠oU.heap.size) V7 (V7.setCell ⟨oU.heap.size,0,AF⟩ v):=fun v=>(ae.refl _ _).setCell (p:=⟨oU.heap.size,0,AF⟩) (fun h=>h rfl) v
                have X9:∀ v,aa oU (V7.setCell ⟨oU.heap.size,0,AF⟩ v):=fun v=>XN.trans ((K9 v).mono fun x (hx:x<oU.heap.size)=>by show x≠_;omega:ae (· <oU.heap.size) V7 _).below
                have Z9:∀ v,aa wo (V7.setCell ⟨oU.heap.size,0,AF⟩ v):=fun v=>Z.trans ((K9 v).mono fun x (hx:x<wo.heap.size)=>by show x≠_;omega:ae (· <wo.heap.size) V7 _).below
                have XH:=AI X9;have ZH:=AI Z9;clear K9 X9 Z9 aas;obtain⟨⟨y0,y1,y2⟩,y3,y4,y5⟩:=BX.three;clear d0 d1 d2 S7 aeu aev q0 q1;have J2:=AI hs0;have HS1:=AI hs1;have H5:=AI hs2;clear hs0 hs1 hs2
                obtain⟨b9,o9,rfl⟩:∃ b o,f0=AS ⟨b,o,AF⟩:=by
                  rcases J2.1 with⟨h,_⟩ | ⟨b,o,c,h,_⟩
                  · injection h;omega
                  · injection h with h;exact⟨b,o,h⟩
                have yO:n0≤g0:=J2.2 _ _ _ rfl;by_cases hg:g0=1
                · subst hg
                  go_wp2_with fail
                  go_meet
                  exact⟨_,_,_,_,_,_,_,_,_,DF.mk (a.cl.drop 1) a.nx a.mr,BX.set 0 _,⟨_,_,_,rfl,gF.drop1 ⟨J2.1.below (XH _),J2.2⟩ (by omega) (by omega) (.inl (by omega)),HS1.below (XH _),H5.below (XH _)⟩,nS RA,RA.Rh.Xd,ZH _⟩
                · go_wp2_with fail
                  go_meet
                  exact⟨_,_,_,_,_,_,_,_,_,DF.mk (a.cl.drop 1) a.nx a.mr,BX.set 0 _,⟨_,_,_,rfl,gF.drop1 ⟨J2.1.below (XH _),J2.2⟩ (by omega) (by omega) (.inr rfl),HS1.below (XH _),H5.below (XH _)⟩,nS RA,RA.Rh.Xd,ZH _⟩
            case rest=>
            obtain⟨u0,c0,u1,c1,u2,c2,k0,k1,k2,DX,hB,hD,hR,hS,hZ⟩:=hcut;obtain⟨V8,rfl⟩:=ag (wc:A');clear BX XN PK HGA HG1 HG2 OX Z d0 d1 d2 S7 S10;have BX:=AI hB;have DB:=AI hD;have Z:=AI hZ;clear hB hD hZ;have ND:=AI hR;have SD:=AI hS;clear hR hS;have E1:C' (∀ W u,bV W u DX→ah 36 #[u] W fun e w'=>e=AN (Cd #[An AF 0 0,As AM 182])∧aa W w'):=AI fun W u h=>Jb SD ND W u h
            have E2:C' (∀ W u,bV W u DX→ah 40 #[u] W fun e w'=>e=AN (Cd #[An AF 0 0,As AM 182])∧aa W w'):=AI fun W u h=>FD SD ND W u h
            have E3:C' (∀ W u,bV W u DX→ah 12 #[u] W fun e w'=>e=AN (Cd #[DH #[An AF 0 0,An AF 0 0,An AF 0 0],As AM 182])∧aa W w'):=AI fun W u h=>Nl SD ND W u h
            have E4:C' (∀ W u,bV W u DX→ah 13 #[u] W fun e w'=>e=AN (Cd #[C_ DE,As AM 182])∧aa W w'):=AI fun W u h=>FC SD ND W u h
            have E5:C' (∀ W u,bV W u DX→ah 14 #[u] W fun e w'=>e=AN (Cd #[As AM 0,As AM 0,As AM 182])∧aa W w'):=AI fun W u h=>Sz SD ND W u h
            have E6:C' (∀ W u v,bV W u a→bV W v DX→ah 32 #[u,v] W fun e w'=>e=AN (Cd #[An AF 0 0,C_ DE,As AM 182])∧aa W w'):=AI fun W u v h h'=>Jh RA SD ND W u v h h'
            have E7:C' (∀ W u v,bV W u DX→bV W v a→ah 32 #[u,v] W fun e w'=>e=AN (Cd #[An AF 0 0,C_ DE,As AM 182])∧aa W w'):=AI fun W u v h h'=>Jg a SD ND W u v h h'
            have E8:C' (∀ W u,bV W u DX→ah 18 #[u,As AM 0,As AM 0] W fun e w'=>e=AN (Cd #[An AF 0 0,C_ DE,As AM 182])∧aa W w'):=AI fun W u h=>Nv SD ND 0 0 W u h
            have E9:C' (∀ W u v,bV W u DX→bw aG W v pl→ah 39 #[u,v] W fun e w'=>e=AN (Cd #[DH #[An AF 0 0,An AF 0 0,An AF 0 0],As AM 182])∧aa W w'):=AI fun W u v h h'=>Np SD ND W u v pl h' h
            clear SD ND;obtain⟨d0,d1,d2⟩:=aM.fj BX;go_wp2_with fail
            refine(E1 V8 _ DB).mono ?_;rintro e y1 ⟨rfl,hx⟩;replace Z:=AI (Z.trans (hx.mono Z.size));replace BX:=AI (BX.below hx BX.lt);replace DB:=AI (DB.below hx);clear hx d0 d1 d2 E1;obtain⟨d0,d1,d2⟩:=aM.fj BX;go_wp2_with fail
            refine(E2 y1 _ DB).mono ?_;rintro e y2 ⟨rfl,hx⟩;replace Z:=AI (Z.trans (hx.mono Z.size));replace BX:=AI (BX.below hx BX.lt);replace DB:=AI (DB.below hx);clear hx d0 d1 d2 E2;obtain⟨d0,d1,d2⟩:=aM.fj BX;go_wp2_with fail
            refine(E3 y2 _ DB).mono ?_;rintro e y3 ⟨rfl,hx⟩;replace Z:=AI (Z.trans (hx.mono Z.size));replace BX:=AI (BX.below hx BX.lt);replace DB:=AI (DB.below hx);clear hx d0 d1 d2 E3;go_upto_region 38 with fail
            refine aw ?_;intro U3 hV;have hb:aa y3 U3:=by rw[hV];exact((Ext.refl _).alloc _).below
            clear hV;replace Z:=AI (Z.trans (hb.mono Z.size));replace BX:=AI (BX.below hb BX.lt);replace DB:=AI (DB.below hb);clear hb;obtain⟨d0,d1,d2⟩:=aM.fj BX;go_wp2_with fail
            refine(E4 U3 _ DB).mono ?_;rintro e y4 ⟨rfl,hx⟩;replace Z:=AI (Z.trans (hx.mono Z.size));replace BX:=AI (BX.below hx BX.lt);replace DB:=AI (DB.below hx);clear hx d0 d1 d2 E4;obtain⟨d0,d1,d2⟩:=aM.fj BX;go_wp2_with fail
            refine(E5 y4 _ DB).mono ?_;rintro e y5 ⟨rfl,hx⟩;replace Z:=AI (Z.trans (hx.mono Z.size));replace BX:=AI (BX.below hx BX.lt);replace DB:=AI (DB.below hx);clear hx d0 d1 d2 E5;obtain⟨d0,d1,d2⟩:=aM.fj BX;obtain⟨i0,i1,i2⟩:=aM.fj (BA.below Z BA.lt);go_wp2_with fail
            refine(E6 y5 _ _ (DA.below Z) DB).mono ?_;rintro e y6 ⟨rfl,hx⟩;replace Z:=AI (Z.trans (hx.mono Z.size));replace BX:=AI (BX.below hx BX.lt);replace DB:=AI (DB.below hx);clear hx d0 d1 d2 E6;clear i0 i1 i2;obtain⟨d0,d1,d2⟩:=aM.fj BX;obtain⟨i0,i1,i2⟩:=aM.fj (BA.below Z BA.lt);go_wp2_with fail
            refine(E7 y6 _ _ DB (DA.below Z)).mono ?_;rintro e y7 ⟨rfl,hx⟩;replace Z:=AI (Z.trans (hx.mono Z.size));replace BX:=AI (BX.below hx BX.lt);replace DB:=AI (DB.below hx);clear hx d0 d1 d2 E7;clear i0 i1 i2;obtain⟨d0,d1,d2⟩:=aM.fj BX;go_wp2_with fail
            refine(E8 y7 _ DB).mono ?_;rintro e y8 ⟨rfl,hx⟩;replace Z:=AI (Z.trans (hx.mono Z.size));replace BX:=AI (BX.below hx BX.lt);replace DB:=AI (DB.below hx);clear hx d0 d1 d2 E8;obtain⟨d0,d1,d2⟩:=aM.fj BX;go_wp2_with fail
            refine(E9 y8 _ _ DB (PL.below Z)).mono ?_;rintro e y9 ⟨rfl,hx⟩;replace Z:=AI (Z.trans (hx.mono Z.size));replace BX:=AI (BX.below hx BX.lt);replace DB:=AI (DB.below hx);clear hx d0 d1 d2 E9;go_upto_region 44 with fail
            refine aw ?_;intro U9 hV;have hb:aa y9 U9:=by rw[hV];exact((Ext.refl _).alloc _).below
            clear hV;replace Z:=AI (Z.trans (hb.mono Z.size));replace BX:=AI (BX.below hb BX.lt);replace DB:=AI (DB.below hb);clear hb;clear BX DB;go_upto_region 45 with fail
            refine aw ?_;intro UA hV;have hb:aa U9 UA:=by rw[hV];exact((Ext.refl _).alloc _).below
            have BE:C' (ar UA U9.heap.size #[As AM 182,As AM 182,As AM 182,As AM 182,As AM 182,As AM 182,As AM 182,As AM 182,As AM 182] 32):=AI (by rw[hV];exact ar.new _ _ _);replace Z:=AI (Z.trans (hb.mono Z.size));clear hV hb;go_loopw [45,282] (fun _ iv wr=>∃ j:Nat,j≤9∧iv=As AM j∧aa UA wr) (fun _ iv _=>9-(intOf iv).toNat);case atStart=>exact⟨0,by omega,rfl,Below.refl _ _⟩
            case round=>
              obtain⟨j,hj,rfl,hx⟩:=hrel;obtain⟨wp,rfl⟩:=ag (wr:A');have XP:=AI hx;by_cases hlj:j<9
              · have jA:(j:Int)<9:=by omega
                have hc:wp.cell? ⟨U9.heap.size,j,AF⟩=AS (As AM 182):=by rw[(BE.below hx BE.lt).cell];rcases(show j=0∨j=1∨j=2∨j=3∨j=4∨j=5∨j=6∨j=7∨j=8 by omega)with rfl | rfl | rfl | rfl | rfl | rfl | rfl | rfl | rfl<;>rfl
                clear hx;go_wp2;go_roundw;case rel=>exact⟨j+1,by omega,by go_num,XP⟩
                case measure=>simp[intOf];omega
              · obtain rfl:j=9:=by omega
                go_wp2;go_ret;exact⟨rfl,X.trans ((Z.trans (XP.mono Z.size)).mono X.size)⟩
theorem rM.shape {w:A'} {v:Bm} {l:List (List (Nat×Nat×Nat))} {fl:Nat} (h:rM w v l fl):∃ a n c,v=DH #[An a n c,As Ft fl]:=by
 obtain⟨u,rfl,h⟩:=h;rcases h with⟨p,c,rfl,_⟩ | ⟨b,off,c,rfl,_⟩
 ·exact⟨_,_,_,rfl⟩
 ·exact⟨_,_,_,rfl⟩
theorem NC (v:Bm) (l:List (List (Nat×Nat×Nat))) (iE:l.length<=1000000000000000) (fl:Nat) (oW:fl<256) (w:A') (h:rM w v l fl) (hT:∀ W,aa w W->nB W): ∃ (d:DF) (ok:Bool) (n0 n1 n2:Nat),(n0=d.cl.length/\n1=d.nx.length/\n2=d.mr.length/\(ok=D0->Rt d/\d.nx.length<=60))/\∀ W,aa w W->ah 11 #[v] W (BQ n0 n1 n2 ok d W):=by
 rcases MN l fl oW with⟨d,he,rt,h60⟩ | he
 ·exact⟨d,D0,_,_,_,⟨rfl,rfl,rfl,fun _=>⟨rt,h60⟩⟩,fun W hW=>xm v fl oW l iE he (fun _=>rt.pos) rfl rfl rfl W (h.below hW) fun V hV=>hT V (hW.trans (hV.mono hW.size))⟩
 ·exact⟨⟨[],[],[]⟩,DE,_,_,_,⟨rfl,rfl,rfl,fun e=>by cases e⟩,fun W hW=>xm v fl oW l iE he (fun e=>by cases e) rfl rfl rfl W (h.below hW) fun V hV=>hT V (hW.trans (hV.mono hW.size))⟩
theorem sS (v0:Bm) (l0:List (List (Nat×Nat×Nat))) (g0:l0.length<=1000000000000000) (f0:Nat) (u0:f0<256) (x1:Nat) (u1:x1<256) (x2:Int) (w:A') (h0:rM w v0 l0 f0) (hT:∀ W,aa w W->nB W): ah 6 #[v0,As Ft x1,As AM x2] w fun e w'=>e=AN (C_ D0)/\aa w w':=by obtain⟨a,oka,n0,n1,n2,VG,Mw⟩:=NC v0 l0 g0 f0 u0 w h0 hT;obtain⟨_,_,_,hv⟩:=h0.shape;exact Jm v0 x1 u1 x2 a oka VG.2.2.2 VG.1 VG.2.1 VG.2.2.1 w ⟨_,_,_,_,hv⟩ (fun W hW=>FX W fun V hV=>hT V (hW.trans (hV.mono hW.size))) Mw
end
end Go.Proofs.YtjgccapbphadjaaGreatDoor
