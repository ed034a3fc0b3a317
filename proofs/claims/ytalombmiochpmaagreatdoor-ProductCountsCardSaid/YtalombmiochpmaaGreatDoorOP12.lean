/- Plain facts on automata: the string that First finds is the reference's first one; counts. -/
import Derived.Test.YtalombmiochpmaaGreatDoorOP11
set_option maxRecDepth 100000
set_option maxHeartbeats 16000000
open Go.Lib (hid)
namespace Go.Proofs.YtalombmiochpmaaGreatDoor
open Go Go.RowKit Go.Shelf Go.Maps
attribute [local go_sem] encS
theorem rI {a b:DF} (h:(a.right&&b.right)=false) (op f:Int):bI a b op f=(EG,182):=by unfold bI;rw[if_pos h]
theorem Qt (W:World):(binOp BinOp.eql 73 .nilFunc .nilFunc).run Tryz.prog W=.ok (.bool true) W:=by kernel_rfl
theorem Iu (op:Nat):∃ sv,(sv=.nilFunc\/∃ g,sv=.func (.func g) #[] #[])/\(sv=.nilFunc↔(op<1\/4<op))/\∀ W,Calls Tryz.prog 32 #[.int .u8 op] W fun e w'=>e=.returned sv/\w'=W:=by
 by_cases h:op=0\/4<op
 ·exact⟨.nilFunc,.inl rfl,⟨fun _=>by omega,fun _=>rfl⟩,fun W=>H9 op h W⟩
 ·exact⟨_,.inr ⟨_,rfl⟩,⟨fun h'=>by simp at h',fun h'=>by omega⟩,fun W=>xB op (by omega) (by omega) W⟩
theorem Bf (v v':Value) (a b:DF) (sa:Sm a) (sb:Sm b) (op:Nat) (f:Int) (EI:(a.right&&b.right)=false\/(op<1\/4<op)\/(f<0\/4000<f)\/f=0) (w:World) (h:bJ w v a) (h':bJ w v' b): Calls Tryz.prog 12 #[v,v',.int .u8 op,.int .i64 f] w fun e w'=>∃ u,e=.returned (.tuple #[u,.int .i64 (bI a b op f).2])/\aT w.heap.size w' u (bI a b op f).1/\Below w.heap.size w w':=by
 have CR:Hid (∀ W,Below w.heap.size w W->Calls Tryz.prog 13 #[v] W fun e w'=>e=.returned (.bool a.right)/\Below W.heap.size W w'):=fun W hW=>cU v a W (h.below hW) sa
 have Yi:Hid (∀ W,Below w.heap.size w W->Calls Tryz.prog 13 #[v'] W fun e w'=>e=.returned (.bool b.right)/\Below W.heap.size W w'):=fun W hW=>cU v' b W (h'.below hW) sb
 obtain⟨sv,hsv,Pm,CS0⟩:=Iu op;have CS:Hid (∀ W,Calls Tryz.prog 32 #[.int .u8 op] W fun e w'=>e=.returned sv/\w'=W):=CS0;obtain⟨v0,v1,v2,rfl,h0,h1,h2⟩:=h;obtain⟨u0,u1,u2,rfl,g0,g1,g2⟩:=h';obtain⟨PE,Wz⟩:∃ x,x=bI a b op f:=⟨_,rfl⟩;rw[<-Wz];have Pn:=hid Wz;have WD:=hid Pm;obtain⟨ar,har⟩:∃ x,x=a.right:=⟨_,rfl⟩;obtain⟨br,hbr⟩:∃ x,x=b.right:=⟨_,rfl⟩;rw[<-har]at CR EI;rw[<-hbr]at Yi EI;have HAR:=hid har;have HBR:=hid hbr;have ac1:=hid EI;clear h0 h1 h2 g0 g1 g2 Wz Pm CS0 har hbr EI;have fin:Hid (∀ (W:World) (c:Int),PE=(EG,c)->Below w.heap.size w W->∀ e,e=Ending.returned (.tuple #[.agg #[.slice none 0 0,.slice none 0 0,.slice none 0 0],.int .i64 c])->∃ u,e=.returned (.tuple #[u,.int .i64 PE.2])/\aT w.heap.size W u PE.1/\Below w.heap.size w W):=hid fun W c h hx e he=>by rw[h];exact⟨_,he,yZ _ _,hx⟩
 go_enter Tryz.func12,Tryz.ntmps12
 go_wp2_with fail
 refine ay ?_;intro V hV;have B4:Hid (ah V w.heap.size #[v0,v1,v2] 28):=by rw[hV];exact((ah.new w _ _).alloc _).alloc _
 have B5:Hid (ah V (w.heap.size+1) #[u0,u1,u2] 28):=by rw[hV];exact((ah.new (w.alloc _) _ _).at (by simp)).alloc _
 have B8:Hid (ah V (w.heap.size+2) #[.slice none 0 0,.slice none 0 0,.slice none 0 0] 28):=by rw[hV];exact(ah.new ((w.alloc _).alloc _) _ _).at (by simp)
 have X1:Hid (Below w.heap.size w V):=by rw[hV];exact((((Ext.refl w).alloc _).alloc _).alloc _).below
 clear hV;refine(CS.out V).mono ?_;rintro e w' ⟨rfl,hw⟩;replace hw:=hw.symm;subst hw;obtain⟨⟨k0,k1,k2⟩,_⟩:=B4.out.three;go_wp2_with fail
 refine(CR.out V X1.out).mono ?_;rintro e w2 ⟨rfl,hx⟩;have C5:=hid (B5.out.below hx B5.out.lt);have C8:=hid (B8.out.below hx B8.out.lt);have X2:=hid (X1.out.trans (hx.mono X1.out.size));clear hx k0 k1 k2 B4 B5 B8 X1;cases ar with
 | false=>
  obtain⟨_,z0,z1,z2⟩:=C8.out.three;obtain⟨⟨k0,k1,k2⟩,_⟩:=C8.out.three;go_wp2;refine aP ?_;intro W9 cT;have E9:Hid (ah W9 (w.heap.size+2) #[.slice none 0 0,.slice none 0 0,.slice none 0 0] 28/\Below w.heap.size w W9):=by rw[cT];exact hid ⟨C8.out.nP,dh X2.out (by omega)⟩
  clear cT;obtain⟨⟨m0,m1,m2⟩,_⟩:=E9.out.1.three;refine bodyPost_ret (v:=.tuple #[.agg #[.slice none 0 0,.slice none 0 0,.slice none 0 0],.int .i64 182]) (by simp[results,Tryz.results12,go_sem,m0,m1,m2]) rfl (fin.out W9 182 (Pn.out.trans (rI (by rw[<-HAR.out];rfl) _ _)) E9.out.2 _ rfl)
 | true=>
  obtain⟨⟨k0,k1,k2⟩,_⟩:=C5.out.three;go_wp2_with fail
  refine(Yi.out w2 X2.out).mono ?_;rintro e w3 ⟨rfl,hx⟩;have D8:=hid (C8.out.below hx C8.out.lt);have X3:=hid (X2.out.trans (hx.mono X2.out.size));clear hx k0 k1 k2 C5 C8 X2;obtain⟨_,z0,z1,z2⟩:=D8.out.three;obtain⟨⟨k0,k1,k2⟩,_⟩:=D8.out.three;have LV:Hid (∀ (W9:World) (c:Int),W9=(((w3.setCell ⟨w.heap.size+2,0,none⟩ (.slice none 0 0)).setCell ⟨w.heap.size+2,1,none⟩ (.slice none 0 0)).setCell ⟨w.heap.size+2,2,none⟩ (.slice none 0 0))->ah W9 (w.heap.size+2) #[.slice none 0 0,.slice none 0 0,.slice none 0 0] 28/\Below w.heap.size w W9):=hid fun W9 c cT=>by rw[cT];exact⟨D8.out.nP,dh X3.out (by omega)⟩
  cases br with
  | false=>
   go_wp2;refine aP ?_;intro W9 cT;have E9:=hid (LV.out W9 0 cT);clear cT;obtain⟨⟨m0,m1,m2⟩,_⟩:=E9.out.1.three;refine bodyPost_ret (v:=.tuple #[.agg #[.slice none 0 0,.slice none 0 0,.slice none 0 0],.int .i64 182]) (by simp[results,Tryz.results12,go_sem,m0,m1,m2]) rfl (fin.out W9 182 (Pn.out.trans (rI (by rw[<-HAR.out, <-HBR.out];rfl) _ _)) E9.out.2 _ rfl)
  | true=>
   have hr:¬ (a.right&&b.right)=false:=by rw[<-HAR.out, <-HBR.out];decide
   rcases hsv with rfl | ⟨gf,rfl⟩
   ·have hop:=WD.out.1 rfl
    have Qq:=Qt;have LU:PE=(EG,190):=by rw[Pn.out];unfold bI;rw[if_neg hr,if_pos (by omega)]
    have wJ:=hid LU;clear LU hr hop;go_wp2;refine aP ?_;intro W9 cT;have E9:=hid (LV.out W9 0 cT);clear cT;obtain⟨⟨m0,m1,m2⟩,_⟩:=E9.out.1.three;refine bodyPost_ret (v:=.tuple #[.agg #[.slice none 0 0,.slice none 0 0,.slice none 0 0],.int .i64 190]) (by simp[results,Tryz.results12,go_sem,m0,m1,m2]) rfl (fin.out W9 190 wJ.out E9.out.2 _ rfl)
   ·have hop:¬ (op<1\/4<op):=fun h=>by have:=WD.out.2 h;cases this
    have Qq:=GC gf;by_cases Uv:f<0
    ·have d1:decide (f<0)=true:=decide_eq_true Uv
     have wJ:Hid (PE=(EG,2)):=hid (by rw[Pn.out];unfold bI;rw[if_neg hr,if_neg (by omega),if_pos (by omega)]);clear hr hop;go_wp2;refine aP ?_;intro W9 cT;have E9:=hid (LV.out W9 0 cT);clear cT;obtain⟨⟨m0,m1,m2⟩,_⟩:=E9.out.1.three;refine bodyPost_ret (v:=.tuple #[.agg #[.slice none 0 0,.slice none 0 0,.slice none 0 0],.int .i64 2]) (by simp[results,Tryz.results12,go_sem,m0,m1,m2]) rfl (fin.out W9 2 wJ.out E9.out.2 _ rfl)
    ·have d1:decide (f<0)=false:=decide_eq_false Uv
     by_cases Ss:4000<f
     ·have d2:decide (4000<f)=true:=decide_eq_true Ss
      have wJ:Hid (PE=(EG,2)):=hid (by rw[Pn.out];unfold bI;rw[if_neg hr,if_neg (by omega),if_pos (by omega)]);clear hr hop;go_wp2;refine aP ?_;intro W9 cT;have E9:=hid (LV.out W9 0 cT);clear cT;obtain⟨⟨m0,m1,m2⟩,_⟩:=E9.out.1.three;refine bodyPost_ret (v:=.tuple #[.agg #[.slice none 0 0,.slice none 0 0,.slice none 0 0],.int .i64 2]) (by simp[results,Tryz.results12,go_sem,m0,m1,m2]) rfl (fin.out W9 2 wJ.out E9.out.2 _ rfl)
     ·have d2:decide (4000<f)=false:=decide_eq_false Ss
      obtain rfl:f=0:=by
       rcases ac1.out with h | h | h | h
       ·cases h
       ·exact absurd h hop
       ·omega
       ·exact h
      have wJ:Hid (PE=(EG,181)):=hid (by rw[Pn.out];unfold bI;rw[if_neg hr,if_neg (by omega),if_neg (by omega),if_pos rfl]);clear hr hop Uv Ss;go_wp2;refine aP ?_;intro W9 cT;have E9:=hid (LV.out W9 0 cT);clear cT;obtain⟨⟨m0,m1,m2⟩,_⟩:=E9.out.1.three;refine bodyPost_ret (v:=.tuple #[.agg #[.slice none 0 0,.slice none 0 0,.slice none 0 0],.int .i64 181]) (by simp[results,Tryz.results12,go_sem,m0,m1,m2]) rfl (fin.out W9 181 wJ.out E9.out.2 _ rfl)
theorem pC (v v':Value) (a b:DF) (sa:Sm a) (sb:Sm b) (op:Nat) (f:Int) (w:World) (h:bJ w v a) (h':bJ w v' b): Calls Tryz.prog 12 #[v,v',.int .u8 op,.int .i64 f] w fun e w'=>∃ u,e=.returned (.tuple #[u,.int .i64 (bI a b op f).2])/\aT w.heap.size w' u (bI a b op f).1/\Below w.heap.size w w':=by
 by_cases EI:(a.right&&b.right)=false\/(op<1\/4<op)\/(f<0\/4000<f)\/f=0
 ·exact Bf v v' a b sa sb op f EI w h h'
 ·obtain⟨n,rfl⟩:∃ n:Nat,f=n:=⟨f.toNat,by omega⟩
  have hr:a.right=true/\b.right=true:=by cases ha:a.right<;>cases hb:b.right<;>simp[ha,hb]at EI<;>simp
  exact Iq v v' a b ((aS a).1 hr.1) ((aS b).1 hr.2) sa sb op (by omega) (by omega) n (by omega) (by omega) w h h'
end Go.Proofs.YtalombmiochpmaaGreatDoor
namespace Go.Proofs.YtalombmiochpmaaGreatDoor
open Go Go.RowKit Go.Shelf Go.Maps
attribute [local go_sem] encS
theorem Iw (v:Value) (d:DF) (w:World) (h:bJ w v d) (sm:Sm d): Calls Tryz.prog 20 #[v] w fun e w'=>∃ u,e=.returned u/\aT w.heap.size w' u d/\(∀ v0 v1 v2,u=.agg #[v0,v1,v2]->jy v1 v2)/\Below w.heap.size w w':=by
 obtain⟨v0,v1,v2,rfl,h0,h1,h2⟩:=h;obtain⟨a0,c0,rfl⟩:=h0.1.form;obtain⟨a1,c1,rfl⟩:=h1.form;obtain⟨a2,c2,rfl⟩:=h2.form;have SM:=hid sm;have H0:=hid h0;have H1:=hid h1;have H2:=hid h2;clear h0 h1 h2 sm;obtain⟨n0,dp⟩:∃ n,n=d.cl.length:=⟨_,rfl⟩;obtain⟨n1,ja⟩:∃ n,n=d.nx.length:=⟨_,rfl⟩;obtain⟨n2,kU⟩:∃ n,n=d.mr.length:=⟨_,rfl⟩;rw[<-dp]at H0 ⊢;rw[<-ja]at H1 ⊢;rw[<-kU]at H2 ⊢;have sw:=hid dp;have qw:=hid ja;have pZ:=hid kU;clear dp ja kU;go_enter Tryz.func20,Tryz.ntmps20;go_wp2;refine ax ?_;intro V hV;have kS:Hid (ah V w.heap.size #[.slice a0 n0 c0,.slice a1 n1 c1,.slice a2 n2 c2] 28):=by rw[hV];exact(ah.new w _ _).alloc _
 have eD:Hid (ah V (w.heap.size+1) #[.slice none 0 0,.slice none 0 0,.slice none 0 0] 28):=by rw[hV];exact(ah.new (w.alloc _) _ _).at (by simp)
 have HX:Hid (Below w.heap.size w V):=by rw[hV];exact(((Ext.refl w).alloc _).alloc _).below
 have HS:Hid (w.heap.size+2<=V.heap.size):=by rw[hV];exact hid (by simp)
 clear hV;refine aA false (fun _=>False) (by kernel_rfl) 8 [0,1,3,0,8,31,0,64,255,511,1023] (fun i=>i==2 || i==5 || i==8 || i==10) (by kernel_rfl) (fun i=>if i=2 then aR.row (w.heap.size+2) 59 4 d.cl.length (aC d.cl)else if i=5 then aR.oll (w.heap.size+2) d.nx else aR.any _) ?_;intro C hC hne;have HC:=hid hC;have f0:=au hC (p:=⟨w.heap.size,0,none⟩) (by have:=kS.out.lt;exact this) (fun h=>h) (kS.out.cell 0);have f1:=au hC (p:=⟨w.heap.size,1,none⟩) (by have:=kS.out.lt;exact this) (fun h=>h) (kS.out.cell 1);have f2:=au hC (p:=⟨w.heap.size,2,none⟩) (by have:=kS.out.lt;exact this) (fun h=>h) (kS.out.cell 2);clear hC
 repeat (refine ae (fun K hK=>?_);first | (refine bp rfl ?_;try go_simp;refine hK _ _ ?_;clear hK K) | (refine aX rfl rfl ?_;unfold aq;go_simp;refine hK _ _ ?_;clear hK K))
 refine ae (fun K hK=>?_);refine bH rfl rfl (aR.row (w.heap.size+2) 59 4 d.cl.length (aC d.cl)) rfl (fun W hW hN=>?_) (fun v hv=>?_)
 ·have hM:=(HC.out W).1 hW
  clear hW;go_simp;refine bC ((wF _ d.cl _ ⟨(H0.out.1.below HX.out).below hM.below,H0.out.2⟩ SM.out.cl).mono ?_);rintro e w2 ⟨vp,rfl,ho,hx⟩;exact⟨_,rfl,Move.aj hx,ownsRow_form ho,az ho (Nat.le_trans HS.out hM.size)⟩
 obtain⟨a3,c3,rfl⟩:=hv;go_simp;refine hK _ _ ?_;clear hK K
 repeat (refine ae (fun K hK=>?_);first | (refine bp rfl ?_;try go_simp;refine hK _ _ ?_;clear hK K) | (refine aX rfl rfl ?_;unfold aq;go_simp;refine hK _ _ ?_;clear hK K))
 refine ae (fun K hK=>?_);refine bH rfl rfl (aR.oll (w.heap.size+2) d.nx) rfl (fun W hW hN=>?_) (fun v hv=>?_)
 ·have hM:=(HC.out W).1 hW
  clear hW;go_simp;refine bC ((xz _ d.nx _ ((H1.out.below HX.out).below hM.below) SM.out.nx SM.out.yT).mono ?_);rintro e w2 ⟨vp,rfl,ho,hx⟩;exact⟨_,rfl,Move.aj hx,ho.form,ho.base (Nat.le_trans HS.out hM.size)⟩
 obtain⟨a4,c4,rfl⟩:=hv;go_simp;refine hK _ _ ?_;clear hK K
 repeat (refine ae (fun K hK=>?_);first | (refine bp rfl ?_;try go_simp;refine hK _ _ ?_;clear hK K) | (refine aX rfl rfl ?_;unfold aq;go_simp;refine hK _ _ ?_;clear hK K))
 refine aV (fun W hW hH=>?_);have hM:=(HC.out W).1 hW;have R0:Hid (W.ownsRow (w.heap.size+2) 59 4 (.slice a3 d.cl.length c3) d.cl.length (aC d.cl)):=hid (hH _ (List.mem_of_getElem? (show _=some _ from rfl:_[1]? =some _)));have R1:Hid (aH (w.heap.size+2) W (.slice a4 d.nx.length c4) d.nx):=hid (hH _ (List.mem_of_getElem? (show _=some _ from rfl:_[0]? =some _)));have XH:=hid (kS.out.below hM.below kS.out.lt);have Ug:=hid (eD.out.below hM.below eD.out.lt);have XX:=hid (HX.out.trans (hM.below.mono HX.out.size));have XS:=hid (Nat.le_trans HS.out hM.size);clear hM hW hH f0 f1 f2 HC kS eD HX;go_wp2_with fail
 refine(xz _ d.mr _ (H2.out.below XX.out) SM.out.mr SM.out.XG).mono ?_;rintro e w2 ⟨vp,rfl,ho,hx⟩;obtain⟨a5,c5,rfl⟩:=ho.form;have R0':=hid (ak R0.out hx);have R1':=hid (R1.out.below hx)
 have FR:Hid (jy (.slice a4 d.nx.length c4) (.slice a5 d.mr.length c5)):=hid (by
  obtain⟨us,_,h1,_⟩:=R1.out;obtain⟨ms,_,h2,_⟩:=ho;by_cases e:(Value.slice a4 d.nx.length c4).ownBlock=none
  ·exact .inl e
  ·right
   intro e2;cases e3:(Value.slice a4 d.nx.length c4).ownBlock with
   | none=>exact e e3
   | some x=>have h5:=(h1.lt x e3).2;have h6:=(h2.lt x (e2▸e3)).1;omega)
 have R2':=hid (ho.base XS.out);have YB2:=hid (Ug.out.below hx Ug.out.lt);have YX:=hid (XX.out.trans (hx.mono XX.out.size));clear ho hx R0 R1 XH Ug XX;obtain⟨⟨k0,k1,k2⟩,z0,z1,z2⟩:=YB2.out.three;go_wp2;obtain⟨W9,cT⟩:∃ W9,W9=(((w2.setCell ⟨w.heap.size+1,0,none⟩ (.slice a3 d.cl.length c3)).setCell ⟨w.heap.size+1,1,none⟩ (.slice a4 d.nx.length c4)).setCell ⟨w.heap.size+1,2,none⟩ (.slice a5 d.mr.length c5)):=⟨_,rfl⟩;have E:Hid (ah W9 (w.heap.size+1) #[.slice a3 d.cl.length c3,.slice a4 d.nx.length c4,.slice a5 d.mr.length c5] 28):=by rw[cT];exact YB2.out.nP
 have K9:Hid (aa (fun x=>x<w2.heap.size/\x≠w.heap.size+1) w2 W9):=by rw[cT];exact(((aa.refl _ _).setCell (p:=⟨w.heap.size+1,0,none⟩) (fun h=>h.2 rfl) _).setCell (p:=⟨w.heap.size+1,1,none⟩) (fun h=>h.2 rfl) _).setCell (p:=⟨w.heap.size+1,2,none⟩) (fun h=>h.2 rfl) _
 rw[<-cT];clear cT k0 k1 k2 z0 z1 z2;obtain⟨⟨m0,m1,m2⟩,_⟩:=E.out.three;refine bodyPost_ret (v:=.agg #[.slice a3 d.cl.length c3,.slice a4 d.nx.length c4,.slice a5 d.mr.length c5]) (by simp[results,Tryz.results20,go_sem,m0,m1,m2]) rfl ⟨_,rfl,?_,fun _ _ _ e=>by cases e;exact FR.out,?_⟩
 ·refine aT.base (base:=w.heap.size+2) ⟨_,_,_,rfl,?_,?_,?_⟩ (by omega)
  ·exact aD R0'.out K9.out fun k h1 h2=>⟨h2,by omega⟩
  ·exact R1'.out.keeps K9.out fun k h1 h2=>⟨h2,by omega⟩
  ·exact R2'.out.keeps K9.out fun k h1 h2=>⟨h2,by omega⟩
 ·exact YX.out.trans ((K9.out.mono fun k hk=>⟨Nat.lt_of_lt_of_le hk YX.out.size,by have:k<w.heap.size:=hk;omega⟩:aa (· <w.heap.size) w2 W9).below)
end Go.Proofs.YtalombmiochpmaaGreatDoor
namespace Go.Proofs.YtalombmiochpmaaGreatDoor
open Go Go.RowKit
def Reach (d:DF):Nat->Nat->Prop
 | 0,s=>acc d s=true
 | m+1,s=>∃ k,k<d.cl.length/\Reach d m (eO d s k)
/-! The reference: distances. -/
def xH (d:DF) (far:List Int) (s k:Nat):List Int:=if far.getD (eO d s k) 0+1<far.getD s 0 then far.set s (far.getD (eO d s k) 0+1)else far
def za (d:DF):List Int:=(List.range d.nx.length).map fun s=>if acc d s then 0 else(d.nx.length:Int)
def iu (d:DF) (far:List Int) (s:Nat):Nat->List Int
 | 0=>far
 | k+1=>xH d (iu d far s k) s k
def iw (d:DF) (far:List Int):Nat->List Int
 | 0=>far
 | s+1=>iu d (iw d far s) s d.cl.length
def xI (d:DF):Nat->List Int
 | 0=>za d
 | r+1=>iw d (xI d r) d.nx.length
structure tX (d:DF) (far:List Int):Prop where
 len:far.length=d.nx.length
 lo:∀ s,s<d.nx.length->0<=far.getD s 0/\far.getD s 0<=d.nx.length
 sound:∀ s,s<d.nx.length->far.getD s 0<d.nx.length->Reach d (far.getD s 0).toNat s
theorem lV (l:List Int) (i j:Nat) (x:Int) (hj:i<l.length):(l.set i x).getD j 0=if j=i then x else l.getD j 0:=by
 rw[List.getD_eq_getElem?_getD,List.getElem?_set];by_cases e:j=i
 ·subst e;rw[if_pos rfl,if_pos hj,if_pos rfl];rfl
 ·rw[if_neg (fun h=>e h.symm),if_neg e,List.getD_eq_getElem?_getD]
theorem LX {d:DF} (h:Rt d) {far:List Int} (f:tX d far) {s k:Nat} (hs:s<d.nx.length) (hk:k<d.cl.length):tX d (xH d far s k)/\(∀ t,(xH d far s k).getD t 0<=far.getD t 0)/\(xH d far s k).getD s 0<=far.getD (eO d s k) 0+1:=by
 have hn:=h.gI hs hk;have h1:=f.lo _ hn;have h0:=f.lo s hs;unfold xH;split
 ·rename_i hlt
  have hg:∀ j,(far.set s (far.getD (eO d s k) 0+1)).getD j 0=if j=s then far.getD (eO d s k) 0+1 else far.getD j 0:=fun j=>lV _ _ _ _ (by rw[f.len];exact hs)
  refine⟨⟨by rw[List.length_set];exact f.len,fun t ht=>?_,fun t ht Uw=>?_⟩,fun t=>?_,?_⟩
  ·rw[hg]
   split
   ·omega
   ·exact f.lo t ht
  ·rw[hg]at Uw ⊢
   split
   ·rename_i e
    subst e;rw[show(far.getD (eO d t k) 0+1).toNat=(far.getD (eO d t k) 0).toNat+1 by omega];exact⟨k,hk,f.sound _ hn (by omega)⟩
   ·rename_i e
    rw[if_neg e]at Uw;exact f.sound t ht Uw
  ·rw[hg]
   split
   ·rename_i e;subst e;omega
   ·exact Int.le_refl _
  ·rw[hg,if_pos rfl];exact Int.le_refl _
 ·exact⟨f,fun t=>Int.le_refl _,by omega⟩
theorem rJ {d:DF} (h:Rt d) {far:List Int} (f:tX d far) {s:Nat} (hs:s<d.nx.length):∀ k,k<=d.cl.length->tX d (iu d far s k)/\(∀ t,(iu d far s k).getD t 0<=far.getD t 0)/\∀ j,j<k->(iu d far s k).getD s 0<=far.getD (eO d s j) 0+1
 | 0,_=>⟨f,fun _=>Int.le_refl _,fun j hj=>by omega⟩
 | k+1,hk=>by
  obtain⟨a,b,c⟩:=rJ h f hs k (by omega);obtain⟨a',b',c'⟩:=LX h a hs (show k<d.cl.length by omega);refine⟨a',fun t=>Int.le_trans (b' t) (b t),fun j hj=>?_⟩;show(xH d (iu d far s k) s k).getD s 0<=_;by_cases e:j=k
  ·subst e;have:=b (eO d s j);omega
  ·have:=c j (by omega);have:=b' s;omega
theorem rK {d:DF} (h:Rt d) {far:List Int} (f:tX d far):∀ n,n<=d.nx.length->tX d (iw d far n)/\(∀ t,(iw d far n).getD t 0<=far.getD t 0)/\∀ s j,s<n->j<d.cl.length->(iw d far n).getD s 0<=far.getD (eO d s j) 0+1
 | 0,_=>⟨f,fun _=>Int.le_refl _,fun s j hj=>by omega⟩
 | n+1,hn=>by
  obtain⟨a,b,c⟩:=rK h f n (by omega);obtain⟨a',b',c'⟩:=rJ h a (show n<d.nx.length by omega) d.cl.length (Nat.le_refl _);refine⟨a',fun t=>Int.le_trans (b' t) (b t),fun s j hs hj=>?_⟩;show(iu d (iw d far n) n d.cl.length).getD s 0<=_;by_cases e:s=n
  ·subst e;have:=c' j hj;have:=b (eO d s j);omega
  ·have:=c s j (by omega) hj;have:=b' s;omega
theorem tY {d:DF} {s:Nat} (hs:s<d.nx.length):(za d).getD s 0=if acc d s then 0 else(d.nx.length:Int):=by unfold za;rw[List.getD_eq_getElem?_getD,List.getElem?_map,List.getElem?_range hs];rfl
theorem pD {d:DF} (h:Rt d):∀ r,tX d (xI d r)/\∀ m s,m<=r->s<d.nx.length->Reach d m s->(xI d r).getD s 0<=m
 | 0=>by
  refine⟨⟨by simp[xI,za],fun s hs=>?_,fun s hs hlt=>?_⟩,fun m s hm hs hr=>?_⟩
  ·show 0<=(za d).getD s 0/\(za d).getD s 0<=_
   rw[tY hs];split<;>omega
  ·replace hlt:(za d).getD s 0<_:=hlt
   show Reach d ((za d).getD s 0).toNat s;rw[tY hs]at hlt ⊢;split
   ·rename_i ha;exact ha
   ·rename_i ha;rw[if_neg ha]at hlt;omega
  ·obtain rfl:m=0:=by omega
   show(za d).getD s 0<=_;rw[tY hs,if_pos (show acc d s=true from hr)];exact Int.le_refl _
 | r+1=>by
  obtain⟨f,g⟩:=pD h r;obtain⟨a,b,c⟩:=rK h f d.nx.length (Nat.le_refl _);refine⟨a,fun m s hm hs hr=>?_⟩;show(iw d (xI d r) d.nx.length).getD s 0<=_;cases m with
  | zero=>have:=g 0 s (by omega) hs hr;have:=b s;omega
  | succ m=>
   obtain⟨k,hk,Tt⟩:=hr;have:=g m _ (by omega) (h.gI hs hk) Tt;have:=c s k hs hk;omega
def Yr (d:DF):List Int:=xI d d.nx.length
def fp (d:DF) (s:Nat):Int:=(Yr d).getD s 0
theorem zb {d:DF} (h:Rt d) {s:Nat} (hs:s<d.nx.length):0<=fp d s/\fp d s<=d.nx.length:=(pD h d.nx.length).1.lo s hs
theorem mE {d:DF} (h:Rt d) {s:Nat} (hs:s<d.nx.length) (hl:fp d s<d.nx.length):Reach d (fp d s).toNat s:=(pD h d.nx.length).1.sound s hs hl
theorem EJ {d:DF} (h:Rt d) {s m:Nat} (hs:s<d.nx.length) (hr:Reach d m s):fp d s<=m:=by
 by_cases hm:m<=d.nx.length
 ·exact(pD h d.nx.length).2 m s hm hs hr
 ·have:=(zb h hs).2;omega
theorem LY {d:DF} (h:Rt d) {s k:Nat} (hs:s<d.nx.length) (hk:k<d.cl.length) (hl:fp d (eO d s k)<d.nx.length):fp d s<=fp d (eO d s k)+1:=by have h1:=mE h (h.gI hs hk) hl;have h2:=EJ h hs (m:=(fp d (eO d s k)).toNat+1) ⟨k,hk,h1⟩;have:=(zb h (h.gI hs hk)).1;omega
def qB (d:DF) (s c:Nat):Bool:=fp d (eO d s (cls d.cl c))==fp d s-1
def jt (d:DF) (s:Nat):Nat:=((List.range 256).find? (qB d s)).getD 0
def iy (d:DF):Nat->Nat×List Nat
 | 0=>(0,[])
 | j+1=>(eO d (iy d j).1 (cls d.cl (jt d (iy d j).1)),(iy d j).2++ [jt d (iy d j).1])
def bU (d:DF):Option (List Nat):=if fp d 0=d.nx.length then none else some (iy d (fp d 0).toNat).2
theorem find_range {p:Nat->Bool} {n c:Nat} (hc:c<n) (hp:p c=true) (hn:∀ e,e<c->p e=false):(List.range n).find? p=some c:=by rw[List.find?_eq_some_iff_getElem];refine⟨hp,c,by simpa using hc,by simp,fun j hj=>by simp[hn j hj]⟩
theorem LZ {d:DF} {s c:Nat} (hc:c<256) (hp:qB d s c=true) (hn:∀ e,e<c->qB d s e=false):jt d s=c:=by unfold jt;rw[find_range hc hp hn];rfl
theorem ze {d:DF} (h:Rt d) {k:Nat} (hk:k<d.cl.length):lb d.cl k<256/\cls d.cl (lb d.cl k)=k/\∀ c,c<256->cls d.cl c=k->lb d.cl k<=c:=by
 have e:=h.cl;have s5:k<(partsOf d.cl).length:=by rw[e];exact hk
 have h1:=aI (l:=partsOf d.cl) 0 s5;obtain⟨_,h2,h3,h4⟩:=fj (fU d.cl (List.mem_of_getElem? h1));rw[e]at h1 h2 h3 h4;refine⟨h2,(h.part.iZ h2).2 ⟨_,h1,h3⟩,fun c hc Uh=>?_⟩;obtain⟨q,hq,hb⟩:=(h.part.iZ hc).1 Uh;rw[h1]at hq;cases hq;show(aM _).1<=c;by_cases hlt:c<(aM (d.cl.getD k 0)).1
 ·have:=h4 c hlt;rw[this]at hb;cases hb
 ·omega
theorem Qu {d:DF} (h:Rt d) {i j:Nat} (mU:i<j) (hj:j<d.cl.length):lb d.cl i<lb d.cl j:=by have:=nu d.cl (i:=i) (j:=j) (x:=d.cl.getD i 0) (y:=d.cl.getD j 0) (by rw[h.cl];exact aI _ (by omega)) (by rw[h.cl];exact aI _ (by omega)) mU;exact this
/-! The program: breadth first. -/
structure GH where
 todo:List Nat
 keys:List Nat
 fr:List Int
 wK:List Nat
def Ux (d:DF) (st:GH) (x:Nat):GH:=
 match st.todo[x/d.cl.length]? with
 | none=>st
 | some s=>if st.fr.getD (eO d s (x%d.cl.length)) 0=0 then⟨st.todo++ [eO d s (x%d.cl.length)],st.keys++ [x],st.fr.set (eO d s (x%d.cl.length)) (s+1),st.wK.set (eO d s (x%d.cl.length)) (lb d.cl (x%d.cl.length))⟩else st
def Dz (d:DF):Nat->GH
 | 0=>⟨[0],[0],(List.replicate d.nx.length 0).set 0 (-1),List.replicate d.nx.length 0⟩
 | x+1=>Ux d (Dz d x) x
structure L8 (d:DF) (x:Nat) (st:GH):Prop where
 keys:st.keys.length=st.todo.length
 fr:st.fr.length=d.nx.length
 wK:st.wK.length=d.nx.length
 head:st.todo[0]? =some 0
 root:st.fr.getD 0 0= -1
 nodup:st.todo.Nodup
 lt:∀ t∈st.todo,t<d.nx.length
 mem:∀ t,t<d.nx.length->(st.fr.getD t 0≠0↔t∈st.todo)
 par:∀ j t,0<j->st.todo[j]? =some t->∃ y s,st.keys[j]? =some y/\y<x/\y/d.cl.length<j/\st.todo[y/d.cl.length]? =some s/\eO d s (y%d.cl.length)=t/\st.fr.getD t 0=s+1/\st.wK.getD t 0=lb d.cl (y%d.cl.length)
 mono:∀ i j y z,0<i->i<j->st.keys[i]? =some y->st.keys[j]? =some z->y<z
 done:∀ y s,y<x->st.todo[y/d.cl.length]? =some s->∃ j:Nat,st.todo[j]? =some (eO d s (y%d.cl.length))/\(j=0\/∃ z,st.keys[j]? =some z/\z<=y)
theorem Iy (l:List Nat) (i j:Nat) (x:Nat) (hj:i<l.length):(l.set i x).getD j 0=if j=i then x else l.getD j 0:=by
 rw[List.getD_eq_getElem?_getD,List.getElem?_set];by_cases e:j=i
 ·subst e;rw[if_pos rfl,if_pos hj,if_pos rfl];rfl
 ·rw[if_neg (fun h=>e h.symm),if_neg e,List.getD_eq_getElem?_getD]
theorem Bg (n i:Nat):(List.replicate n (0:Int)).getD i 0=0:=by rw[List.getD_eq_getElem?_getD,List.getElem?_replicate];split<;>rfl
theorem L9 {d:DF} (h:Rt d):∀ x,L8 d x (Dz d x)
 | 0=>by
  have hp:=h.pos;have hg:∀ j,((List.replicate d.nx.length (0:Int)).set 0 (-1)).getD j 0=if j=0 then-1 else 0:=fun j=>by
   rw[lV _ _ _ _ (by simp;omega),Bg]
  refine⟨rfl,by simp[Dz],by simp[Dz],rfl,by show((List.replicate d.nx.length (0:Int)).set 0 (-1)).getD 0 0= -1;rw[hg];rfl,by simp[Dz],fun t ht=>?_,fun t ht=>?_,fun j t hj OU=>?_,fun i j y z hi mU hy hz=>?_,fun y s hy=>by omega⟩
  ·simp[Dz]at ht;omega
  ·show((List.replicate d.nx.length (0:Int)).set 0 (-1)).getD t 0≠0↔t∈ [0]
   rw[hg];by_cases e:t=0
   ·subst e;simp
   ·simp[e]
  ·have:=(List.getElem?_eq_some_iff.1 OU).1;simp[Dz]at this;omega
  ·have:=(List.getElem?_eq_some_iff.1 hz).1;simp[Dz]at this;omega
 | x+1=>by
  have I:=L9 h x;have hK:=h.oZ;show L8 d (x+1) (Ux d (Dz d x) x);generalize Dz d x=st at I;unfold Ux;split
  ·rename_i hn
   exact⟨I.keys,I.fr,I.wK,I.head,I.root,I.nodup,I.lt,I.mem,fun j t hj ht=>by
     obtain⟨y,s,h1,h2,h3⟩:=I.par j t hj ht;exact⟨y,s,h1,by omega,h3⟩,I.mono,fun y s hy hs=>by
     by_cases e:y=x
     ·subst e;rw[hn]at hs;cases hs
     ·exact I.done y s (by omega) hs⟩
  ·rename_i s hs
   have fk:=I.lt s (List.mem_of_getElem? hs);have Dr:=Nat.mod_lt x hK;have Hm:=h.gI fk Dr;have ac2:x/d.cl.length<st.todo.length:=(List.getElem?_eq_some_iff.1 hs).1;generalize ht:eO d s (x%d.cl.length)=t at*;split
   ·rename_i h0
    have DW:t∉st.todo:=fun hm=>(I.mem t Hm).2 hm h0
    have hf:∀ j,(st.fr.set t ((s:Int)+1)).getD j 0=if j=t then(s:Int)+1 else st.fr.getD j 0:=fun j=>lV _ _ _ _ (by rw[I.fr];exact Hm)
    have hb:∀ j,(st.wK.set t (lb d.cl (x%d.cl.length))).getD j 0=if j=t then lb d.cl (x%d.cl.length)else st.wK.getD j 0:=fun j=>Iy _ _ _ _ (by rw[I.wK];exact Hm)
    have hk:=I.keys;have hold:∀ (j u:Nat),st.todo[j]? =some u->(st.todo++ [t])[j]? =some u:=fun j u hj=>by
     rw[List.getElem?_append_left (List.getElem?_eq_some_iff.1 hj).1];exact hj
    have Sw:∀ (j u:Nat),st.keys[j]? =some u->(st.keys++ [x])[j]? =some u:=fun j u hj=>by
     rw[List.getElem?_append_left (List.getElem?_eq_some_iff.1 hj).1];exact hj
    have Qv:(st.todo++ [t])[st.todo.length]? =some t:=by simp
    have Ma:(st.keys++ [x])[st.todo.length]? =some x:=by rw[<-hk];simp
    have Ys:∀ (j u:Nat),(st.todo++ [t])[j]? =some u->st.todo[j]? =some u\/(j=st.todo.length/\u=t):=fun j u hj=>by
     by_cases hl:j<st.todo.length
     ·rw[List.getElem?_append_left hl]at hj;exact .inl hj
     ·have h1:=(List.getElem?_eq_some_iff.1 hj).1
      simp at h1;obtain rfl:j=st.todo.length:=by omega
      rw[Qv]at hj;cases hj;exact .inr ⟨rfl,rfl⟩
    have ht0:t≠0:=fun e=>DW (by rw[e];exact List.mem_of_getElem? I.head)
    refine⟨by simp[hk],by simp[I.fr],by simp[I.wK],hold _ _ I.head,by show(st.fr.set t ((s:Int)+1)).getD 0 0= -1;rw[hf,if_neg (fun e=>ht0 e.symm)];exact I.root,?_,?_,?_,?_,?_,?_⟩
    ·show(st.todo++ [t]).Nodup
     rw[List.nodup_append];exact⟨I.nodup,by simp,fun a ha b hb e=>by simp at hb;subst hb;subst e;exact DW ha⟩
    ·intro u hu
     rcases List.mem_append.1 hu with hu | hu
     ·exact I.lt u hu
     ·simp at hu;subst hu;exact Hm
    ·intro u hu
     show(st.fr.set t ((s:Int)+1)).getD u 0≠0↔u∈st.todo++ [t];rw[hf];by_cases e:u=t
     ·subst e
      rw[if_pos rfl];exact⟨fun _=>by simp,fun _=>by omega⟩
     ·rw[if_neg e,I.mem u hu];simp[e]
    ·intro j u hj hu
     rcases Ys j u hu with hu | ⟨rfl,rfl⟩
     ·obtain⟨y,s',h1,h2,h3,h4,h5,h6,h7⟩:=I.par j u hj hu
      have hne:u≠t:=fun e=>DW (by rw[<-e];exact List.mem_of_getElem? hu)
      refine⟨y,s',Sw _ _ h1,by omega,h3,hold _ _ h4,h5,?_,?_⟩
      ·show(st.fr.set t ((s:Int)+1)).getD u 0=_
       rw[hf,if_neg hne];exact h6
      ·show(st.wK.set t (lb d.cl (x%d.cl.length))).getD u 0=_
       rw[hb,if_neg hne];exact h7
     ·refine⟨x,s,Ma,by omega,ac2,hold _ _ hs,ht,?_,?_⟩
      ·show(st.fr.set u ((s:Int)+1)).getD u 0=_
       rw[hf,if_pos rfl]
      ·show(st.wK.set u (lb d.cl (x%d.cl.length))).getD u 0=_
       rw[hb,if_pos rfl]
    ·intro i j y z hi mU hy hz
     have Kv:j<(st.keys++ [x]).length:=(List.getElem?_eq_some_iff.1 hz).1;simp only[List.length_append,List.length_cons,List.length_nil]at Kv;have ib:i<st.keys.length:=by omega
     replace hy:(st.keys++ [x])[i]? =some y:=hy;replace hz:(st.keys++ [x])[j]? =some z:=hz;rw[List.getElem?_append_left ib]at hy;by_cases hl:j<st.keys.length
     ·rw[List.getElem?_append_left hl]at hz
      exact I.mono i j y z hi mU hy hz
     ·obtain rfl:j=st.todo.length:=by omega
      rw[Ma]at hz;cases hz;have hti:i<st.todo.length:=by omega
      obtain⟨y',s',h1,h2,_⟩:=I.par i _ hi (List.getElem?_eq_getElem hti);rw[hy]at h1;cases h1;exact h2
    ·intro y s' hy hs'
     replace hs':(st.todo++ [t])[y/d.cl.length]? =some s':=hs';have hyx:y/d.cl.length<=x/d.cl.length:=Nat.div_le_div_right (by omega);rw[List.getElem?_append_left (by omega)]at hs';by_cases e:y=x
     ·subst e
      rw[hs]at hs';cases hs';exact⟨st.todo.length,by rw[ht];exact Qv,.inr ⟨y,Ma,Nat.le_refl _⟩⟩
     ·obtain⟨j,h1,h2⟩:=I.done y s' (by omega) hs'
      refine⟨j,hold _ _ h1,?_⟩;rcases h2 with h2 | ⟨z,h2,h3⟩
      ·exact .inl h2
      ·exact .inr ⟨z,Sw _ _ h2,h3⟩
   ·rename_i h0
    refine⟨I.keys,I.fr,I.wK,I.head,I.root,I.nodup,I.lt,I.mem,fun j u hj hu=>?_,I.mono,fun y s' hy hs'=>?_⟩
    ·obtain⟨y,s',h1,h2,h3⟩:=I.par j u hj hu
     exact⟨y,s',h1,by omega,h3⟩
    ·by_cases e:y=x
     ·subst e
      rw[hs]at hs';cases hs';have hm:t∈st.todo:=(I.mem t Hm).1 h0;obtain⟨j,hj⟩:=List.getElem?_of_mem hm;refine⟨j,by rw[ht];exact hj,?_⟩;by_cases j0:j=0
      ·exact .inl j0
      ·obtain⟨z,s',h1,h2,_⟩:=I.par j t (by omega) hj
       exact .inr ⟨z,h1,by omega⟩
     ·exact I.done y s' (by omega) hs'
theorem tZ:∀ (n:Nat) (l:List Nat),l.Nodup->(∀ t∈l,t<n)->l.length<=n
 | 0,l,_,h=>by
  cases l with
  | nil=>simp
  | cons x r=>have:=h x (by simp);omega
 | n+1,l,hd,h=>by
  have h1:=tZ n (l.erase n) (hd.erase n) (fun t ht=>by
   have h2:=(hd.mem_erase_iff).1 ht;have:=h t h2.2;have:=h2.1
   omega)
  by_cases hm:n∈l
  ·rw[List.length_erase_of_mem hm]at h1;omega
  ·rw[List.erase_of_not_mem hm]at h1;omega
theorem L8.len {d:DF} {x:Nat} {st:GH} (h:L8 d x st):st.todo.length<=d.nx.length:=tZ _ _ h.nodup h.lt
theorem EL {d:DF} (h:Rt d) {i:Nat} {st:GH} (I:L8 d (i*d.cl.length) st) (hi:st.todo.length<=i) (ha:∀ (j t:Nat),st.todo[j]? =some t->acc d t=false):bU d=none:=by
 have key:∀ (m s:Nat),s∈st.todo->¬Reach d m s:=by
  intro m;induction m with
  | zero=>
   intro s hs hr;obtain⟨j,hj⟩:=List.getElem?_of_mem hs;have h1:=ha j s hj;rw[show acc d s=true from hr]at h1;cases h1
  | succ m ih=>
   rintro s hs ⟨k,hk,hr⟩;obtain⟨j,hj⟩:=List.getElem?_of_mem hs;have Kv:=(List.getElem?_eq_some_iff.1 hj).1;have e1:(j*d.cl.length+k)/d.cl.length=j:=by
    rw[Nat.mul_comm,Nat.mul_add_div h.oZ,Nat.div_eq_of_lt hk,Nat.add_zero]
   have e2:(j*d.cl.length+k)%d.cl.length=k:=by rw[Nat.mul_comm,Nat.mul_add_mod,Nat.mod_eq_of_lt hk]
   have hlt:j*d.cl.length+k<i*d.cl.length:=by have:(j+1)*d.cl.length<=i*d.cl.length:=Nat.mul_le_mul_right _ (by omega);rw[Nat.succ_mul]at this;omega
   obtain⟨p,h1,_⟩:=I.done (j*d.cl.length+k) s hlt (by rw[e1];exact hj);rw[e2]at h1;exact ih _ (List.mem_of_getElem? h1) hr
 unfold bU;have xh:=zb h h.pos;by_cases hl:fp d 0<d.nx.length
 ·exact absurd (mE h h.pos hl) (key _ 0 (List.mem_of_getElem? I.head))
 ·rw[if_pos (by omega)]
structure GI (d:DF) (st:GH) (m i:Nat) (q:Nat->Nat):Prop where
 zero:q 0=0
 last:q m=i
 step:∀ l,l<m->q l<q (l+1)/\∃ y,st.keys[q (l+1)]? =some y/\y/d.cl.length=q l
theorem Mb {d:DF} {x:Nat} {st:GH} (I:L8 d x st):∀ (i:Nat),i<st.todo.length->∃ m q,GI d st m i q:=by
 intro i;induction i using Nat.strongRecOn with
 | ind i ih=>
  intro hi;by_cases h0:i=0
  ·exact⟨0,fun _=>0,rfl,h0.symm,fun l hl=>by omega⟩
  ·obtain⟨y,s,h1,h2,h3,h4,_⟩:=I.par i _ (by omega) (List.getElem?_eq_getElem hi)
   obtain⟨m,q,c⟩:=ih (y/d.cl.length) h3 (by omega);refine⟨m+1,fun l=>if l<=m then q l else i,?_,?_,fun l hl=>?_⟩
   ·show(if 0<=m then q 0 else i)=0
    rw[if_pos (Nat.zero_le _)];exact c.zero
   ·show(if m+1<=m then q (m+1)else i)=i
    rw[if_neg (by omega)]
   ·show(if l<=m then q l else i)<(if l+1<=m then q (l+1)else i)/\∃ y,st.keys[if l+1<=m then q (l+1)else i]? =some y/\y/d.cl.length=(if l<=m then q l else i)
    rw[if_pos (show l<=m by omega)];by_cases e:l+1<=m
    ·rw[if_pos e];exact c.step l (by omega)
    ·rw[if_neg e]
     obtain rfl:l=m:=by omega
     rw[c.last];exact⟨h3,y,h1,rfl⟩
theorem GI.mono {d:DF} {st:GH} {m i:Nat} {q:Nat->Nat} (c:GI d st m i q):∀ l,l<=m->l<=q l/\q l<=i:=by
 have h1:∀ l,l<=m->l<=q l:=by
  intro l;induction l with
  | zero=>intro _;omega
  | succ l ih=>intro hl;have:=(c.step l (by omega)).1;have:=ih (by omega);omega
 have h2:∀ r l,l+r=m->q l<=i:=by
  intro r;induction r with
  | zero=>intro l hl;rw[<-c.last,show l=m by omega];exact Nat.le_refl _
  | succ r ih=>intro l hl;have:=ih (l+1) (by omega);have:=(c.step l (by omega)).1;omega
 exact fun l hl=>⟨h1 l hl,h2 (m-l) l (by omega)⟩
section
variable {d:DF} (h:Rt d) {i:Nat} {st:GH} (I:L8 d (i*d.cl.length) st) (hi:i<st.todo.length) (ha:∀ (j t:Nat),j<i→st.todo[j]? =some t→acc d t=false) {m:Nat} {q:Nat→Nat} (c:GI d st m i q)
include h I c hi
omit hi in
theorem rL {l p k t y:Nat} (hl:l<m) (hp:p<i) (hk:k<d.cl.length) (ht:st.todo[p]? =some t) (hy:st.keys[q (l+1)]? =some y) (hlt:p*d.cl.length+k<y):∃ p':Nat,st.todo[p']? =some (eO d t k)/\p'<q (l+1):=by
 have e1:(p*d.cl.length+k)/d.cl.length=p:=by rw[Nat.mul_comm,Nat.mul_add_div h.oZ,Nat.div_eq_of_lt hk,Nat.add_zero]
 have e2:(p*d.cl.length+k)%d.cl.length=k:=by rw[Nat.mul_comm,Nat.mul_add_mod,Nat.mod_eq_of_lt hk]
 have hx:p*d.cl.length+k<i*d.cl.length:=by have:(p+1)*d.cl.length<=i*d.cl.length:=Nat.mul_le_mul_right _ (by omega);rw[Nat.succ_mul]at this;omega
 obtain⟨p',h1,h2⟩:=I.done _ t hx (by rw[e1];exact ht);rw[e2]at h1;refine⟨p',h1,?_⟩;have hq:=(c.step l hl).1;rcases h2 with h2 | ⟨z,h2,h3⟩
 ·omega
 ·rcases Nat.lt_trichotomy p' (q (l+1))with g | g | g
  ·exact g
  ·rw[g,hy]at h2;cases h2;omega
  ·have:=I.mono _ _ _ _ (by omega) g hy h2;omega
include ha
omit hi in
theorem ud:∀ (r j p t:Nat),j+r<m->st.todo[p]? =some t->p<q (j+1)->¬Reach d r t
 | 0,j,p,t,hj,ht,hp,hr=>by
  have:=(c.mono (j+1) (by omega)).2;have:=ha p t (by omega) ht;rw[show acc d t=true from hr]at this;cases this
 | r+1,j,p,t,hj,ht,hp,⟨k,hk,hr⟩=>by
  have hle:=(c.mono (j+1) (by omega)).2;obtain⟨_,y,hy,hyq⟩:=c.step (j+1) (by omega);have hlt:p*d.cl.length+k<y:=by
   have h1:(p+1)*d.cl.length<=q (j+1)*d.cl.length:=Nat.mul_le_mul_right _ (by omega);rw[Nat.succ_mul]at h1;have h2:q (j+1)*d.cl.length<=y:=by rw[<-hyq];exact Nat.div_mul_le_self _ _
   omega
  obtain⟨p',h1,h2⟩:=rL h I c (l:=j+1) (by omega) (by omega) hk ht hy hlt;exact ud r (j+1) p' _ (by omega) h1 h2 hr
variable {s:Nat} (hs:st.todo[i]? =some s) (mX:acc d s=true)
omit h ha in
theorem jF {l:Nat} (hl:l<=m):st.todo[q l]? =some (st.todo.getD (q l) 0)/\st.todo.getD (q l) 0<d.nx.length:=by have hle:=(c.mono l hl).2;have e:=aI (l:=st.todo) 0 (i:=q l) (by omega);exact⟨e,I.lt _ (List.mem_of_getElem? e)⟩
omit h ha in
theorem j8 {l:Nat} (hl:l<m):∃ y,st.keys[q (l+1)]? =some y/\y/d.cl.length=q l/\eO d (st.todo.getD (q l) 0) (y%d.cl.length)=st.todo.getD (q (l+1)) 0/\ st.fr.getD (st.todo.getD (q (l+1)) 0) 0=st.todo.getD (q l) 0+1/\st.wK.getD (st.todo.getD (q (l+1)) 0) 0=lb d.cl (y%d.cl.length):=by obtain⟨h0,y,h1,h2⟩:=c.step l hl;obtain⟨y',s',g1,g2,g3,g4,g5,g6,g7⟩:=I.par (q (l+1)) _ (by omega) (jF I hi c (l:=l+1) (by omega)).1;rw[h1]at g1;cases g1;rw[h2]at g4;rw[(jF I hi c (l:=l) (by omega)).1]at g4;cases g4;exact⟨y,h1,h2,g5,g6,g7⟩
include hs mX
omit ha in
theorem lW:∀ r l,l+r=m->Reach d r (st.todo.getD (q l) 0)
 | 0,l,hl=>by
  obtain rfl:l=m:=by omega
  rw[c.last,getD_some hs];exact mX
 | r+1,l,hl=>by
  obtain⟨y,_,_,h3,_⟩:=j8 I hi c (l:=l) (by omega);refine⟨y%d.cl.length,Nat.mod_lt _ h.oZ,?_⟩;rw[h3];exact lW r (l+1) (by omega)
omit h ha hs mX in
theorem sU:m<d.nx.length:=by have h1:=(c.mono m (Nat.le_refl _)).1;have h2:=I.len;rw[c.last]at h1;omega
theorem ue:fp d 0=m:=by
 have h0:st.todo.getD (q 0) 0=0:=by rw[c.zero];exact getD_some I.head
 have h1:=lW h I hi c hs mX m 0 (by omega);rw[h0]at h1;have h2:=EJ h h.pos h1;have hm:=sU I hi c;have h3:=mE h h.pos (by omega);have h4:=zb h h.pos;by_cases hlt:(fp d 0).toNat<m
 ·exact absurd h3 (ud h I ha c _ 0 0 0 (by omega) I.head (show 0<q 1 by have:=(c.mono 1 (by omega)).1;omega))
 ·omega
theorem qC {l:Nat} (hl:l<=m):fp d (st.todo.getD (q l) 0)=(m:Int)-l:=by
 have hm:=sU I hi c;have up:∀ l,l<=m->fp d (st.todo.getD (q l) 0)<=(m:Int)-l:=fun l hl=>by
  have:=EJ h (jF I hi c hl).2 (lW h I hi c hs mX (m-l) l (by omega));omega
 have lo:∀ l,l<=m->(m:Int)<=fp d (st.todo.getD (q l) 0)+l:=by
  intro l;induction l with
  | zero=>
   intro _;rw[c.zero,getD_some I.head,ue h I hi ha c hs mX];omega
  | succ l ih=>
   intro hl;have h1:=ih (by omega);obtain⟨y,_,_,h3,_⟩:=j8 I hi c (l:=l) (by omega)
   have h4:=LY h (jF I hi c (l:=l) (by omega)).2 (k:=y%d.cl.length) (Nat.mod_lt _ h.oZ) (by
    rw[h3];have:=up (l+1) hl;omega)
   rw[h3]at h4;omega
 have:=up l hl;have:=lo l hl;omega
theorem uh {l:Nat} (hl:l<m):∃ y,st.keys[q (l+1)]? =some y/\jt d (st.todo.getD (q l) 0)=lb d.cl (y%d.cl.length)/\eO d (st.todo.getD (q l) 0) (cls d.cl (lb d.cl (y%d.cl.length)))=st.todo.getD (q (l+1)) 0/\lb d.cl (y%d.cl.length)<256:=by
 obtain⟨y,h1,h2,h3,_⟩:=j8 I hi c hl;have hk:=Nat.mod_lt y h.oZ;obtain⟨b1,b2,b3⟩:=ze h hk;refine⟨y,h1,LZ b1 ?_ fun e he=>?_,by rw[b2];exact h3,b1⟩
 ·unfold qB
  rw[b2,h3,qC h I hi ha c hs mX (l:=l+1) (by omega),qC h I hi ha c hs mX (l:=l) (by omega),beq_iff_eq];omega
 ·cases hb:qB d (st.todo.getD (q l) 0) e with
  | false=>rfl
  | true=>
   exfalso;unfold qB at hb;rw[beq_iff_eq,qC h I hi ha c hs mX (l:=l) (by omega)]at hb;have Sx:e<256:=by omega
   have s5:=h.part.gF Sx;obtain⟨_,_,b3'⟩:=ze h s5;have hle:=b3' e Sx rfl;have hlt:cls d.cl e<y%d.cl.length:=by
    rcases Nat.lt_trichotomy (cls d.cl e) (y%d.cl.length)with g | g | g
    ·exact g
    ·rw[g]at hle;omega
    ·have:=Qu h g s5;omega
   have hm:=sU I hi c;have hs':=(jF I hi c (l:=l) (by omega));have hr:=mE h (h.gI hs'.2 s5) (by omega);have hql:=(c.mono (l+1) (by omega)).2;have LI:=(c.step l hl).1;have hy:q l*d.cl.length+y%d.cl.length=y:=by rw[<-h2,Nat.mul_comm];exact Nat.div_add_mod y _
   obtain⟨p',g1,g2⟩:=rL h I c hl (p:=q l) (by omega) s5 hs'.1 h1 (by omega);exact ud h I ha c (fp d (eO d (st.todo.getD (q l) 0) (cls d.cl e))).toNat l p' _ (by omega) g1 g2 hr
end
theorem EM {d:DF} (h:Rt d) {i s:Nat} {st:GH} (I:L8 d (i*d.cl.length) st) (hs:st.todo[i]? =some s) (ha:∀ (j t:Nat),j<i->st.todo[j]? =some t->acc d t=false) (mX:acc d s=true): ∃ (m:Nat) (ss bs:Nat->Nat),ss 0=0/\ss m=s/\(∀ l,l<m->st.fr.getD (ss (l+1)) 0=ss l+1/\st.wK.getD (ss (l+1)) 0=bs l/\bs l<256)/\(∀ l,l<=m->ss l<d.nx.length)/\m<d.nx.length/\bU d=some ((List.range m).map bs):=by
 have hi:=(List.getElem?_eq_some_iff.1 hs).1;obtain⟨m,q,c⟩:=Mb I i hi;have hm:=sU I hi c;have Yt:∀ l,l<=m->(iy d l).1=st.todo.getD (q l) 0/\(iy d l).2=(List.range l).map fun j=>jt d (st.todo.getD (q j) 0):=by
  intro l;induction l with
  | zero=>intro _;exact⟨by rw[c.zero,getD_some I.head];rfl,rfl⟩
  | succ l ih=>
   intro hl;obtain⟨e1,e2⟩:=ih (by omega);obtain⟨y,_,g2,g3,_⟩:=uh h I hi ha c hs mX (l:=l) (by omega);refine⟨?_,?_⟩
   ·show eO d (iy d l).1 (cls d.cl (jt d (iy d l).1))=_
    rw[e1,g2];exact g3
   ·show(iy d l).2++ [jt d (iy d l).1]=_
    rw[e1,e2,List.range_succ,List.map_append];rfl
 refine⟨m,fun l=>st.todo.getD (q l) 0,fun l=>jt d (st.todo.getD (q l) 0),?_,?_,fun l hl=>?_,fun l hl=>(jF I hi c hl).2,hm,?_⟩
 ·show st.todo.getD (q 0) 0=0
  rw[c.zero];exact getD_some I.head
 ·show st.todo.getD (q m) 0=s
  rw[c.last];exact getD_some hs
 ·obtain⟨y,h1,_,_,h4,h5⟩:=j8 I hi c hl
  obtain⟨y',h1',g2,_,g4⟩:=uh h I hi ha c hs mX hl;rw[h1]at h1';cases h1';show st.fr.getD (st.todo.getD (q (l+1)) 0) 0=st.todo.getD (q l) 0+1/\st.wK.getD (st.todo.getD (q (l+1)) 0) 0=jt d (st.todo.getD (q l) 0)/\jt d (st.todo.getD (q l) 0)<256;exact⟨h4,by rw[g2];exact h5,by rw[g2];exact g4⟩
 ·unfold bU
  have hf:=ue h I hi ha c hs mX;rw[if_neg (by omega),hf,Int.toNat_natCast,(Yt m (Nat.le_refl _)).2]
/-! Counts. -/
def dO:Int:=1099511627776
def kL (s:BS):Nat:=(aQ s 256).length
def eX (d:DF) (many:List Int) (s:Nat):Nat->Int
 | 0=>0
 | k+1=>min (eX d many s k+kL (d.cl.getD k 0)*many.getD (eO d s k) 0) dO
def cS (d:DF):Nat->List Int
 | 0=>(List.range d.nx.length).map fun s=>if acc d s then 1 else 0
 | n+1=>(List.range d.nx.length).map fun s=>eX d (cS d n) s d.cl.length
theorem Mc (s:BS):kL s<=256:=by unfold kL aQ;exact Nat.le_trans (List.length_filter_le _ _) (by simp)
theorem qD {d:DF} {many:List Int} (hm:∀ t,0<=many.getD t 0/\many.getD t 0<=dO) (s:Nat):∀ k,0<=eX d many s k/\eX d many s k<=dO
 | 0=>by unfold eX dO;omega
 | k+1=>by
  have h1:=qD (d:=d) hm s k;have h2:=hm (eO d s k);have h3:(0:Int)<=kL (d.cl.getD k 0)*many.getD (eO d s k) 0:=Int.mul_nonneg (Int.natCast_nonneg _) h2.1;unfold eX;have:(0:Int)<=dO:=by unfold dO;omega
  omega
theorem fG (f:Nat->Int) (n t:Nat):((List.range n).map f).getD t 0=if t<n then f t else 0:=by
 rw[List.getD_eq_getElem?_getD,List.getElem?_map];by_cases h:t<n
 ·rw[List.getElem?_range h,if_pos h];rfl
 ·rw[List.getElem?_eq_none (by simpa using h),if_neg h];rfl
theorem Bh (d:DF):∀ n t,0<=(cS d n).getD t 0/\(cS d n).getD t 0<=dO
 | 0,t=>by
  unfold cS;rw[fG];unfold dO;split
  ·split<;>omega
  ·omega
 | n+1,t=>by
  unfold cS;rw[fG];split
  ·exact qD (fun t=>Bh d n t) t _
  ·unfold dO;omega
def jo (d:DF) (n most:Int):Int×Int:=if n<0\/64<n\/most<0\/dO<most then(0,2)else(min ((cS d n.toNat).getD 0 0) most,0)
def dR (d:DF):DF:=⟨d.cl,d.nx,d.mr.map fun m=>if m.isEmpty then [0]else []⟩
end Go.Proofs.YtalombmiochpmaaGreatDoor
