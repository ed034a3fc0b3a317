/- Plain facts on automata: the string that First finds is the reference's first one; counts. -/
import Derived.Test.YtalombmiochpmaaGreatDoorOR10
set_option maxRecDepth 100000
set_option maxHeartbeats 16000000
open Go.Lib (hid)
namespace Go.Proofs.YtalombmiochpmaaGreatDoor
section
open Go Go.RowKit Go.Shelf Go.Maps
attribute [local go_sem] encS
theorem vV {a b:DF} (h:(a.right&&b.right)=false) (op f:Int):aP a b op f=(sN,182):=by unfold aP;rw[if_pos h]
theorem Wu (W:World):(binOp BinOp.eql 73 .nilFunc .nilFunc).run Tryz.prog W=.ok (.bool true) W:=by kernel_rfl
theorem Od (op:Nat):∃ sv,(sv=.nilFunc\/∃ g,sv=.func (.func g) #[] #[])/\(sv=.nilFunc↔(op<1\/4<op))/\∀ W,Calls Tryz.prog 32 #[.int .u8 op] W fun e w'=>e=.returned sv/\w'=W:=by
 by_cases h:op=0\/4<op
 ·exact⟨.nilFunc,.inl rfl,⟨fun _=>by omega,fun _=>rfl⟩,fun W=>NN op h W⟩
 ·exact⟨_,.inr ⟨_,rfl⟩,⟨fun h'=>by simp at h',fun h'=>by omega⟩,fun W=>Cm op (by omega) (by omega) W⟩
theorem Ho (v v':Value) (a b:DF) (sa:Sm a) (sb:Sm b) (op:Nat) (f:Int) (Kq:(a.right&&b.right)=false\/(op<1\/4<op)\/(f<0\/4000<f)\/f=0) (w:World) (h:aT w v a) (h':aT w v' b): Calls Tryz.prog 12 #[v,v',.int .u8 op,.int .i64 f] w fun e w'=>∃ u,e=.returned (.tuple #[u,.int .i64 (aP a b op f).2])/\ay w.heap.size w' u (aP a b op f).1/\Below w.heap.size w w':=by
 have CR:Hid (∀ W,Below w.heap.size w W->Calls Tryz.prog 13 #[v] W fun e w'=>e=.returned (.bool a.right)/\Below W.heap.size W w'):=fun W hW=>dJ v a W (h.below hW) sa
 have CR':Hid (∀ W,Below w.heap.size w W->Calls Tryz.prog 13 #[v'] W fun e w'=>e=.returned (.bool b.right)/\Below W.heap.size W w'):=fun W hW=>dJ v' b W (h'.below hW) sb
 obtain⟨sv,hsv,Gl,CS0⟩:=Od op;have CS:Hid (∀ W,Calls Tryz.prog 32 #[.int .u8 op] W fun e w'=>e=.returned sv/\w'=W):=CS0;obtain⟨v0,v1,v2,rfl,h0,h1,h2⟩:=h;obtain⟨u0,u1,u2,rfl,g0,g1,g2⟩:=h';obtain⟨PE,hPE⟩:∃ x,x=aP a b op f:=⟨_,rfl⟩;rw[<-hPE];have Vb:=hid hPE;have MI:=hid Gl;obtain⟨ar,har⟩:∃ x,x=a.right:=⟨_,rfl⟩;obtain⟨br,hbr⟩:∃ x,x=b.right:=⟨_,rfl⟩;rw[<-har]at CR Kq;rw[<-hbr]at CR' Kq;have HAR:=hid har;have HBR:=hid hbr;have ajA:=hid Kq;clear h0 h1 h2 g0 g1 g2 hPE Gl CS0 har hbr Kq;have fin:Hid (∀ (W:World) (c:Int),PE=(sN,c)->Below w.heap.size w W->∀ e,e=Ending.returned (.tuple #[.agg #[.slice none 0 0,.slice none 0 0,.slice none 0 0],.int .i64 c])->∃ u,e=.returned (.tuple #[u,.int .i64 PE.2])/\ay w.heap.size W u PE.1/\Below w.heap.size w W):=hid fun W c h hx e he=>by rw[h];exact⟨_,he,Ez _ _,hx⟩
 go_enter Tryz.func12,Tryz.ntmps12
 go_wp2_with fail
 refine az ?_;intro V hV;have B4:Hid (ah V w.heap.size #[v0,v1,v2] 28):=by rw[hV];exact((ah.new w _ _).alloc _).alloc _
 have B5:Hid (ah V (w.heap.size+1) #[u0,u1,u2] 28):=by rw[hV];exact((ah.new (w.alloc _) _ _).at (by simp)).alloc _
 have B8:Hid (ah V (w.heap.size+2) #[.slice none 0 0,.slice none 0 0,.slice none 0 0] 28):=by rw[hV];exact(ah.new ((w.alloc _).alloc _) _ _).at (by simp)
 have X1:Hid (Below w.heap.size w V):=by rw[hV];exact((((Ext.refl w).alloc _).alloc _).alloc _).below
 clear hV;refine(CS.out V).mono ?_;rintro e w' ⟨rfl,hw⟩;replace hw:=hw.symm;subst hw;obtain⟨⟨k0,k1,k2⟩,_⟩:=B4.out.three;go_wp2_with fail
 refine(CR.out V X1.out).mono ?_;rintro e w2 ⟨rfl,hx⟩;have C5:=hid (B5.out.below hx B5.out.lt);have C8:=hid (B8.out.below hx B8.out.lt);have X2:=hid (X1.out.trans (hx.mono X1.out.size));clear hx k0 k1 k2 B4 B5 B8 X1;cases ar with
 | false=>
  obtain⟨_,z0,z1,z2⟩:=C8.out.three;obtain⟨⟨k0,k1,k2⟩,_⟩:=C8.out.three;go_wp2;refine bB ?_;intro W9 dK;have E9:Hid (ah W9 (w.heap.size+2) #[.slice none 0 0,.slice none 0 0,.slice none 0 0] 28/\Below w.heap.size w W9):=by rw[dK];exact hid ⟨C8.out.rW,dZ X2.out (by omega)⟩
  clear dK;obtain⟨⟨m0,m1,m2⟩,_⟩:=E9.out.1.three;refine bodyPost_ret (v:=.tuple #[.agg #[.slice none 0 0,.slice none 0 0,.slice none 0 0],.int .i64 182]) (by simp[results,Tryz.results12,go_sem,m0,m1,m2]) rfl (fin.out W9 182 (Vb.out.trans (vV (by rw[<-HAR.out];rfl) _ _)) E9.out.2 _ rfl)
 | true=>
  obtain⟨⟨k0,k1,k2⟩,_⟩:=C5.out.three;go_wp2_with fail
  refine(CR'.out w2 X2.out).mono ?_;rintro e w3 ⟨rfl,hx⟩;have D8:=hid (C8.out.below hx C8.out.lt);have X3:=hid (X2.out.trans (hx.mono X2.out.size));clear hx k0 k1 k2 C5 C8 X2;obtain⟨_,z0,z1,z2⟩:=D8.out.three;obtain⟨⟨k0,k1,k2⟩,_⟩:=D8.out.three;have Sb:Hid (∀ (W9:World) (c:Int),W9=(((w3.setCell ⟨w.heap.size+2,0,none⟩ (.slice none 0 0)).setCell ⟨w.heap.size+2,1,none⟩ (.slice none 0 0)).setCell ⟨w.heap.size+2,2,none⟩ (.slice none 0 0))->ah W9 (w.heap.size+2) #[.slice none 0 0,.slice none 0 0,.slice none 0 0] 28/\Below w.heap.size w W9):=hid fun W9 c dK=>by rw[dK];exact⟨D8.out.rW,dZ X3.out (by omega)⟩
  cases br with
  | false=>
   go_wp2;refine bB ?_;intro W9 dK;have E9:=hid (Sb.out W9 0 dK);clear dK;obtain⟨⟨m0,m1,m2⟩,_⟩:=E9.out.1.three;refine bodyPost_ret (v:=.tuple #[.agg #[.slice none 0 0,.slice none 0 0,.slice none 0 0],.int .i64 182]) (by simp[results,Tryz.results12,go_sem,m0,m1,m2]) rfl (fin.out W9 182 (Vb.out.trans (vV (by rw[<-HAR.out, <-HBR.out];rfl) _ _)) E9.out.2 _ rfl)
  | true=>
   have hr:¬ (a.right&&b.right)=false:=by rw[<-HAR.out, <-HBR.out];decide
   rcases hsv with rfl | ⟨gf,rfl⟩
   ·have hop:=MI.out.1 rfl
    have MC:=Wu;have Sa:PE=(sN,190):=by rw[Vb.out];unfold aP;rw[if_neg hr,if_pos (by omega)]
    have AZ:=hid Sa;clear Sa hr hop;go_wp2;refine bB ?_;intro W9 dK;have E9:=hid (Sb.out W9 0 dK);clear dK;obtain⟨⟨m0,m1,m2⟩,_⟩:=E9.out.1.three;refine bodyPost_ret (v:=.tuple #[.agg #[.slice none 0 0,.slice none 0 0,.slice none 0 0],.int .i64 190]) (by simp[results,Tryz.results12,go_sem,m0,m1,m2]) rfl (fin.out W9 190 AZ.out E9.out.2 _ rfl)
   ·have hop:¬ (op<1\/4<op):=fun h=>by have:=MI.out.2 h;cases this
    have MC:=Mz gf;by_cases hf0:f<0
    ·have d1:decide (f<0)=true:=decide_eq_true hf0
     have AZ:Hid (PE=(sN,2)):=hid (by rw[Vb.out];unfold aP;rw[if_neg hr,if_neg (by omega),if_pos (by omega)]);clear hr hop;go_wp2;refine bB ?_;intro W9 dK;have E9:=hid (Sb.out W9 0 dK);clear dK;obtain⟨⟨m0,m1,m2⟩,_⟩:=E9.out.1.three;refine bodyPost_ret (v:=.tuple #[.agg #[.slice none 0 0,.slice none 0 0,.slice none 0 0],.int .i64 2]) (by simp[results,Tryz.results12,go_sem,m0,m1,m2]) rfl (fin.out W9 2 AZ.out E9.out.2 _ rfl)
    ·have d1:decide (f<0)=false:=decide_eq_false hf0
     by_cases Yu:4000<f
     ·have d2:decide (4000<f)=true:=decide_eq_true Yu
      have AZ:Hid (PE=(sN,2)):=hid (by rw[Vb.out];unfold aP;rw[if_neg hr,if_neg (by omega),if_pos (by omega)]);clear hr hop;go_wp2;refine bB ?_;intro W9 dK;have E9:=hid (Sb.out W9 0 dK);clear dK;obtain⟨⟨m0,m1,m2⟩,_⟩:=E9.out.1.three;refine bodyPost_ret (v:=.tuple #[.agg #[.slice none 0 0,.slice none 0 0,.slice none 0 0],.int .i64 2]) (by simp[results,Tryz.results12,go_sem,m0,m1,m2]) rfl (fin.out W9 2 AZ.out E9.out.2 _ rfl)
     ·have d2:decide (4000<f)=false:=decide_eq_false Yu
      obtain rfl:f=0:=by
       rcases ajA.out with h | h | h | h
       ·cases h
       ·exact absurd h hop
       ·omega
       ·exact h
      have AZ:Hid (PE=(sN,181)):=hid (by rw[Vb.out];unfold aP;rw[if_neg hr,if_neg (by omega),if_neg (by omega),if_pos rfl]);clear hr hop hf0 Yu;go_wp2;refine bB ?_;intro W9 dK;have E9:=hid (Sb.out W9 0 dK);clear dK;obtain⟨⟨m0,m1,m2⟩,_⟩:=E9.out.1.three;refine bodyPost_ret (v:=.tuple #[.agg #[.slice none 0 0,.slice none 0 0,.slice none 0 0],.int .i64 181]) (by simp[results,Tryz.results12,go_sem,m0,m1,m2]) rfl (fin.out W9 181 AZ.out E9.out.2 _ rfl)
theorem kE (v v':Value) (a b:DF) (sa:Sm a) (sb:Sm b) (op:Nat) (f:Int) (w:World) (h:aT w v a) (h':aT w v' b): Calls Tryz.prog 12 #[v,v',.int .u8 op,.int .i64 f] w fun e w'=>∃ u,e=.returned (.tuple #[u,.int .i64 (aP a b op f).2])/\ay w.heap.size w' u (aP a b op f).1/\Below w.heap.size w w':=by
 by_cases Kq:(a.right&&b.right)=false\/(op<1\/4<op)\/(f<0\/4000<f)\/f=0
 ·exact Ho v v' a b sa sb op f Kq w h h'
 ·obtain⟨n,rfl⟩:∃ n:Nat,f=n:=⟨f.toNat,by omega⟩
  have hr:a.right=true/\b.right=true:=by cases ha:a.right<;>cases hb:b.right<;>simp[ha,hb]at Kq<;>simp
  exact Ob v v' a b ((aC a).1 hr.1) ((aC b).1 hr.2) sa sb op (by omega) (by omega) n (by omega) (by omega) w h h'
end
section
open Go Go.RowKit Go.Shelf Go.Maps
attribute [local go_sem] encS
theorem Cs (v:Value) (d:DF) (w:World) (h:aT w v d) (sm:Sm d): Calls Tryz.prog 20 #[v] w fun e w'=>∃ u,e=.returned u/\ay w.heap.size w' u d/\(∀ v0 v1 v2,u=.agg #[v0,v1,v2]->mH v1 v2)/\Below w.heap.size w w':=by
 obtain⟨v0,v1,v2,rfl,h0,h1,h2⟩:=h;obtain⟨a0,c0,rfl⟩:=h0.1.form;obtain⟨a1,c1,rfl⟩:=h1.form;obtain⟨a2,c2,rfl⟩:=h2.form;have SM:=hid sm;have H0:=hid h0;have H1:=hid h1;have H2:=hid h2;clear h0 h1 h2 sm;obtain⟨n0,dD⟩:∃ n,n=d.cl.length:=⟨_,rfl⟩;obtain⟨n1,gR⟩:∃ n,n=d.nx.length:=⟨_,rfl⟩;obtain⟨n2,jB⟩:∃ n,n=d.mr.length:=⟨_,rfl⟩;rw[<-dD]at H0 ⊢;rw[<-gR]at H1 ⊢;rw[<-jB]at H2 ⊢;have lJ:=hid dD;have ku:=hid gR;have j9:=hid jB;clear dD gR jB;go_enter Tryz.func20,Tryz.ntmps20;go_wp2;refine aw ?_;intro V hV;have oK:Hid (ah V w.heap.size #[.slice a0 n0 c0,.slice a1 n1 c1,.slice a2 n2 c2] 28):=by rw[hV];exact(ah.new w _ _).alloc _
 have eT:Hid (ah V (w.heap.size+1) #[.slice none 0 0,.slice none 0 0,.slice none 0 0] 28):=by rw[hV];exact(ah.new (w.alloc _) _ _).at (by simp)
 have HX:Hid (Below w.heap.size w V):=by rw[hV];exact(((Ext.refl w).alloc _).alloc _).below
 have HS:Hid (w.heap.size+2<=V.heap.size):=by rw[hV];exact hid (by simp)
 clear hV;refine aD false (fun _=>False) (by kernel_rfl) 8 [0,1,3,0,8,31,0,64,255,511,1023] (fun i=>i==2 || i==5 || i==8 || i==10) (by kernel_rfl) (fun i=>if i=2 then aH.row (w.heap.size+2) 59 4 d.cl.length (aN d.cl)else if i=5 then aH.oll (w.heap.size+2) d.nx else aH.any _) ?_;intro C hC hne;have HC:=hid hC;have f0:=ak hC (p:=⟨w.heap.size,0,none⟩) (by have:=oK.out.lt;exact this) (fun h=>h) (oK.out.cell 0);have f1:=ak hC (p:=⟨w.heap.size,1,none⟩) (by have:=oK.out.lt;exact this) (fun h=>h) (oK.out.cell 1);have f2:=ak hC (p:=⟨w.heap.size,2,none⟩) (by have:=oK.out.lt;exact this) (fun h=>h) (oK.out.cell 2);clear hC
 repeat (refine ae (fun K hK=>?_);first | (refine aR rfl ?_;try go_simp;refine hK _ _ ?_;clear hK K) | (refine aO rfl rfl ?_;unfold ai;go_simp;refine hK _ _ ?_;clear hK K))
 refine ae (fun K hK=>?_);refine bg rfl rfl (aH.row (w.heap.size+2) 59 4 d.cl.length (aN d.cl)) rfl (fun W hW hN=>?_) (fun v hv=>?_)
 ·have hM:=(HC.out W).1 hW
  clear hW;go_simp;refine aB ((AQ _ d.cl _ ⟨(H0.out.1.below HX.out).below hM.below,H0.out.2⟩ SM.out.cl).mono ?_);rintro e w2 ⟨vp,rfl,ho,hx⟩;exact⟨_,rfl,Move.ag hx,ownsRow_form ho,aA ho (Nat.le_trans HS.out hM.size)⟩
 obtain⟨a3,c3,rfl⟩:=hv;go_simp;refine hK _ _ ?_;clear hK K
 repeat (refine ae (fun K hK=>?_);first | (refine aR rfl ?_;try go_simp;refine hK _ _ ?_;clear hK K) | (refine aO rfl rfl ?_;unfold ai;go_simp;refine hK _ _ ?_;clear hK K))
 refine ae (fun K hK=>?_);refine bg rfl rfl (aH.oll (w.heap.size+2) d.nx) rfl (fun W hW hN=>?_) (fun v hv=>?_)
 ·have hM:=(HC.out W).1 hW
  clear hW;go_simp;refine aB ((Cj _ d.nx _ ((H1.out.below HX.out).below hM.below) SM.out.nx SM.out.Ci).mono ?_);rintro e w2 ⟨vp,rfl,ho,hx⟩;exact⟨_,rfl,Move.ag hx,ho.form,ho.base (Nat.le_trans HS.out hM.size)⟩
 obtain⟨a4,c4,rfl⟩:=hv;go_simp;refine hK _ _ ?_;clear hK K
 repeat (refine ae (fun K hK=>?_);first | (refine aR rfl ?_;try go_simp;refine hK _ _ ?_;clear hK K) | (refine aO rfl rfl ?_;unfold ai;go_simp;refine hK _ _ ?_;clear hK K))
 refine bh (fun W hW hH=>?_);have hM:=(HC.out W).1 hW;have R0:Hid (W.ownsRow (w.heap.size+2) 59 4 (.slice a3 d.cl.length c3) d.cl.length (aN d.cl)):=hid (hH _ (List.mem_of_getElem? (show _=some _ from rfl:_[1]? =some _)));have R1:Hid (aW (w.heap.size+2) W (.slice a4 d.nx.length c4) d.nx):=hid (hH _ (List.mem_of_getElem? (show _=some _ from rfl:_[0]? =some _)));have XB1:=hid (oK.out.below hM.below oK.out.lt);have XB2:=hid (eT.out.below hM.below eT.out.lt);have XX:=hid (HX.out.trans (hM.below.mono HX.out.size));have XS:=hid (Nat.le_trans HS.out hM.size);clear hM hW hH f0 f1 f2 HC oK eT HX;go_wp2_with fail
 refine(Cj _ d.mr _ (H2.out.below XX.out) SM.out.mr SM.out.mks).mono ?_;rintro e w2 ⟨vp,rfl,ho,hx⟩;obtain⟨a5,c5,rfl⟩:=ho.form;have R0':=hid (aq R0.out hx);have R1':=hid (R1.out.below hx)
 have FR:Hid (mH (.slice a4 d.nx.length c4) (.slice a5 d.mr.length c5)):=hid (by
  obtain⟨us,_,h1,_⟩:=R1.out;obtain⟨ms,_,h2,_⟩:=ho;by_cases e:(Value.slice a4 d.nx.length c4).ownBlock=none
  ·exact .inl e
  ·right
   intro e2;cases e3:(Value.slice a4 d.nx.length c4).ownBlock with
   | none=>exact e e3
   | some x=>have h5:=(h1.lt x e3).2;have h6:=(h2.lt x (e2▸e3)).1;omega)
 have R2':=hid (ho.base XS.out);have YB2:=hid (XB2.out.below hx XB2.out.lt);have YX:=hid (XX.out.trans (hx.mono XX.out.size));clear ho hx R0 R1 XB1 XB2 XX;obtain⟨⟨k0,k1,k2⟩,z0,z1,z2⟩:=YB2.out.three;go_wp2;obtain⟨W9,dK⟩:∃ W9,W9=(((w2.setCell ⟨w.heap.size+1,0,none⟩ (.slice a3 d.cl.length c3)).setCell ⟨w.heap.size+1,1,none⟩ (.slice a4 d.nx.length c4)).setCell ⟨w.heap.size+1,2,none⟩ (.slice a5 d.mr.length c5)):=⟨_,rfl⟩;have E:Hid (ah W9 (w.heap.size+1) #[.slice a3 d.cl.length c3,.slice a4 d.nx.length c4,.slice a5 d.mr.length c5] 28):=by rw[dK];exact YB2.out.rW
 have K9:Hid (aa (fun x=>x<w2.heap.size/\x≠w.heap.size+1) w2 W9):=by rw[dK];exact(((aa.refl _ _).setCell (p:=⟨w.heap.size+1,0,none⟩) (fun h=>h.2 rfl) _).setCell (p:=⟨w.heap.size+1,1,none⟩) (fun h=>h.2 rfl) _).setCell (p:=⟨w.heap.size+1,2,none⟩) (fun h=>h.2 rfl) _
 rw[<-dK];clear dK k0 k1 k2 z0 z1 z2;obtain⟨⟨m0,m1,m2⟩,_⟩:=E.out.three;refine bodyPost_ret (v:=.agg #[.slice a3 d.cl.length c3,.slice a4 d.nx.length c4,.slice a5 d.mr.length c5]) (by simp[results,Tryz.results20,go_sem,m0,m1,m2]) rfl ⟨_,rfl,?_,fun _ _ _ e=>by cases e;exact FR.out,?_⟩
 ·refine ay.base (base:=w.heap.size+2) ⟨_,_,_,rfl,?_,?_,?_⟩ (by omega)
  ·exact aQ R0'.out K9.out fun k h1 h2=>⟨h2,by omega⟩
  ·exact R1'.out.keeps K9.out fun k h1 h2=>⟨h2,by omega⟩
  ·exact R2'.out.keeps K9.out fun k h1 h2=>⟨h2,by omega⟩
 ·exact YX.out.trans ((K9.out.mono fun k hk=>⟨Nat.lt_of_lt_of_le hk YX.out.size,by have:k<w.heap.size:=hk;omega⟩:aa (· <w.heap.size) w2 W9).below)
end
section
open Go Go.RowKit
def Reach (d:DF):Nat->Nat->Prop
 | 0,s=>acc d s=true
 | m+1,s=>∃ k,k<d.cl.length/\Reach d m (eJ d s k)
/-! The reference: distances. -/
def Ct (d:DF) (far:List Int) (s k:Nat):List Int:=if far.getD (eJ d s k) 0+1<far.getD s 0 then far.set s (far.getD (eJ d s k) 0+1)else far
def EA (d:DF):List Int:=(List.range d.nx.length).map fun s=>if acc d s then 0 else(d.nx.length:Int)
def kG (d:DF) (far:List Int) (s:Nat):Nat->List Int
 | 0=>far
 | k+1=>Ct d (kG d far s k) s k
def kH (d:DF) (far:List Int):Nat->List Int
 | 0=>far
 | s+1=>kG d (kH d far s) s d.cl.length
def Cu (d:DF):Nat->List Int
 | 0=>EA d
 | r+1=>kH d (Cu d r) d.nx.length
structure yF (d:DF) (far:List Int):Prop where
 len:far.length=d.nx.length
 lo:∀ s,s<d.nx.length->0<=far.getD s 0/\far.getD s 0<=d.nx.length
 sound:∀ s,s<d.nx.length->far.getD s 0<d.nx.length->Reach d (far.getD s 0).toNat s
theorem pX (l:List Int) (i j:Nat) (x:Int) (hj:i<l.length):(l.set i x).getD j 0=if j=i then x else l.getD j 0:=by
 rw[List.getD_eq_getElem?_getD,List.getElem?_set];by_cases e:j=i
 ·subst e;rw[if_pos rfl,if_pos hj,if_pos rfl];rfl
 ·rw[if_neg (fun h=>e h.symm),if_neg e,List.getD_eq_getElem?_getD]
theorem Sc {d:DF} (h:Rt d) {far:List Int} (f:yF d far) {s k:Nat} (hs:s<d.nx.length) (hk:k<d.cl.length):yF d (Ct d far s k)/\(∀ t,(Ct d far s k).getD t 0<=far.getD t 0)/\(Ct d far s k).getD s 0<=far.getD (eJ d s k) 0+1:=by
 have hn:=h.cK hs hk;have h1:=f.lo _ hn;have h0:=f.lo s hs;unfold Ct;split
 ·rename_i hlt
  have hg:∀ j,(far.set s (far.getD (eJ d s k) 0+1)).getD j 0=if j=s then far.getD (eJ d s k) 0+1 else far.getD j 0:=fun j=>pX _ _ _ _ (by rw[f.len];exact hs)
  refine⟨⟨by rw[List.length_set];exact f.len,fun t ht=>?_,fun t ht aaQ=>?_⟩,fun t=>?_,?_⟩
  ·rw[hg]
   split
   ·omega
   ·exact f.lo t ht
  ·rw[hg]at aaQ ⊢
   split
   ·rename_i e
    subst e;rw[show(far.getD (eJ d t k) 0+1).toNat=(far.getD (eJ d t k) 0).toNat+1 by omega];exact⟨k,hk,f.sound _ hn (by omega)⟩
   ·rename_i e
    rw[if_neg e]at aaQ;exact f.sound t ht aaQ
  ·rw[hg]
   split
   ·rename_i e;subst e;omega
   ·exact Int.le_refl _
  ·rw[hg,if_pos rfl];exact Int.le_refl _
 ·exact⟨f,fun t=>Int.le_refl _,by omega⟩
theorem vW {d:DF} (h:Rt d) {far:List Int} (f:yF d far) {s:Nat} (hs:s<d.nx.length):∀ k,k<=d.cl.length->yF d (kG d far s k)/\(∀ t,(kG d far s k).getD t 0<=far.getD t 0)/\∀ j,j<k->(kG d far s k).getD s 0<=far.getD (eJ d s j) 0+1
 | 0,_=>⟨f,fun _=>Int.le_refl _,fun j hj=>by omega⟩
 | k+1,hk=>by
  obtain⟨a,b,c⟩:=vW h f hs k (by omega);obtain⟨a',b',c'⟩:=Sc h a hs (show k<d.cl.length by omega);refine⟨a',fun t=>Int.le_trans (b' t) (b t),fun j hj=>?_⟩;show(Ct d (kG d far s k) s k).getD s 0<=_;by_cases e:j=k
  ·subst e;have:=b (eJ d s j);omega
  ·have:=c j (by omega);have:=b' s;omega
theorem vX {d:DF} (h:Rt d) {far:List Int} (f:yF d far):∀ n,n<=d.nx.length->yF d (kH d far n)/\(∀ t,(kH d far n).getD t 0<=far.getD t 0)/\∀ s j,s<n->j<d.cl.length->(kH d far n).getD s 0<=far.getD (eJ d s j) 0+1
 | 0,_=>⟨f,fun _=>Int.le_refl _,fun s j hj=>by omega⟩
 | n+1,hn=>by
  obtain⟨a,b,c⟩:=vX h f n (by omega);obtain⟨a',b',c'⟩:=vW h a (show n<d.nx.length by omega) d.cl.length (Nat.le_refl _);refine⟨a',fun t=>Int.le_trans (b' t) (b t),fun s j hs hj=>?_⟩;show(kG d (kH d far n) n d.cl.length).getD s 0<=_;by_cases e:s=n
  ·subst e;have:=c' j hj;have:=b (eJ d s j);omega
  ·have:=c s j (by omega) hj;have:=b' s;omega
theorem yG {d:DF} {s:Nat} (hs:s<d.nx.length):(EA d).getD s 0=if acc d s then 0 else(d.nx.length:Int):=by unfold EA;rw[List.getD_eq_getElem?_getD,List.getElem?_map,List.getElem?_range hs];rfl
theorem tG {d:DF} (h:Rt d):∀ r,yF d (Cu d r)/\∀ m s,m<=r->s<d.nx.length->Reach d m s->(Cu d r).getD s 0<=m
 | 0=>by
  refine⟨⟨by simp[Cu,EA],fun s hs=>?_,fun s hs hlt=>?_⟩,fun m s hm hs hr=>?_⟩
  ·show 0<=(EA d).getD s 0/\(EA d).getD s 0<=_
   rw[yG hs];split<;>omega
  ·replace hlt:(EA d).getD s 0<_:=hlt
   show Reach d ((EA d).getD s 0).toNat s;rw[yG hs]at hlt ⊢;split
   ·rename_i ha;exact ha
   ·rename_i ha;rw[if_neg ha]at hlt;omega
  ·obtain rfl:m=0:=by omega
   show(EA d).getD s 0<=_;rw[yG hs,if_pos (show acc d s=true from hr)];exact Int.le_refl _
 | r+1=>by
  obtain⟨f,g⟩:=tG h r;obtain⟨a,b,c⟩:=vX h f d.nx.length (Nat.le_refl _);refine⟨a,fun m s hm hs hr=>?_⟩;show(kH d (Cu d r) d.nx.length).getD s 0<=_;cases m with
  | zero=>have:=g 0 s (by omega) hs hr;have:=b s;omega
  | succ m=>
   obtain⟨k,hk,wR⟩:=hr;have:=g m _ (by omega) (h.cK hs hk) wR;have:=c s k hs hk;omega
def aep (d:DF):List Int:=Cu d d.nx.length
def bE (d:DF) (s:Nat):Int:=(aep d).getD s 0
theorem jm {d:DF} (h:Rt d) {s:Nat} (hs:s<d.nx.length):0<=bE d s/\bE d s<=d.nx.length:=(tG h d.nx.length).1.lo s hs
theorem eW {d:DF} (h:Rt d) {s:Nat} (hs:s<d.nx.length) (hl:bE d s<d.nx.length):Reach d (bE d s).toNat s:=(tG h d.nx.length).1.sound s hs hl
theorem hZ {d:DF} (h:Rt d) {s m:Nat} (hs:s<d.nx.length) (hr:Reach d m s):bE d s<=m:=by
 by_cases hm:m<=d.nx.length
 ·exact(tG h d.nx.length).2 m s hm hs hr
 ·have:=(jm h hs).2;omega
theorem kI {d:DF} (h:Rt d) {s k:Nat} (hs:s<d.nx.length) (hk:k<d.cl.length) (hl:bE d (eJ d s k)<d.nx.length):bE d s<=bE d (eJ d s k)+1:=by have h1:=eW h (h.cK hs hk) hl;have h2:=hZ h hs (m:=(bE d (eJ d s k)).toNat+1) ⟨k,hk,h1⟩;have:=(jm h (h.cK hs hk)).1;omega
def bR (d:DF) (s c:Nat):Bool:=bE d (eJ d s (cls d.cl c))==bE d s-1
def cg (d:DF) (s:Nat):Nat:=((List.range 256).find? (bR d s)).getD 0
def aF (d:DF):Nat->Nat×List Nat
 | 0=>(0,[])
 | j+1=>(eJ d (aF d j).1 (cls d.cl (cg d (aF d j).1)),(aF d j).2++ [cg d (aF d j).1])
def aJ (d:DF):Option (List Nat):=if bE d 0=d.nx.length then none else some (aF d (bE d 0).toNat).2
theorem find_range {p:Nat->Bool} {n c:Nat} (hc:c<n) (hp:p c=true) (hn:∀ e,e<c->p e=false):(List.range n).find? p=some c:=by rw[List.find?_eq_some_iff_getElem];refine⟨hp,c,by simpa using hc,by simp,fun j hj=>by simp[hn j hj]⟩
theorem tH {d:DF} {s c:Nat} (hc:c<256) (hp:bR d s c=true) (hn:∀ e,e<c->bR d s e=false):cg d s=c:=by unfold cg;rw[find_range hc hp hn];rfl
theorem jX {d:DF} (h:Rt d) {k:Nat} (hk:k<d.cl.length):lb d.cl k<256/\cls d.cl (lb d.cl k)=k/\∀ c,c<256->cls d.cl c=k->lb d.cl k<=c:=by
 have e:=h.cl;have xQ:k<(partsOf d.cl).length:=by rw[e];exact hk
 have h1:=aI (l:=partsOf d.cl) 0 xQ;obtain⟨_,h2,h3,h4⟩:=iq (jk d.cl (List.mem_of_getElem? h1));rw[e]at h1 h2 h3 h4;refine⟨h2,(h.part.lN h2).2 ⟨_,h1,h3⟩,fun c hc hck=>?_⟩;obtain⟨q,hq,hb⟩:=(h.part.lN hc).1 hck;rw[h1]at hq;cases hq;show(bC _).1<=c;by_cases hlt:c<(bC (d.cl.getD k 0)).1
 ·have:=h4 c hlt;rw[this]at hb;cases hb
 ·omega
theorem Wv {d:DF} (h:Rt d) {i j:Nat} (oZ:i<j) (hj:j<d.cl.length):lb d.cl i<lb d.cl j:=by have:=rI d.cl (i:=i) (j:=j) (x:=d.cl.getD i 0) (y:=d.cl.getD j 0) (by rw[h.cl];exact aI _ (by omega)) (by rw[h.cl];exact aI _ (by omega)) oZ;exact this
/-! The program: breadth first. -/
structure MJ where
 todo:List Nat
 keys:List Nat
 fr:List Int
 jN:List Nat
def vis (d:DF) (st:MJ) (x:Nat):MJ:=
 match st.todo[x/d.cl.length]? with
 | none=>st
 | some s=>if st.fr.getD (eJ d s (x%d.cl.length)) 0=0 then⟨st.todo++ [eJ d s (x%d.cl.length)],st.keys++ [x],st.fr.set (eJ d s (x%d.cl.length)) (s+1),st.jN.set (eJ d s (x%d.cl.length)) (lb d.cl (x%d.cl.length))⟩else st
def JE (d:DF):Nat->MJ
 | 0=>⟨[0],[0],(List.replicate d.nx.length 0).set 0 (-1),List.replicate d.nx.length 0⟩
 | x+1=>vis d (JE d x) x
structure Sd (d:DF) (x:Nat) (st:MJ):Prop where
 keys:st.keys.length=st.todo.length
 fr:st.fr.length=d.nx.length
 jN:st.jN.length=d.nx.length
 head:st.todo[0]? =some 0
 root:st.fr.getD 0 0= -1
 nodup:st.todo.Nodup
 lt:∀ t∈st.todo,t<d.nx.length
 mem:∀ t,t<d.nx.length->(st.fr.getD t 0≠0↔t∈st.todo)
 par:∀ j t,0<j->st.todo[j]? =some t->∃ y s,st.keys[j]? =some y/\y<x/\y/d.cl.length<j/\st.todo[y/d.cl.length]? =some s/\eJ d s (y%d.cl.length)=t/\st.fr.getD t 0=s+1/\st.jN.getD t 0=lb d.cl (y%d.cl.length)
 mono:∀ i j y z,0<i->i<j->st.keys[i]? =some y->st.keys[j]? =some z->y<z
 done:∀ y s,y<x->st.todo[y/d.cl.length]? =some s->∃ j:Nat,st.todo[j]? =some (eJ d s (y%d.cl.length))/\(j=0\/∃ z,st.keys[j]? =some z/\z<=y)
theorem Oe (l:List Nat) (i j:Nat) (x:Nat) (hj:i<l.length):(l.set i x).getD j 0=if j=i then x else l.getD j 0:=by
 rw[List.getD_eq_getElem?_getD,List.getElem?_set];by_cases e:j=i
 ·subst e;rw[if_pos rfl,if_pos hj,if_pos rfl];rfl
 ·rw[if_neg (fun h=>e h.symm),if_neg e,List.getD_eq_getElem?_getD]
theorem Hp (n i:Nat):(List.replicate n (0:Int)).getD i 0=0:=by rw[List.getD_eq_getElem?_getD,List.getElem?_replicate];split<;>rfl
theorem Sg {d:DF} (h:Rt d):∀ x,Sd d x (JE d x)
 | 0=>by
  have hp:=h.pos;have hg:∀ j,((List.replicate d.nx.length (0:Int)).set 0 (-1)).getD j 0=if j=0 then-1 else 0:=fun j=>by
   rw[pX _ _ _ _ (by simp;omega),Hp]
  refine⟨rfl,by simp[JE],by simp[JE],rfl,by show((List.replicate d.nx.length (0:Int)).set 0 (-1)).getD 0 0= -1;rw[hg];rfl,by simp[JE],fun t ht=>?_,fun t ht=>?_,fun j t hj UX=>?_,fun i j y z hi oZ hy hz=>?_,fun y s hy=>by omega⟩
  ·simp[JE]at ht;omega
  ·show((List.replicate d.nx.length (0:Int)).set 0 (-1)).getD t 0≠0↔t∈ [0]
   rw[hg];by_cases e:t=0
   ·subst e;simp
   ·simp[e]
  ·have:=(List.getElem?_eq_some_iff.1 UX).1;simp[JE]at this;omega
  ·have:=(List.getElem?_eq_some_iff.1 hz).1;simp[JE]at this;omega
 | x+1=>by
  have I:=Sg h x;have hK:=h.tB;show Sd d (x+1) (vis d (JE d x) x);generalize JE d x=st at I;unfold vis;split
  ·rename_i hn
   exact⟨I.keys,I.fr,I.jN,I.head,I.root,I.nodup,I.lt,I.mem,fun j t hj ht=>by
     obtain⟨y,s,h1,h2,h3⟩:=I.par j t hj ht;exact⟨y,s,h1,by omega,h3⟩,I.mono,fun y s hy hs=>by
     by_cases e:y=x
     ·subst e;rw[hn]at hs;cases hs
     ·exact I.done y s (by omega) hs⟩
  ·rename_i s hs
   have fy:=I.lt s (List.mem_of_getElem? hs);have Jz:=Nat.mod_lt x hK;have Nq:=h.cK fy Jz;have Sh:x/d.cl.length<st.todo.length:=(List.getElem?_eq_some_iff.1 hs).1;generalize ht:eJ d s (x%d.cl.length)=t at*;split
   ·rename_i h0
    have JP:t∉st.todo:=fun hm=>(I.mem t Nq).2 hm h0
    have hf:∀ j,(st.fr.set t ((s:Int)+1)).getD j 0=if j=t then(s:Int)+1 else st.fr.getD j 0:=fun j=>pX _ _ _ _ (by rw[I.fr];exact Nq)
    have hb:∀ j,(st.jN.set t (lb d.cl (x%d.cl.length))).getD j 0=if j=t then lb d.cl (x%d.cl.length)else st.jN.getD j 0:=fun j=>Oe _ _ _ _ (by rw[I.jN];exact Nq)
    have hk:=I.keys;have hold:∀ (j u:Nat),st.todo[j]? =some u->(st.todo++ [t])[j]? =some u:=fun j u hj=>by
     rw[List.getElem?_append_left (List.getElem?_eq_some_iff.1 hj).1];exact hj
    have Yx:∀ (j u:Nat),st.keys[j]? =some u->(st.keys++ [x])[j]? =some u:=fun j u hj=>by
     rw[List.getElem?_append_left (List.getElem?_eq_some_iff.1 hj).1];exact hj
    have Ww:(st.todo++ [t])[st.todo.length]? =some t:=by simp
    have Si:(st.keys++ [x])[st.todo.length]? =some x:=by rw[<-hk];simp
    have aeq:∀ (j u:Nat),(st.todo++ [t])[j]? =some u->st.todo[j]? =some u\/(j=st.todo.length/\u=t):=fun j u hj=>by
     by_cases hl:j<st.todo.length
     ·rw[List.getElem?_append_left hl]at hj;exact .inl hj
     ·have h1:=(List.getElem?_eq_some_iff.1 hj).1
      simp at h1;obtain rfl:j=st.todo.length:=by omega
      rw[Ww]at hj;cases hj;exact .inr ⟨rfl,rfl⟩
    have ht0:t≠0:=fun e=>JP (by rw[e];exact List.mem_of_getElem? I.head)
    refine⟨by simp[hk],by simp[I.fr],by simp[I.jN],hold _ _ I.head,by show(st.fr.set t ((s:Int)+1)).getD 0 0= -1;rw[hf,if_neg (fun e=>ht0 e.symm)];exact I.root,?_,?_,?_,?_,?_,?_⟩
    ·show(st.todo++ [t]).Nodup
     rw[List.nodup_append];exact⟨I.nodup,by simp,fun a ha b hb e=>by simp at hb;subst hb;subst e;exact JP ha⟩
    ·intro u hu
     rcases List.mem_append.1 hu with hu | hu
     ·exact I.lt u hu
     ·simp at hu;subst hu;exact Nq
    ·intro u hu
     show(st.fr.set t ((s:Int)+1)).getD u 0≠0↔u∈st.todo++ [t];rw[hf];by_cases e:u=t
     ·subst e
      rw[if_pos rfl];exact⟨fun _=>by simp,fun _=>by omega⟩
     ·rw[if_neg e,I.mem u hu];simp[e]
    ·intro j u hj hu
     rcases aeq j u hu with hu | ⟨rfl,rfl⟩
     ·obtain⟨y,s',h1,h2,h3,h4,h5,h6,h7⟩:=I.par j u hj hu
      have hne:u≠t:=fun e=>JP (by rw[<-e];exact List.mem_of_getElem? hu)
      refine⟨y,s',Yx _ _ h1,by omega,h3,hold _ _ h4,h5,?_,?_⟩
      ·show(st.fr.set t ((s:Int)+1)).getD u 0=_
       rw[hf,if_neg hne];exact h6
      ·show(st.jN.set t (lb d.cl (x%d.cl.length))).getD u 0=_
       rw[hb,if_neg hne];exact h7
     ·refine⟨x,s,Si,by omega,Sh,hold _ _ hs,ht,?_,?_⟩
      ·show(st.fr.set u ((s:Int)+1)).getD u 0=_
       rw[hf,if_pos rfl]
      ·show(st.jN.set u (lb d.cl (x%d.cl.length))).getD u 0=_
       rw[hb,if_pos rfl]
    ·intro i j y z hi oZ hy hz
     have QJ:j<(st.keys++ [x]).length:=(List.getElem?_eq_some_iff.1 hz).1;simp only[List.length_append,List.length_cons,List.length_nil]at QJ;have jK:i<st.keys.length:=by omega
     replace hy:(st.keys++ [x])[i]? =some y:=hy;replace hz:(st.keys++ [x])[j]? =some z:=hz;rw[List.getElem?_append_left jK]at hy;by_cases hl:j<st.keys.length
     ·rw[List.getElem?_append_left hl]at hz
      exact I.mono i j y z hi oZ hy hz
     ·obtain rfl:j=st.todo.length:=by omega
      rw[Si]at hz;cases hz;have hti:i<st.todo.length:=by omega
      obtain⟨y',s',h1,h2,_⟩:=I.par i _ hi (List.getElem?_eq_getElem hti);rw[hy]at h1;cases h1;exact h2
    ·intro y s' hy hs'
     replace hs':(st.todo++ [t])[y/d.cl.length]? =some s':=hs';have hyx:y/d.cl.length<=x/d.cl.length:=Nat.div_le_div_right (by omega);rw[List.getElem?_append_left (by omega)]at hs';by_cases e:y=x
     ·subst e
      rw[hs]at hs';cases hs';exact⟨st.todo.length,by rw[ht];exact Ww,.inr ⟨y,Si,Nat.le_refl _⟩⟩
     ·obtain⟨j,h1,h2⟩:=I.done y s' (by omega) hs'
      refine⟨j,hold _ _ h1,?_⟩;rcases h2 with h2 | ⟨z,h2,h3⟩
      ·exact .inl h2
      ·exact .inr ⟨z,Yx _ _ h2,h3⟩
   ·rename_i h0
    refine⟨I.keys,I.fr,I.jN,I.head,I.root,I.nodup,I.lt,I.mem,fun j u hj hu=>?_,I.mono,fun y s' hy hs'=>?_⟩
    ·obtain⟨y,s',h1,h2,h3⟩:=I.par j u hj hu
     exact⟨y,s',h1,by omega,h3⟩
    ·by_cases e:y=x
     ·subst e
      rw[hs]at hs';cases hs';have hm:t∈st.todo:=(I.mem t Nq).1 h0;obtain⟨j,hj⟩:=List.getElem?_of_mem hm;refine⟨j,by rw[ht];exact hj,?_⟩;by_cases j0:j=0
      ·exact .inl j0
      ·obtain⟨z,s',h1,h2,_⟩:=I.par j t (by omega) hj
       exact .inr ⟨z,h1,by omega⟩
     ·exact I.done y s' (by omega) hs'
theorem gK:∀ (n:Nat) (l:List Nat),l.Nodup->(∀ t∈l,t<n)->l.length<=n
 | 0,l,_,h=>by
  cases l with
  | nil=>simp
  | cons x r=>have:=h x (by simp);omega
 | n+1,l,hd,h=>by
  have h1:=gK n (l.erase n) (hd.erase n) (fun t ht=>by
   have h2:=(hd.mem_erase_iff).1 ht;have:=h t h2.2;have:=h2.1
   omega)
  by_cases hm:n∈l
  ·rw[List.length_erase_of_mem hm]at h1;omega
  ·rw[List.erase_of_not_mem hm]at h1;omega
theorem Sd.len {d:DF} {x:Nat} {st:MJ} (h:Sd d x st):st.todo.length<=d.nx.length:=gK _ _ h.nodup h.lt
theorem Kr {d:DF} (h:Rt d) {i:Nat} {st:MJ} (I:Sd d (i*d.cl.length) st) (hi:st.todo.length<=i) (ha:∀ (j t:Nat),st.todo[j]? =some t->acc d t=false):aJ d=none:=by
 have key:∀ (m s:Nat),s∈st.todo->¬Reach d m s:=by
  intro m;induction m with
  | zero=>
   intro s hs hr;obtain⟨j,hj⟩:=List.getElem?_of_mem hs;have h1:=ha j s hj;rw[show acc d s=true from hr]at h1;cases h1
  | succ m ih=>
   rintro s hs ⟨k,hk,hr⟩;obtain⟨j,hj⟩:=List.getElem?_of_mem hs;have QJ:=(List.getElem?_eq_some_iff.1 hj).1;have e1:(j*d.cl.length+k)/d.cl.length=j:=by
    rw[Nat.mul_comm,Nat.mul_add_div h.tB,Nat.div_eq_of_lt hk,Nat.add_zero]
   have e2:(j*d.cl.length+k)%d.cl.length=k:=by rw[Nat.mul_comm,Nat.mul_add_mod,Nat.mod_eq_of_lt hk]
   have hlt:j*d.cl.length+k<i*d.cl.length:=by have:(j+1)*d.cl.length<=i*d.cl.length:=Nat.mul_le_mul_right _ (by omega);rw[Nat.succ_mul]at this;omega
   obtain⟨p,h1,_⟩:=I.done (j*d.cl.length+k) s hlt (by rw[e1];exact hj);rw[e2]at h1;exact ih _ (List.mem_of_getElem? h1) hr
 unfold aJ;have Gg:=jm h h.pos;by_cases hl:bE d 0<d.nx.length
 ·exact absurd (eW h h.pos hl) (key _ 0 (List.mem_of_getElem? I.head))
 ·rw[if_pos (by omega)]
structure MK (d:DF) (st:MJ) (m i:Nat) (q:Nat->Nat):Prop where
 zero:q 0=0
 last:q m=i
 step:∀ l,l<m->q l<q (l+1)/\∃ y,st.keys[q (l+1)]? =some y/\y/d.cl.length=q l
theorem Sj {d:DF} {x:Nat} {st:MJ} (I:Sd d x st):∀ (i:Nat),i<st.todo.length->∃ m q,MK d st m i q:=by
 intro i;induction i using Nat.strongRecOn with
 | ind i ih=>
  intro hi;by_cases h0:i=0
  ·exact⟨0,fun _=>0,rfl,h0.symm,fun l hl=>by omega⟩
  ·obtain⟨y,s,h1,h2,h3,h4,_⟩:=I.par i _ (by omega) (List.getElem?_eq_getElem hi)
   obtain⟨m,q,c⟩:=ih (y/d.cl.length) h3 (by omega);refine⟨m+1,fun l=>if l<=m then q l else i,?_,?_,fun l hl=>?_⟩
   ·show(if 0<=m then q 0 else i)=0
    rw[if_pos (Nat.zero_le _)];exact c.zero
   ·show(if m+1<=m then q (m+1)else i)=i
    rw[if_neg (by omega)]
   ·show(if l<=m then q l else i)<(if l+1<=m then q (l+1)else i)/\∃ y,st.keys[if l+1<=m then q (l+1)else i]? =some y/\y/d.cl.length=(if l<=m then q l else i)
    rw[if_pos (show l<=m by omega)];by_cases e:l+1<=m
    ·rw[if_pos e];exact c.step l (by omega)
    ·rw[if_neg e]
     obtain rfl:l=m:=by omega
     rw[c.last];exact⟨h3,y,h1,rfl⟩
theorem MK.mono {d:DF} {st:MJ} {m i:Nat} {q:Nat->Nat} (c:MK d st m i q):∀ l,l<=m->l<=q l/\q l<=i:=by
 have h1:∀ l,l<=m->l<=q l:=by
  intro l;induction l with
  | zero=>intro _;omega
  | succ l ih=>intro hl;have:=(c.step l (by omega)).1;have:=ih (by omega);omega
 have h2:∀ r l,l+r=m->q l<=i:=by
  intro r;induction r with
  | zero=>intro l hl;rw[<-c.last,show l=m by omega];exact Nat.le_refl _
  | succ r ih=>intro l hl;have:=ih (l+1) (by omega);have:=(c.step l (by omega)).1;omega
 exact fun l hl=>⟨h1 l hl,h2 (m-l) l (by omega)⟩
section
variable {d:DF} (h:Rt d) {i:Nat} {st:MJ} (I:Sd d (i*d.cl.length) st) (hi:i<st.todo.length) (ha:∀ (j t:Nat),j<i→st.todo[j]? =some t→acc d t=false) {m:Nat} {q:Nat→Nat} (c:MK d st m i q)
include h I c hi
omit hi in
theorem vY {l p k t y:Nat} (hl:l<m) (hp:p<i) (hk:k<d.cl.length) (ht:st.todo[p]? =some t) (hy:st.keys[q (l+1)]? =some y) (hlt:p*d.cl.length+k<y):∃ p':Nat,st.todo[p']? =some (eJ d t k)/\p'<q (l+1):=by
 have e1:(p*d.cl.length+k)/d.cl.length=p:=by rw[Nat.mul_comm,Nat.mul_add_div h.tB,Nat.div_eq_of_lt hk,Nat.add_zero]
 have e2:(p*d.cl.length+k)%d.cl.length=k:=by rw[Nat.mul_comm,Nat.mul_add_mod,Nat.mod_eq_of_lt hk]
 have hx:p*d.cl.length+k<i*d.cl.length:=by have:(p+1)*d.cl.length<=i*d.cl.length:=Nat.mul_le_mul_right _ (by omega);rw[Nat.succ_mul]at this;omega
 obtain⟨p',h1,h2⟩:=I.done _ t hx (by rw[e1];exact ht);rw[e2]at h1;refine⟨p',h1,?_⟩;have hq:=(c.step l hl).1;rcases h2 with h2 | ⟨z,h2,h3⟩
 ·omega
 ·rcases Nat.lt_trichotomy p' (q (l+1))with g | g | g
  ·exact g
  ·rw[g,hy]at h2;cases h2;omega
  ·have:=I.mono _ _ _ _ (by omega) g hy h2;omega
include ha
omit hi in
theorem yH:∀ (r j p t:Nat),j+r<m->st.todo[p]? =some t->p<q (j+1)->¬Reach d r t
 | 0,j,p,t,hj,ht,hp,hr=>by
  have:=(c.mono (j+1) (by omega)).2;have:=ha p t (by omega) ht;rw[show acc d t=true from hr]at this;cases this
 | r+1,j,p,t,hj,ht,hp,⟨k,hk,hr⟩=>by
  have hle:=(c.mono (j+1) (by omega)).2;obtain⟨_,y,hy,hyq⟩:=c.step (j+1) (by omega);have hlt:p*d.cl.length+k<y:=by
   have h1:(p+1)*d.cl.length<=q (j+1)*d.cl.length:=Nat.mul_le_mul_right _ (by omega);rw[Nat.succ_mul]at h1;have h2:q (j+1)*d.cl.length<=y:=by rw[<-hyq];exact Nat.div_mul_le_self _ _
   omega
  obtain⟨p',h1,h2⟩:=vY h I c (l:=j+1) (by omega) (by omega) hk ht hy hlt;exact yH r (j+1) p' _ (by omega) h1 h2 hr
variable {s:Nat} (hs:st.todo[i]? =some s) (mL:acc d s=true)
omit h ha in
theorem mM {l:Nat} (hl:l<=m):st.todo[q l]? =some (st.todo.getD (q l) 0)/\st.todo.getD (q l) 0<d.nx.length:=by have hle:=(c.mono l hl).2;have e:=aI (l:=st.todo) 0 (i:=q l) (by omega);exact⟨e,I.lt _ (List.mem_of_getElem? e)⟩
omit h ha in
theorem nI {l:Nat} (hl:l<m):∃ y,st.keys[q (l+1)]? =some y/\y/d.cl.length=q l/\eJ d (st.todo.getD (q l) 0) (y%d.cl.length)=st.todo.getD (q (l+1)) 0/\ st.fr.getD (st.todo.getD (q (l+1)) 0) 0=st.todo.getD (q l) 0+1/\st.jN.getD (st.todo.getD (q (l+1)) 0) 0=lb d.cl (y%d.cl.length):=by obtain⟨h0,y,h1,h2⟩:=c.step l hl;obtain⟨y',s',g1,g2,g3,g4,g5,g6,g7⟩:=I.par (q (l+1)) _ (by omega) (mM I hi c (l:=l+1) (by omega)).1;rw[h1]at g1;cases g1;rw[h2]at g4;rw[(mM I hi c (l:=l) (by omega)).1]at g4;cases g4;exact⟨y,h1,h2,g5,g6,g7⟩
include hs mL
omit ha in
theorem pY:∀ r l,l+r=m->Reach d r (st.todo.getD (q l) 0)
 | 0,l,hl=>by
  obtain rfl:l=m:=by omega
  rw[c.last,getD_some hs];exact mL
 | r+1,l,hl=>by
  obtain⟨y,_,_,h3,_⟩:=nI I hi c (l:=l) (by omega);refine⟨y%d.cl.length,Nat.mod_lt _ h.tB,?_⟩;rw[h3];exact pY r (l+1) (by omega)
omit h ha hs mL in
theorem xH:m<d.nx.length:=by have h1:=(c.mono m (Nat.le_refl _)).1;have h2:=I.len;rw[c.last]at h1;omega
theorem yI:bE d 0=m:=by
 have h0:st.todo.getD (q 0) 0=0:=by rw[c.zero];exact getD_some I.head
 have h1:=pY h I hi c hs mL m 0 (by omega);rw[h0]at h1;have h2:=hZ h h.pos h1;have hm:=xH I hi c;have h3:=eW h h.pos (by omega);have h4:=jm h h.pos;by_cases hlt:(bE d 0).toNat<m
 ·exact absurd h3 (yH h I ha c _ 0 0 0 (by omega) I.head (show 0<q 1 by have:=(c.mono 1 (by omega)).1;omega))
 ·omega
theorem uU {l:Nat} (hl:l<=m):bE d (st.todo.getD (q l) 0)=(m:Int)-l:=by
 have hm:=xH I hi c;have up:∀ l,l<=m->bE d (st.todo.getD (q l) 0)<=(m:Int)-l:=fun l hl=>by
  have:=hZ h (mM I hi c hl).2 (pY h I hi c hs mL (m-l) l (by omega));omega
 have lo:∀ l,l<=m->(m:Int)<=bE d (st.todo.getD (q l) 0)+l:=by
  intro l;induction l with
  | zero=>
   intro _;rw[c.zero,getD_some I.head,yI h I hi ha c hs mL];omega
  | succ l ih=>
   intro hl;have h1:=ih (by omega);obtain⟨y,_,_,h3,_⟩:=nI I hi c (l:=l) (by omega)
   have h4:=kI h (mM I hi c (l:=l) (by omega)).2 (k:=y%d.cl.length) (Nat.mod_lt _ h.tB) (by
    rw[h3];have:=up (l+1) hl;omega)
   rw[h3]at h4;omega
 have:=up l hl;have:=lo l hl;omega
theorem yJ {l:Nat} (hl:l<m):∃ y,st.keys[q (l+1)]? =some y/\cg d (st.todo.getD (q l) 0)=lb d.cl (y%d.cl.length)/\eJ d (st.todo.getD (q l) 0) (cls d.cl (lb d.cl (y%d.cl.length)))=st.todo.getD (q (l+1)) 0/\lb d.cl (y%d.cl.length)<256:=by
 obtain⟨y,h1,h2,h3,_⟩:=nI I hi c hl;have hk:=Nat.mod_lt y h.tB;obtain⟨b1,b2,b3⟩:=jX h hk;refine⟨y,h1,tH b1 ?_ fun e he=>?_,by rw[b2];exact h3,b1⟩
 ·unfold bR
  rw[b2,h3,uU h I hi ha c hs mL (l:=l+1) (by omega),uU h I hi ha c hs mL (l:=l) (by omega),beq_iff_eq];omega
 ·cases hb:bR d (st.todo.getD (q l) 0) e with
  | false=>rfl
  | true=>
   exfalso;unfold bR at hb;rw[beq_iff_eq,uU h I hi ha c hs mL (l:=l) (by omega)]at hb;have Yy:e<256:=by omega
   have xQ:=h.part.cU Yy;obtain⟨_,_,b3'⟩:=jX h xQ;have hle:=b3' e Yy rfl;have hlt:cls d.cl e<y%d.cl.length:=by
    rcases Nat.lt_trichotomy (cls d.cl e) (y%d.cl.length)with g | g | g
    ·exact g
    ·rw[g]at hle;omega
    ·have:=Wv h g xQ;omega
   have hm:=xH I hi c;have hs':=(mM I hi c (l:=l) (by omega));have hr:=eW h (h.cK hs'.2 xQ) (by omega);have hql:=(c.mono (l+1) (by omega)).2;have RB:=(c.step l hl).1;have hy:q l*d.cl.length+y%d.cl.length=y:=by rw[<-h2,Nat.mul_comm];exact Nat.div_add_mod y _
   obtain⟨p',g1,g2⟩:=vY h I c hl (p:=q l) (by omega) xQ hs'.1 h1 (by omega);exact yH h I ha c (bE d (eJ d (st.todo.getD (q l) 0) (cls d.cl e))).toNat l p' _ (by omega) g1 g2 hr
end
theorem Ks {d:DF} (h:Rt d) {i s:Nat} {st:MJ} (I:Sd d (i*d.cl.length) st) (hs:st.todo[i]? =some s) (ha:∀ (j t:Nat),j<i->st.todo[j]? =some t->acc d t=false) (mL:acc d s=true): ∃ (m:Nat) (ss bs:Nat->Nat),ss 0=0/\ss m=s/\(∀ l,l<m->st.fr.getD (ss (l+1)) 0=ss l+1/\st.jN.getD (ss (l+1)) 0=bs l/\bs l<256)/\(∀ l,l<=m->ss l<d.nx.length)/\m<d.nx.length/\aJ d=some ((List.range m).map bs):=by
 have hi:=(List.getElem?_eq_some_iff.1 hs).1;obtain⟨m,q,c⟩:=Sj I i hi;have hm:=xH I hi c;have aer:∀ l,l<=m->(aF d l).1=st.todo.getD (q l) 0/\(aF d l).2=(List.range l).map fun j=>cg d (st.todo.getD (q j) 0):=by
  intro l;induction l with
  | zero=>intro _;exact⟨by rw[c.zero,getD_some I.head];rfl,rfl⟩
  | succ l ih=>
   intro hl;obtain⟨e1,e2⟩:=ih (by omega);obtain⟨y,_,g2,g3,_⟩:=yJ h I hi ha c hs mL (l:=l) (by omega);refine⟨?_,?_⟩
   ·show eJ d (aF d l).1 (cls d.cl (cg d (aF d l).1))=_
    rw[e1,g2];exact g3
   ·show(aF d l).2++ [cg d (aF d l).1]=_
    rw[e1,e2,List.range_succ,List.map_append];rfl
 refine⟨m,fun l=>st.todo.getD (q l) 0,fun l=>cg d (st.todo.getD (q l) 0),?_,?_,fun l hl=>?_,fun l hl=>(mM I hi c hl).2,hm,?_⟩
 ·show st.todo.getD (q 0) 0=0
  rw[c.zero];exact getD_some I.head
 ·show st.todo.getD (q m) 0=s
  rw[c.last];exact getD_some hs
 ·obtain⟨y,h1,_,_,h4,h5⟩:=nI I hi c hl
  obtain⟨y',h1',g2,_,g4⟩:=yJ h I hi ha c hs mL hl;rw[h1]at h1';cases h1';show st.fr.getD (st.todo.getD (q (l+1)) 0) 0=st.todo.getD (q l) 0+1/\st.jN.getD (st.todo.getD (q (l+1)) 0) 0=cg d (st.todo.getD (q l) 0)/\cg d (st.todo.getD (q l) 0)<256;exact⟨h4,by rw[g2];exact h5,by rw[g2];exact g4⟩
 ·unfold aJ
  have hf:=yI h I hi ha c hs mL;rw[if_neg (by omega),hf,Int.toNat_natCast,(aer m (Nat.le_refl _)).2]
/-! Counts. -/
def eY:Int:=1099511627776
def oB (s:BS):Nat:=(bF s 256).length
def ia (d:DF) (many:List Int) (s:Nat):Nat->Int
 | 0=>0
 | k+1=>min (ia d many s k+oB (d.cl.getD k 0)*many.getD (eJ d s k) 0) eY
def dS (d:DF):Nat->List Int
 | 0=>(List.range d.nx.length).map fun s=>if acc d s then 1 else 0
 | n+1=>(List.range d.nx.length).map fun s=>ia d (dS d n) s d.cl.length
theorem Sk (s:BS):oB s<=256:=by unfold oB bF;exact Nat.le_trans (List.length_filter_le _ _) (by simp)
theorem uV {d:DF} {many:List Int} (hm:∀ t,0<=many.getD t 0/\many.getD t 0<=eY) (s:Nat):∀ k,0<=ia d many s k/\ia d many s k<=eY
 | 0=>by unfold ia eY;omega
 | k+1=>by
  have h1:=uV (d:=d) hm s k;have h2:=hm (eJ d s k);have h3:(0:Int)<=oB (d.cl.getD k 0)*many.getD (eJ d s k) 0:=Int.mul_nonneg (Int.natCast_nonneg _) h2.1;unfold ia;have:(0:Int)<=eY:=by unfold eY;omega
  omega
theorem iQ (f:Nat->Int) (n t:Nat):((List.range n).map f).getD t 0=if t<n then f t else 0:=by
 rw[List.getD_eq_getElem?_getD,List.getElem?_map];by_cases h:t<n
 ·rw[List.getElem?_range h,if_pos h];rfl
 ·rw[List.getElem?_eq_none (by simpa using h),if_neg h];rfl
theorem Hq (d:DF):∀ n t,0<=(dS d n).getD t 0/\(dS d n).getD t 0<=eY
 | 0,t=>by
  unfold dS;rw[iQ];unfold eY;split
  ·split<;>omega
  ·omega
 | n+1,t=>by
  unfold dS;rw[iQ];split
  ·exact uV (fun t=>Hq d n t) t _
  ·unfold eY;omega
def kJ (d:DF) (n most:Int):Int×Int:=if n<0\/64<n\/most<0\/eY<most then(0,2)else(min ((dS d n.toNat).getD 0 0) most,0)
def aK (d:DF):DF:=⟨d.cl,d.nx,d.mr.map fun m=>if m.isEmpty then [0]else []⟩
end
end Go.Proofs.YtalombmiochpmaaGreatDoor
