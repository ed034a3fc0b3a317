/- product.join. -/
import Derived.Test.YtalombmiochpmaaGreatDoorOR07
import Derived.Laws.EntriesVeiled
set_option maxRecDepth 100000
set_option maxHeartbeats 16000000
open Go.Lib (hid)
namespace Go.Proofs.YtalombmiochpmaaGreatDoor
open Go Go.RowKit Go.Shelf Go.Maps
attribute [local go_sem] encS
theorem ah.ten {w:World} {b:Nat} {x0 x1 x2 x3 x4 x5 x6 x7 x8 x9:Value} {t:TypeId} (h:ah w b #[x0,x1,x2,x3,x4,x5,x6,x7,x8,x9] t): (w.cell? ⟨b,0,none⟩=some x0/\w.cell? ⟨b,1,none⟩=some x1/\w.cell? ⟨b,2,none⟩=some x2/\w.cell? ⟨b,3,none⟩=some x3/\w.cell? ⟨b,4,none⟩=some x4/\w.cell? ⟨b,5,none⟩=some x5/\w.cell? ⟨b,6,none⟩=some x6/\w.cell? ⟨b,7,none⟩=some x7/\w.cell? ⟨b,8,none⟩=some x8/\w.cell? ⟨b,9,none⟩=some x9)/\ (∀ i,w.frozen? ⟨b,i,none⟩=false):=
 ⟨⟨h.cell 0,h.cell 1,h.cell 2,h.cell 3,h.cell 4,h.cell 5,h.cell 6,h.cell 7,h.cell 8,h.cell 9⟩,h.frozen⟩
theorem yB {l:List BS} {k:Nat} (hk:k<(partsOf l).length):leastOf (partsOf l) k=(lb (partsOf l) k,true):=by have h1:=aI (l:=partsOf l) 0 hk;have h2:=iq (jk l (List.mem_of_getElem? h1));unfold leastOf;rw[qN,h1];show bC _=_;unfold lb;rw[show bC ((partsOf l).getD k 0)=((bC ((partsOf l).getD k 0)).1,(bC ((partsOf l).getD k 0)).2) from rfl,h2.1]
def aH.Wk (base:Nat) (p:List BS):aH (Move false (fun _=>False)) where
 P:=fun v=>∃ b,v=.pointer (some ⟨b,0,none⟩)
 H:=fun v W=>cZ W base v p
 oI:=.pointer (some ⟨0,0,none⟩)
 pw:=⟨0,rfl⟩
 st:=fun _ _ _ hm _ h=>h.below hm.below
theorem bB {P:Program} {fn:Func} {R:Ending->World->Prop} {x:Exit} {a:Act} {w:World} (h:∀ W,W=w->bodyPost P fn R x a W):bodyPost P fn R x a w:=h w rfl
theorem ah.jW {w:World} {b:Nat} {c:Array Value} {t:TypeId} (h:ah w b c t) (k:Nat) (v:Value) {c':Array Value} (e:c.setIfInBounds k v=c'):ah (w.setCell ⟨b,k,none⟩ v) b c' t:=e▸h.set k v
theorem ah.ad7 {w:World} {b:Nat} {x0 x1 x2 x3 x4 x5 x6 x7 x8 x9:Value} {t:TypeId} (h:ah w b #[x0,x1,x2,x3,x4,x5,x6,x7,x8,x9] t) (y0 y1 y2 y3 y4 y5 y6 y7 y8 y9:Value):ah ((((((((((w.setCell ⟨b,0,none⟩ y0).setCell ⟨b,1,none⟩ y1).setCell ⟨b,2,none⟩ y2).setCell ⟨b,3,none⟩ y3).setCell ⟨b,4,none⟩ y4).setCell ⟨b,5,none⟩ y5).setCell ⟨b,6,none⟩ y6).setCell ⟨b,7,none⟩ y7).setCell ⟨b,8,none⟩ y8).setCell ⟨b,9,none⟩ y9) b #[y0,y1,y2,y3,y4,y5,y6,y7,y8,y9] t:=by have h1:ah (w.setCell ⟨b,0,none⟩ y0) b #[y0,x1,x2,x3,x4,x5,x6,x7,x8,x9] t:=h.jW 0 y0 rfl;have h2:ah ((w.setCell ⟨b,0,none⟩ y0).setCell ⟨b,1,none⟩ y1) b #[y0,y1,x2,x3,x4,x5,x6,x7,x8,x9] t:=h1.jW 1 y1 rfl;have h3:ah (((w.setCell ⟨b,0,none⟩ y0).setCell ⟨b,1,none⟩ y1).setCell ⟨b,2,none⟩ y2) b #[y0,y1,y2,x3,x4,x5,x6,x7,x8,x9] t:=h2.jW 2 y2 rfl;have h4:ah ((((w.setCell ⟨b,0,none⟩ y0).setCell ⟨b,1,none⟩ y1).setCell ⟨b,2,none⟩ y2).setCell ⟨b,3,none⟩ y3) b #[y0,y1,y2,y3,x4,x5,x6,x7,x8,x9] t:=h3.jW 3 y3 rfl;have h5:ah (((((w.setCell ⟨b,0,none⟩ y0).setCell ⟨b,1,none⟩ y1).setCell ⟨b,2,none⟩ y2).setCell ⟨b,3,none⟩ y3).setCell ⟨b,4,none⟩ y4) b #[y0,y1,y2,y3,y4,x5,x6,x7,x8,x9] t:=h4.jW 4 y4 rfl;have h6:ah ((((((w.setCell ⟨b,0,none⟩ y0).setCell ⟨b,1,none⟩ y1).setCell ⟨b,2,none⟩ y2).setCell ⟨b,3,none⟩ y3).setCell ⟨b,4,none⟩ y4).setCell ⟨b,5,none⟩ y5) b #[y0,y1,y2,y3,y4,y5,x6,x7,x8,x9] t:=h5.jW 5 y5 rfl;have h7:ah (((((((w.setCell ⟨b,0,none⟩ y0).setCell ⟨b,1,none⟩ y1).setCell ⟨b,2,none⟩ y2).setCell ⟨b,3,none⟩ y3).setCell ⟨b,4,none⟩ y4).setCell ⟨b,5,none⟩ y5).setCell ⟨b,6,none⟩ y6) b #[y0,y1,y2,y3,y4,y5,y6,x7,x8,x9] t:=h6.jW 6 y6 rfl;have h8:ah ((((((((w.setCell ⟨b,0,none⟩ y0).setCell ⟨b,1,none⟩ y1).setCell ⟨b,2,none⟩ y2).setCell ⟨b,3,none⟩ y3).setCell ⟨b,4,none⟩ y4).setCell ⟨b,5,none⟩ y5).setCell ⟨b,6,none⟩ y6).setCell ⟨b,7,none⟩ y7) b #[y0,y1,y2,y3,y4,y5,y6,y7,x8,x9] t:=h7.jW 7 y7 rfl;have h9:ah (((((((((w.setCell ⟨b,0,none⟩ y0).setCell ⟨b,1,none⟩ y1).setCell ⟨b,2,none⟩ y2).setCell ⟨b,3,none⟩ y3).setCell ⟨b,4,none⟩ y4).setCell ⟨b,5,none⟩ y5).setCell ⟨b,6,none⟩ y6).setCell ⟨b,7,none⟩ y7).setCell ⟨b,8,none⟩ y8) b #[y0,y1,y2,y3,y4,y5,y6,y7,y8,x9] t:=h8.jW 8 y8 rfl;have h10:ah ((((((((((w.setCell ⟨b,0,none⟩ y0).setCell ⟨b,1,none⟩ y1).setCell ⟨b,2,none⟩ y2).setCell ⟨b,3,none⟩ y3).setCell ⟨b,4,none⟩ y4).setCell ⟨b,5,none⟩ y5).setCell ⟨b,6,none⟩ y6).setCell ⟨b,7,none⟩ y7).setCell ⟨b,8,none⟩ y8).setCell ⟨b,9,none⟩ y9) b #[y0,y1,y2,y3,y4,y5,y6,y7,y8,y9] t:=h9.jW 9 y9 rfl;exact h10
theorem Wl (w:World) (b:Nat) (y0 y1 y2 y3 y4 y5 y6 y7 y8 y9:Value):aa (· ≠b) w ((((((((((w.setCell ⟨b,0,none⟩ y0).setCell ⟨b,1,none⟩ y1).setCell ⟨b,2,none⟩ y2).setCell ⟨b,3,none⟩ y3).setCell ⟨b,4,none⟩ y4).setCell ⟨b,5,none⟩ y5).setCell ⟨b,6,none⟩ y6).setCell ⟨b,7,none⟩ y7).setCell ⟨b,8,none⟩ y8).setCell ⟨b,9,none⟩ y9):=by
 have h1:aa (· ≠b) w (w.setCell ⟨b,0,none⟩ y0):=(aa.refl _ w).setCell (p:=⟨b,0,none⟩) (fun h=>h rfl) y0;have h2:aa (· ≠b) w ((w.setCell ⟨b,0,none⟩ y0).setCell ⟨b,1,none⟩ y1):=h1.setCell (p:=⟨b,1,none⟩) (fun h=>h rfl) y1;have h3:aa (· ≠b) w (((w.setCell ⟨b,0,none⟩ y0).setCell ⟨b,1,none⟩ y1).setCell ⟨b,2,none⟩ y2):=h2.setCell (p:=⟨b,2,none⟩) (fun h=>h rfl) y2;have h4:aa (· ≠b) w ((((w.setCell ⟨b,0,none⟩ y0).setCell ⟨b,1,none⟩ y1).setCell ⟨b,2,none⟩ y2).setCell ⟨b,3,none⟩ y3):=h3.setCell (p:=⟨b,3,none⟩) (fun h=>h rfl) y3;have h5:aa (· ≠b) w (((((w.setCell ⟨b,0,none⟩ y0).setCell ⟨b,1,none⟩ y1).setCell ⟨b,2,none⟩ y2).setCell ⟨b,3,none⟩ y3).setCell ⟨b,4,none⟩ y4):=h4.setCell (p:=⟨b,4,none⟩) (fun h=>h rfl) y4;have h6:aa (· ≠b) w ((((((w.setCell ⟨b,0,none⟩ y0).setCell ⟨b,1,none⟩ y1).setCell ⟨b,2,none⟩ y2).setCell ⟨b,3,none⟩ y3).setCell ⟨b,4,none⟩ y4).setCell ⟨b,5,none⟩ y5):=h5.setCell (p:=⟨b,5,none⟩) (fun h=>h rfl) y5;have h7:aa (· ≠b) w (((((((w.setCell ⟨b,0,none⟩ y0).setCell ⟨b,1,none⟩ y1).setCell ⟨b,2,none⟩ y2).setCell ⟨b,3,none⟩ y3).setCell ⟨b,4,none⟩ y4).setCell ⟨b,5,none⟩ y5).setCell ⟨b,6,none⟩ y6):=h6.setCell (p:=⟨b,6,none⟩) (fun h=>h rfl) y6;have h8:aa (· ≠b) w ((((((((w.setCell ⟨b,0,none⟩ y0).setCell ⟨b,1,none⟩ y1).setCell ⟨b,2,none⟩ y2).setCell ⟨b,3,none⟩ y3).setCell ⟨b,4,none⟩ y4).setCell ⟨b,5,none⟩ y5).setCell ⟨b,6,none⟩ y6).setCell ⟨b,7,none⟩ y7):=h7.setCell (p:=⟨b,7,none⟩) (fun h=>h rfl) y7
 have h9:aa (· ≠b) w (((((((((w.setCell ⟨b,0,none⟩ y0).setCell ⟨b,1,none⟩ y1).setCell ⟨b,2,none⟩ y2).setCell ⟨b,3,none⟩ y3).setCell ⟨b,4,none⟩ y4).setCell ⟨b,5,none⟩ y5).setCell ⟨b,6,none⟩ y6).setCell ⟨b,7,none⟩ y7).setCell ⟨b,8,none⟩ y8):=h8.setCell (p:=⟨b,8,none⟩) (fun h=>h rfl) y8;have h10:aa (· ≠b) w ((((((((((w.setCell ⟨b,0,none⟩ y0).setCell ⟨b,1,none⟩ y1).setCell ⟨b,2,none⟩ y2).setCell ⟨b,3,none⟩ y3).setCell ⟨b,4,none⟩ y4).setCell ⟨b,5,none⟩ y5).setCell ⟨b,6,none⟩ y6).setCell ⟨b,7,none⟩ y7).setCell ⟨b,8,none⟩ y8).setCell ⟨b,9,none⟩ y9):=h9.setCell (p:=⟨b,9,none⟩) (fun h=>h rfl) y9;exact h10
theorem mH.symm {v y:Value} (h:mH v y):mH y v:=by
 unfold mH at*;by_cases e:y.ownBlock=none
 ·exact .inl e
 ·right
  rcases h with h | h
  ·intro h';exact e (h'.trans h)
  ·exact fun h'=>h h'.symm
theorem NS (v v':Value) (a b:DF) (ra:Rt a) (rb:Rt b) (op:Nat) (w:World) (h:aT w v a) (h':aT w v' b): Calls Tryz.prog 33 #[v,v',.func (.func (lR op)) #[] #[]] w fun e w'=>∃ u,e=.returned u/\kC w.heap.size w' u a b op/\Below w.heap.size w w':=by
 obtain⟨iS,hiS,NT,NU,NV⟩:=info_parts Tryz.BU;obtain⟨iI,Hh,pT,pU,pV⟩:=info_parts Tryz.tz;obtain⟨v0,v1,v2,rfl,h0,h1,h2⟩:=h;obtain⟨a0,c0,rfl⟩:=h0.1.form;obtain⟨a1,c1,rfl⟩:=h1.form;obtain⟨a2,c2,rfl⟩:=h2.form;obtain⟨u0,u1,u2,rfl,g0,g1,g2⟩:=h';obtain⟨b0,e0,rfl⟩:=g0.1.form;obtain⟨b1,e1,rfl⟩:=g1.form;obtain⟨b2,e2,rfl⟩:=g2.form;obtain⟨pj,Wm⟩:∃ p,p=partsOf (a.cl++b.cl):=⟨_,rfl⟩;obtain⟨K,hK⟩:∃ n,n=pj.length:=⟨_,rfl⟩;have RH:K<=256:=by rw[hK,Wm,(dX _).length_eq];exact dW _
 have HPJ:=hid Wm;have Ef:=hid hK;have CA:Hid (∀ W v,dm W v a.cl->Calls Tryz.prog 60 #[v] W fun e w'=>∃ b,e=.returned (.pointer (some ⟨b,0,none⟩))/\cZ w' W.heap.size (.pointer (some ⟨b,0,none⟩)) a.cl/\Below W.heap.size W w'):=fun W v h=>by
  have:=kr a.cl v W h (by have:=ra.NJ;omega);rwa[ra.cl]at this
 have CB:Hid (∀ W v,dm W v b.cl->Calls Tryz.prog 60 #[v] W fun e w'=>∃ x,e=.returned (.pointer (some ⟨x,0,none⟩))/\cZ w' W.heap.size (.pointer (some ⟨x,0,none⟩)) b.cl/\Below W.heap.size W w'):=fun W v h=>by
  have:=kr b.cl v W h (by have:=rb.NJ;omega);rwa[rb.cl]at this
 have CJ:Hid (∀ W x y bx bY,cZ W bx (.pointer (some ⟨x,0,none⟩)) a.cl->cZ W bY (.pointer (some ⟨y,0,none⟩)) b.cl->Calls Tryz.prog 61 #[.pointer (some ⟨x,0,none⟩),.pointer (some ⟨y,0,none⟩)] W fun e w'=>∃ b,e=.returned (.pointer (some ⟨b,0,none⟩))/\cZ w' W.heap.size (.pointer (some ⟨b,0,none⟩)) pj/\Below W.heap.size W w'):=fun W x y bx bY hx hy=>by
  refine(Rk _ _ _ _ _ _ W hx hy).mono fun e w' hj=>?_
  unfold Es at hj;have e1:a.cl.isEmpty=false:=by have:=ra.tB;cases h:a.cl with | nil=>rw[h]at this;simp at this | cons _ _=>rfl
  have e2:b.cl.isEmpty=false:=by have:=rb.tB;cases h:b.cl with | nil=>rw[h]at this;simp at this | cons _ _=>rfl
  rw[e1,e2,if_neg (by decide)]at hj;rw[Wm];exact hj
 have CL:Hid (∀ W x bx,cZ W bx (.pointer (some ⟨x,0,none⟩)) pj->Calls Tryz.prog 62 #[.pointer (some ⟨x,0,none⟩)] W fun e w'=>e=.returned (.int .i64 K)/\w'=W):=fun W x bx h=>by rw[hK];exact Mq _ _ _ _ h
 have CS:Hid (∀ W x bx (k:Nat) s,pj[k]? =some s->cZ W bx (.pointer (some ⟨x,0,none⟩)) pj->Calls Tryz.prog 63 #[.pointer (some ⟨x,0,none⟩),.int .i64 k] W fun e w'=>e=.returned (.tuple #[.agg (encS s),.bool true])/\Ext W w'):=fun W x bx k s hs h=>by
  have:=En _ bx pj k W h;rw[qN,hs]at this;exact this
 have CM:Hid (∀ W x bx (k:Nat),k<pj.length->cZ W bx (.pointer (some ⟨x,0,none⟩)) pj->Calls Tryz.prog 64 #[.pointer (some ⟨x,0,none⟩),.int .i64 k] W fun e w'=>e=.returned (.tuple #[.int .u8 (lb pj k),.bool true])/\Ext W w'):=fun W x bx k hk h=>by
  have:=Cc _ bx pj k W h;rw[Wm,yB (by rw[<-Wm];exact hk), <-Wm]at this;exact this
 have HLB:Hid (∀ k,k<pj.length->lb pj k<256):=hid fun k hk=>by rw[Wm];exact Ch (by rw[<-Wm];exact hk)
 have H0:=hid h0.1;have H1:=hid h1;have H2:=hid h2;have G0:=hid g0.1;have G1:=hid g1;have G2:=hid g2;clear h0 h1 h2 g0 g1 g2 Wm hK ra rb;generalize a.cl.length=n0 at*;generalize a.nx.length=n1 at*;generalize a.mr.length=n2 at*;generalize b.cl.length=m0 at*;generalize b.nx.length=m1 at*;generalize b.mr.length=m2 at*;obtain⟨gf,hgf⟩:∃ g,g=lR op:=⟨_,rfl⟩;have HGF:=hid hgf;rw[<-hgf];clear hgf;go_enter Tryz.func33,Tryz.ntmps33;go_wp2;refine aw ?_;intro V hV;have B3:Hid (ah V w.heap.size #[.slice a0 n0 c0,.slice a1 n1 c1,.slice a2 n2 c2] 28):=by rw[hV];exact((ah.new w _ _).alloc _).alloc _
 have B4:Hid (ah V (w.heap.size+1) #[.slice b0 m0 e0,.slice b1 m1 e1,.slice b2 m2 e2] 28):=by rw[hV];exact((ah.new (w.alloc _) _ _).at (by simp)).alloc _
 have B6:Hid (ah V (w.heap.size+1+1) #[.slice none 0 0,.slice none 0 0,.slice none 0 0,.slice none 0 0,.slice none 0 0,.slice none 0 0,.slice none 0 0,.slice none 0 0,.slice none 0 0,.nilFunc] 76):=by rw[hV];exact(ah.new ((w.alloc _).alloc _) _ _).at (by simp)
 have X1:Hid (Below w.heap.size w V):=by rw[hV];exact((((Ext.refl w).alloc _).alloc _).alloc _).below
 clear hV;refine aD false (fun _=>False) (by kernel_rfl) 8 [0,1,3,0,8,31,63,127] (fun i=>i==2 || i==5) (by kernel_rfl) (fun i=>if i=2 then aH.Wk V.heap.size a.cl else if i=5 then aH.Wk V.heap.size b.cl else aH.any _) ?_;intro C hC hne;have HC:=hid hC;have f0:=ak hC (p:=⟨w.heap.size,0,none⟩) (by have:=B3.out.lt;exact this) (fun h=>h) (B3.out.cell 0);have f1:=ak hC (p:=⟨w.heap.size+1,0,none⟩) (by have:=B4.out.lt;exact this) (fun h=>h) (B4.out.cell 0);clear hC
 repeat (refine ae (fun K hK=>?_);first | (refine aR rfl ?_;try go_simp;refine hK _ _ ?_;clear hK K) | (refine aO rfl rfl ?_;unfold ai;go_simp;refine hK _ _ ?_;clear hK K))
 refine ae (fun K hK=>?_);refine bg rfl rfl (aH.Wk V.heap.size a.cl) rfl (fun W hW hN=>?_) (fun v hv=>?_)
 ·have hM:=(HC.out W).1 hW
  clear hW;go_simp;refine aB ((CA.out _ _ ((H0.out.below X1.out).below hM.below)).mono ?_);rintro e w2 ⟨b,rfl,ha,hx⟩;exact⟨_,rfl,Move.ag hx,⟨b,rfl⟩,ha.base hM.size⟩
 obtain⟨bx,rfl⟩:=hv;go_simp;refine hK _ _ ?_;clear hK K
 repeat (refine ae (fun K hK=>?_);first | (refine aR rfl ?_;try go_simp;refine hK _ _ ?_;clear hK K) | (refine aO rfl rfl ?_;unfold ai;go_simp;refine hK _ _ ?_;clear hK K))
 refine ae (fun K hK=>?_);refine bg rfl rfl (aH.Wk V.heap.size b.cl) rfl (fun W hW hN=>?_) (fun v hv=>?_)
 ·have hM:=(HC.out W).1 hW
  clear hW;go_simp;refine aB ((CB.out _ _ ((G0.out.below X1.out).below hM.below)).mono ?_);rintro e w2 ⟨b,rfl,ha,hx⟩;exact⟨_,rfl,Move.ag hx,⟨b,rfl⟩,ha.base hM.size⟩
 obtain⟨bY,rfl⟩:=hv;go_simp;refine hK _ _ ?_;clear hK K
 repeat (refine ae (fun K hK=>?_);first | (refine aR rfl ?_;try go_simp;refine hK _ _ ?_;clear hK K) | (refine aO rfl rfl ?_;unfold ai;go_simp;refine hK _ _ ?_;clear hK K))
 refine bh (fun W hW hH=>?_);have hM:=(HC.out W).1 hW;have A1:Hid (cZ W V.heap.size (.pointer (some ⟨bx,0,none⟩)) a.cl):=hid (hH _ (List.mem_of_getElem? (show _=some _ from rfl:_[1]? =some _)));have A2:Hid (cZ W V.heap.size (.pointer (some ⟨bY,0,none⟩)) b.cl):=hid (hH _ (List.mem_of_getElem? (show _=some _ from rfl:_[0]? =some _)));have C3:=hid (B3.out.below hM.below B3.out.lt);have C4:=hid (B4.out.below hM.below B4.out.lt);have C6:=hid (B6.out.below hM.below B6.out.lt);have X2:=hid (X1.out.trans (hM.below.mono X1.out.size));clear hM hW hH f0 f1 HC B3 B4 B6 X1 CA CB H0 G0;go_wp2_with fail
 refine(CJ.out _ _ _ _ _ A1.out A2.out).mono ?_;rintro e w3 ⟨bj,rfl,ha,hx⟩;have A3:=hid ha;have A1':=hid (A1.out.below hx);have A2':=hid (A2.out.below hx);have D3:=hid (C3.out.below hx C3.out.lt);have D4:=hid (C4.out.below hx C4.out.lt);have D6:=hid (C6.out.below hx C6.out.lt);have X3:=hid (X2.out.trans (hx.mono X2.out.size));clear ha hx A1 A2 C3 C4 C6 X2 CJ;obtain⟨⟨k0,k1,k2⟩,_⟩:=D3.out.three;obtain⟨⟨l0,l1,l2⟩,_⟩:=D4.out.three;go_wp2_with fail
 refine az ?_;intro V2 hV2;have XA:Hid (Below w3.heap.size w3 V2):=by rw[hV2];exact((Ext.refl _).alloc _).below
 have B10:Hid (ah V2 w3.heap.size #[.slice a0 n0 c0,.slice a1 n1 c1,.slice a2 n2 c2,.slice b0 m0 e0,.slice b1 m1 e1,.slice b2 m2 e2,.slice none 0 0,.slice none 0 0,.slice none 0 0,.func (.func gf) #[] #[]] 76):=by rw[hV2];exact ah.new _ _ _
 have A4:=hid (A3.out.below XA.out);have KK:∀ W',aa (fun x=>x<V2.heap.size/\x≠w3.heap.size) V2 W'->aa (· <w3.heap.size) w3 W':=fun W' h=>(aa.ag XA.out fun _ h=>h:aa (· <w3.heap.size) w3 V2).tr (h.mono fun x hx=>⟨Nat.lt_of_lt_of_le hx XA.out.size,Nat.ne_of_lt hx⟩)
 have A4j:Hid (∀ W',aa (fun x=>x<V2.heap.size/\x≠w3.heap.size) V2 W'->cZ W' W.heap.size (.pointer (some ⟨bj,0,none⟩)) pj):=hid fun W' h=>A3.out.keeps (KK W' h) fun _ _ h=>h
 have A4x:Hid (∀ W',aa (fun x=>x<V2.heap.size/\x≠w3.heap.size) V2 W'->cZ W' V.heap.size (.pointer (some ⟨bx,0,none⟩)) a.cl):=hid fun W' h=>A1'.out.keeps (KK W' h) fun _ _ h=>h
 have A4y:Hid (∀ W',aa (fun x=>x<V2.heap.size/\x≠w3.heap.size) V2 W'->cZ W' V.heap.size (.pointer (some ⟨bY,0,none⟩)) b.cl):=hid fun W' h=>A2'.out.keeps (KK W' h) fun _ _ h=>h
 have E6:=hid (D6.out.below XA.out D6.out.lt);have X4:=hid (X3.out.trans (XA.out.mono X3.out.size));have hb6:w.heap.size+1+1<w3.heap.size:=D6.out.lt;have ad9:w3.heap.size<V2.heap.size:=B10.out.lt;clear KK hV2 k0 k1 k2 l0 l1 l2 A3 A1' A2' D3 D4 D6 X3 XA;obtain⟨g10,aea⟩:∃ g,g=w3.heap.size:=⟨_,rfl⟩;rw[<-aea]at B10 hb6 ad9 A4j A4x A4y ⊢;clear aea;refine(CL.out _ _ _ A4.out).mono ?_;rintro e w' ⟨rfl,hw⟩;replace hw:=hw.symm;subst hw;go_wp2;go_loopw [31] (fun i wr=>∃ (k:Nat) (c o t:Value),k<=K/\i=.int .i64 k/\ah wr g10 #[.slice a0 n0 c0,.slice a1 n1 c1,.slice a2 n2 c2,.slice b0 m0 e0,.slice b1 m1 e1,.slice b2 m2 e2,c,o,t,.func (.func gf) #[] #[]] 76/\wr.ownsRow V2.heap.size 59 4 c k (aN (pj.take k))/\wr.ownsRow V2.heap.size 3 1 o k (((oneOf a pj).take k).map aS)/\wr.ownsRow V2.heap.size 3 1 t k (((oneOf b pj).take k).map aS)/\mH o t/\aa (fun x=>x<V2.heap.size/\x≠g10) V2 wr) (fun i _=>K-(intOf i).toNat);case atStart=>exact⟨0,_,_,_,by omega,rfl,B10.out,World.ownsRow_nil _ _ _ _,World.ownsRow_nil _ _ _ _,World.ownsRow_nil _ _ _ _,.inl rfl,aa.refl _ _⟩
 case round=>
  obtain⟨k,c,o,t,hk,rfl,hb,hc,ho,ht,hfar,hx⟩:=hrel;obtain⟨wo,rfl⟩:∃ wo:World,wo=wr:=⟨_,rfl⟩;have hVo:V2.heap.size<=wo.heap.size:=hx.size;by_cases hlt:k<K
  ·obtain⟨s,hs⟩:∃ s,pj[k]? =some s:=⟨_,List.getElem?_eq_getElem (by have:=Ef.out;omega)⟩
   have U7:k<pj.length:=by rw[<-Ef.out];exact hlt
   have Gf:=HLB.out k U7;obtain⟨q,hq⟩:∃ q,q=lb pj k:=⟨_,rfl⟩;obtain⟨qa,hqa⟩:∃ z,z=cls a.cl q:=⟨_,rfl⟩;obtain⟨qb,Am⟩:∃ z,z=cls b.cl q:=⟨_,rfl⟩;rw[<-hq]at Gf;have HB:=hid hb;have Kn:=hid hc;have HO:=hid ho;have HT:=hid ht;have HF:=hid hfar;have HX:=hid hx;have HS:=hid hs;have AJ:=hid (A4j.out wo hx);have AX:=hid (A4x.out wo hx);have AY:=hid (A4y.out wo hx);have gz:(k:Int)<K:=by omega
   clear hb hc ho ht hfar hx hs;have CS1:Hid (∀ W',cZ W' W.heap.size (.pointer (some ⟨bj,0,none⟩)) pj->Calls Tryz.prog 63 #[.pointer (some ⟨bj,0,none⟩),.int .i64 k] W' fun e w'=>e=.returned (.tuple #[.agg (encS s),.bool true])/\Ext W' w'):=hid fun W' h=>CS.out W' bj _ k s HS.out h
   have Mx:Hid (∀ W',cZ W' W.heap.size (.pointer (some ⟨bj,0,none⟩)) pj->Calls Tryz.prog 64 #[.pointer (some ⟨bj,0,none⟩),.int .i64 k] W' fun e w'=>e=.returned (.tuple #[.int .u8 q,.bool true])/\Ext W' w'):=hid fun W' h=>by rw[hq];exact CM.out W' bj _ k U7 h
   have CX1:Hid (∀ W',cZ W' V.heap.size (.pointer (some ⟨bx,0,none⟩)) a.cl->Calls Tryz.prog 65 #[.pointer (some ⟨bx,0,none⟩),.int .u8 q] W' fun e w'=>e=.returned (.int .i64 qa)/\w'=W'):=hid fun W' h=>by rw[hqa];exact Cb _ _ _ q Gf W' h
   have CY1:Hid (∀ W',cZ W' V.heap.size (.pointer (some ⟨bY,0,none⟩)) b.cl->Calls Tryz.prog 65 #[.pointer (some ⟨bY,0,none⟩),.int .u8 q] W' fun e w'=>e=.returned (.int .i64 qb)/\w'=W'):=hid fun W' h=>by rw[Am];exact Cb _ _ _ q Gf W' h
   have HQA:Hid ((oneOf a pj).take (k+1)=(oneOf a pj).take k++ [(qa:Int)]):=hid (by rw[List.take_add_one,qQ a U7,hqa,hq];rfl);have HQB:Hid ((oneOf b pj).take (k+1)=(oneOf b pj).take k++ [(qb:Int)]):=hid (by rw[List.take_add_one,qQ b U7,Am,hq];rfl);have HQS:Hid (pj.take (k+1)=pj.take k++ [s]):=hid (by rw[List.take_add_one,HS.out];rfl);clear hq hqa Am Gf U7 HS;go_wp2_with fail
   refine(CS1.out _ AJ.out).mono ?_;rintro e w5 ⟨rfl,hx⟩;have Y5:=hid hx;have hw5:wo.heap.size<=w5.heap.size:=hx.size;clear hx;go_wp2_with fail
   refine az ?_;intro V3 di;have S3:Hid (ah V3 w5.heap.size (encS s) 59):=by rw[di];exact ah.new _ _ _
   have Y6:Hid (Ext wo V3):=by rw[di];exact Y5.out.alloc _
   clear di Y5;refine(Mx.out _ (AJ.out.below Y6.out.below)).mono ?_;rintro e w6 ⟨rfl,hx⟩;have S6:=hid (S3.out.ext hx);have Y7:=hid (Y6.out.trans hx);clear hx S3 Y6;have Ck:=hid (aq Kn.out Y7.out.below);have j8:=hid (aq HO.out Y7.out.below);have NW:=hid (aq HT.out Y7.out.below);have eT:=hid (HB.out.ext Y7.out);have hw6:wo.heap.size<=w6.heap.size:=Y7.out.size;have gP:=hid (HX.out.tr (aa.ag Y7.out.below fun x hx=>Nat.lt_of_lt_of_le hx.1 hVo));have L1:=hid fun x e=>(Kn.out.lt x e).2
   have L2:=hid fun x e=>(HO.out.lt x e).2
   have L3:=hid fun x e=>(HT.out.lt x e).2
   clear Kn HO HT HB HX;obtain⟨ca,cc,rfl⟩:=ownsRow_form Ck.out;obtain⟨oa,oc,rfl⟩:=ownsRow_form j8.out;obtain⟨ta,tc,rfl⟩:=ownsRow_form NW.out;have Wn:Hid ((Value.slice ca k cc).ownBlock=none\/(Value.slice ca k cc).ownBlock≠(Value.slice oa k oc).ownBlock):=ownBlock_ne (by decide) Ck.out j8.out;have hcu:Hid ((Value.slice ca k cc).ownBlock=none\/(Value.slice ca k cc).ownBlock≠(Value.slice ta k tc).ownBlock):=ownBlock_ne (by decide) Ck.out NW.out;have hoc:Hid ((Value.slice oa k oc).ownBlock=none\/(Value.slice oa k oc).ownBlock≠(Value.slice ca k cc).ownBlock):=ownBlock_ne (by decide) j8.out Ck.out;have htc:Hid ((Value.slice ta k tc).ownBlock=none\/(Value.slice ta k tc).ownBlock≠(Value.slice ca k cc).ownBlock):=ownBlock_ne (by decide) NW.out Ck.out;obtain⟨XO,hXO⟩:∃ x,x=((oneOf a pj).take k).map aS:=⟨_,rfl⟩;obtain⟨XT,hXT⟩:∃ x,x=((oneOf b pj).take k).map aS:=⟨_,rfl⟩;rw[<-hXO]at j8;rw[<-hXT]at NW;have HXO:=hid hXO;have HXT:=hid hXT;clear hXO hXT;obtain⟨PL,qR⟩:∃ PL:List App,PL=[⟨59,4,.slice ca k cc,k,aN (pj.take k),1,(encS s).toList⟩,⟨3,1,.slice oa k oc,k,XO,1,[.int .i64 qa]⟩,⟨3,1,.slice ta k tc,k,XT,1,[.int .i64 qb]⟩]:=⟨_,rfl⟩;have jH:PL[0]? =some ⟨59,4,.slice ca k cc,k,aN (pj.take k),1,(encS s).toList⟩:=by rw[qR];rfl
   have mq:PL[1]? =some ⟨3,1,.slice oa k oc,k,XO,1,[.int .i64 qa]⟩:=by rw[qR];rfl
   have Hi:PL[2]? =some ⟨3,1,.slice ta k tc,k,XT,1,[.int .i64 qb]⟩:=by rw[qR];rfl
   have OK:Hid (kB w6 PL):=hid ⟨fun p hp x e=>by
     rw[qR]at hp;simp only[List.mem_cons,List.not_mem_nil,or_false]at hp;rcases hp with rfl | rfl | rfl
     ·exact(Ck.out.lt x e).2
     ·exact(j8.out.lt x e).2
     ·exact(NW.out.lt x e).2,fun i j p q hi hj oZ=>by
     have hl:PL.length=3:=by rw[qR];rfl
     have h1:=(List.getElem?_eq_some_iff.1 hi).1;have h2:=(List.getElem?_eq_some_iff.1 hj).1;rcases(show i=0\/i=1\/i=2 by omega)with rfl | rfl | rfl<;>rcases(show j=0\/j=1\/j=2 by omega)with rfl | rfl | rfl<;>(first | (exact absurd rfl oZ) | skip)<;>(first | rw[jH]at hi | rw[mq]at hi | rw[Hi]at hi)<;>(first | rw[jH]at hj | rw[mq]at hj | rw[Hi]at hj)<;>cases hi<;>cases hj
     ·exact Wn.out
     ·exact hcu.out
     ·exact hoc.out
     ·exact HF.out
     ·exact htc.out
     ·rcases HF.out with h | h
      ·by_cases e:(Value.slice ta k tc).ownBlock=none
       ·exact .inl e
       ·right;intro h';exact e (h'.trans h)
      ·exact .inr fun h'=>h h'.symm⟩
   clear Wn hcu hoc htc;have hsz:V2.heap.size<=w6.heap.size:=Nat.le_trans hVo hw6;have yC:∀ x,x<V2.heap.size->¬ ∃ p∈PL,p.v.ownBlock=some x:=fun x hx ⟨p,hp,e⟩=>by
    rw[qR]at hp;simp only[List.mem_cons,List.not_mem_nil,or_false]at hp;rcases hp with rfl | rfl | rfl
    ·have:=(Ck.out.lt _ e).1;omega
    ·have:=(j8.out.lt _ e).1;omega
    ·have:=(NW.out.lt _ e).1;omega
   have Ex:=yC g10 ad9;have sM:=hid yC;have Wo:Hid (∀ W',bT V2.heap.size w6 PL w6 W'->aa (fun x=>x<V2.heap.size/\x≠g10) V2 W'):=hid fun W' h=>gP.out.tr (h.keeps.mono fun x hx=>⟨Nat.lt_of_lt_of_le hx.1 hsz,yC x hx.1⟩)
   have Gj:¬ ∃ p∈PL,p.v.ownBlock=some w5.heap.size:=fun ⟨p,hp,e⟩=>by
    rw[qR]at hp;simp only[List.mem_cons,List.not_mem_nil,or_false]at hp;rcases hp with rfl | rfl | rfl
    ·have:=L1.out _ e;omega
    ·have:=L2.out _ e;omega
    ·have:=L3.out _ e;omega
   clear qR yC;go_wp2;refine RegG.aY (bT V2.heap.size w6 PL) (bT.drew) (fun _ _ _ h k=>h.trans k) (by kernel_rfl) 20 [0,1,0,4,15,0,32,0,0,415,927,2047,0,4096,0,0,53247,118783,262143,12415,1048575,2097151,4194303,8388607,16777215] (fun i=>i==3 || i==4 || i==9 || i==10 || i==11 || i==16 || i==17 || i==18) (by kernel_rfl) (fun j=>if j=18 then some 57 else none) (fun j hj=>(by first | rfl | (have eE:25<=j:=hj;first | exact if_neg (by omega) | (split<;>first | omega | rfl)))) (by kernel_rfl) (fun i=>if i=3 then RegG.aH.pK V2.heap.size w6 PL 1 (encS s) 59 else if i=4 then RegG.aH.app V2.heap.size w6 PL ⟨59,4,.slice ca k cc,k,aN (pj.take k),1,(encS s).toList⟩ (List.mem_of_getElem? jH)else if i=9 then RegG.aH.gU _ (.int .i64 qa)else if i=10 then RegG.aH.pK V2.heap.size w6 PL 1 #[.int .i64 qa] 3 else if i=11 then RegG.aH.app V2.heap.size w6 PL ⟨3,1,.slice oa k oc,k,XO,1,[.int .i64 qa]⟩ (List.mem_of_getElem? mq)else if i=16 then RegG.aH.gU _ (.int .i64 qb)else if i=17 then RegG.aH.pK V2.heap.size w6 PL 1 #[.int .i64 qb] 3 else if i=18 then RegG.aH.nH V2.heap.size w6 PL ⟨3,1,.slice ta k tc,k,XT,1,[.int .i64 qb]⟩ (List.mem_of_getElem? Hi)else RegG.aH.any _) ?_;intro C hC hne;have HC:=hid hC;have lB:∀ {x:Nat},x<w6.heap.size->(¬ ∃ p∈PL,p.v.ownBlock=some x)->∀ W: {W//C W},W.1.heap[x]? =w6.heap[x]? :=fun {x} h1 h2 W=>((hC W.1).1 W.2).keeps.keep x ⟨h1,h2⟩
   have f6:∀ W: {W//C W},W.1.cell? ⟨g10,6,none⟩=some (.slice ca k cc):=fun W=>((eT.out.same (lB eT.out.lt Ex W)).cell 6)
   have f7:∀ W: {W//C W},W.1.cell? ⟨g10,7,none⟩=some (.slice oa k oc):=fun W=>((eT.out.same (lB eT.out.lt Ex W)).cell 7)
   have f8:∀ W: {W//C W},W.1.cell? ⟨g10,8,none⟩=some (.slice ta k tc):=fun W=>((eT.out.same (lB eT.out.lt Ex W)).cell 8)
   have s0:∀ W: {W//C W},W.1.cell? ⟨w5.heap.size,0,none⟩=some (.int .u64 (wd s 0).toNat):=fun W=>(S6.out.same (lB S6.out.lt Gj W)).wT.1
   have s1:∀ W: {W//C W},W.1.cell? ⟨w5.heap.size,1,none⟩=some (.int .u64 (wd s 1).toNat):=fun W=>(S6.out.same (lB S6.out.lt Gj W)).wT.2.1
   have s2:∀ W: {W//C W},W.1.cell? ⟨w5.heap.size,2,none⟩=some (.int .u64 (wd s 2).toNat):=fun W=>(S6.out.same (lB S6.out.lt Gj W)).wT.2.2.1
   have s3:∀ W: {W//C W},W.1.cell? ⟨w5.heap.size,3,none⟩=some (.int .u64 (wd s 3).toNat):=fun W=>(S6.out.same (lB S6.out.lt Gj W)).wT.2.2.2
   clear hC lB
   repeat (refine RegG.ae (fun K hK=>?_);first | (refine RegG.aR rfl ?_;try go_simp;refine hK _ _ ?_;clear hK K) | (refine RegG.aO rfl rfl ?_;unfold ai;go_simp;refine hK _ _ ?_;clear hK K))
   refine RegG.ae (fun K hK=>?_);refine RegG.bg rfl rfl (RegG.aH.pK V2.heap.size w6 PL 1 (encS s) 59) rfl (fun W hW hN=>?_) (fun v hv=>?_)
   ·have hM:=(HC.out W).1 hW
    clear hW hK K
    (go_simp;exact⟨.below ((Ext.refl _).alloc _).below,⟨_,rfl⟩,fun b hb=>by cases hb;exact⟨ah.new _ _ _,OK.out.fresh hM.size⟩⟩)
   obtain⟨x3,rfl⟩:=hv;go_simp;refine hK _ _ ?_;clear hK K;refine RegG.ae (fun K hK=>?_);refine RegG.bg rfl rfl (RegG.aH.app V2.heap.size w6 PL ⟨59,4,.slice ca k cc,k,aN (pj.take k),1,(encS s).toList⟩ (List.mem_of_getElem? jH)) rfl (fun W hW hN=>?_) (fun v hv=>?_)
   ·have hM:=(HC.out W).1 hW
    clear hW hK K;refine cI (w0:=w6) (PL:=PL) (p:=⟨59,4,.slice ca k cc,k,aN (pj.take k),1,(encS s).toList⟩) (.tmp 47) (.tmp 49) 25 rfl iS _ 32 Tryz.underlying25 hiS NT NU NV rfl (show(0:Nat)<4 from by decide) OK.out jH rfl (hM.old _ (List.mem_of_getElem? jH) Ck.out) ⟨x3,0,none⟩ 1 rfl rfl (bU (hN.at 0 rfl (by kernel_rfl) x3 rfl).1) (by intro u hu;simp[encS]at hu;rcases hu with rfl | rfl | rfl | rfl<;>rfl) (by show k+1<=maxLen;unfold maxLen;omega) (by show(k+1)*32<=_;omega) (Nat.le_trans hsz hM.size) (show(0:Nat)<1 from by decide) hM.size (fun v W' g1 g2 g3 _=>⟨g1,g2,g3⟩)
   obtain⟨ca2,cc2,rfl⟩:=hv;go_simp;refine hK _ _ ?_;clear hK K
   repeat (refine RegG.ae (fun K hK=>?_);first | (refine RegG.aR rfl ?_;try go_simp;refine hK _ _ ?_;clear hK K) | (refine RegG.aO rfl rfl ?_;unfold ai;go_simp;refine hK _ _ ?_;clear hK K))
   refine RegG.ae (fun K hK=>?_);refine RegG.bg rfl rfl (RegG.aH.gU _ (.int .i64 qa)) rfl (fun W hW hN=>?_) (fun v hv=>?_)
   ·have hM:=(HC.out W).1 hW
    clear hW;go_simp;refine aB ((CX1.out _ (A4x.out _ (Wo.out _ hM))).mono ?_);rintro e w2 ⟨rfl,hx⟩;exact⟨_,rfl,(by rw[hx];exact .below (Below.refl _ _)),rfl,trivial⟩
   replace hv:v=_:=hv;subst hv;go_simp;refine hK _ _ ?_;clear hK K;refine RegG.ae (fun K hK=>?_);refine RegG.bg rfl rfl (RegG.aH.pK V2.heap.size w6 PL 1 #[.int .i64 qa] 3) rfl (fun W hW hN=>?_) (fun v hv=>?_)
   ·have hM:=(HC.out W).1 hW
    clear hW hK K
    (go_simp;exact⟨.below ((Ext.refl _).alloc _).below,⟨_,rfl⟩,fun b hb=>by cases hb;exact⟨ah.new _ _ _,OK.out.fresh hM.size⟩⟩)
   obtain⟨RI,rfl⟩:=hv;go_simp;refine hK _ _ ?_;clear hK K;refine RegG.ae (fun K hK=>?_);refine RegG.bg rfl rfl (RegG.aH.app V2.heap.size w6 PL ⟨3,1,.slice oa k oc,k,XO,1,[.int .i64 qa]⟩ (List.mem_of_getElem? mq)) rfl (fun W hW hN=>?_) (fun v hv=>?_)
   ·have hM:=(HC.out W).1 hW
    clear hW hK K;refine cI (w0:=w6) (PL:=PL) (p:=⟨3,1,.slice oa k oc,k,XO,1,[.int .i64 qa]⟩) (.tmp 52) (.tmp 56) 47 rfl iI _ 8 Tryz.underlying47 Hh pT pU pV rfl (show(0:Nat)<1 from by decide) OK.out mq rfl (hM.old _ (List.mem_of_getElem? mq) j8.out) ⟨RI,0,none⟩ 1 rfl rfl (bU (hN.at 0 rfl (by kernel_rfl) RI rfl).1) (by intro u hu;simp at hu;rw[hu];rfl) (by show k+1<=maxLen;unfold maxLen;omega) (by show(k+1)*8<=_;omega) (Nat.le_trans hsz hM.size) (show(0:Nat)<1 from by decide) hM.size (fun v W2 g1 g2 g3 _=>⟨g1,g2,g3⟩)
   obtain⟨Qk,U8,rfl⟩:=hv;go_simp;refine hK _ _ ?_;clear hK K
   repeat (refine RegG.ae (fun K hK=>?_);first | (refine RegG.aR rfl ?_;try go_simp;refine hK _ _ ?_;clear hK K) | (refine RegG.aO rfl rfl ?_;unfold ai;go_simp;refine hK _ _ ?_;clear hK K))
   refine RegG.ae (fun K hK=>?_);refine RegG.bg rfl rfl (RegG.aH.gU _ (.int .i64 qb)) rfl (fun W hW hN=>?_) (fun v hv=>?_)
   ·have hM:=(HC.out W).1 hW
    clear hW;go_simp;refine aB ((CY1.out _ (A4y.out _ (Wo.out _ hM))).mono ?_);rintro e w2 ⟨rfl,hx⟩;exact⟨_,rfl,(by rw[hx];exact .below (Below.refl _ _)),rfl,trivial⟩
   replace hv:v=_:=hv;subst hv;go_simp;refine hK _ _ ?_;clear hK K;refine RegG.ae (fun K hK=>?_);refine RegG.bg rfl rfl (RegG.aH.pK V2.heap.size w6 PL 1 #[.int .i64 qb] 3) rfl (fun W hW hN=>?_) (fun v hv=>?_)
   ·have hM:=(HC.out W).1 hW
    clear hW hK K
    (go_simp;exact⟨.below ((Ext.refl _).alloc _).below,⟨_,rfl⟩,fun b hb=>by cases hb;exact⟨ah.new _ _ _,OK.out.fresh hM.size⟩⟩)
   obtain⟨x17,rfl⟩:=hv;go_simp;refine hK _ _ ?_;clear hK K;refine RegG.ae (fun K hK=>?_);refine RegG.bg rfl rfl (RegG.aH.nH V2.heap.size w6 PL ⟨3,1,.slice ta k tc,k,XT,1,[.int .i64 qb]⟩ (List.mem_of_getElem? Hi)) rfl (fun W hW hN=>?_) (fun v hv=>?_)
   ·have hM:=(HC.out W).1 hW
    have hq:After V2.heap.size w6 ⟨3,1,.slice oa k oc,k,XO,1,[.int .i64 qa]⟩ W (.slice Qk (k+1) U8):=hN.at 2 rfl (by kernel_rfl);clear hW hK K;refine cI (w0:=w6) (PL:=PL) (p:=⟨3,1,.slice ta k tc,k,XT,1,[.int .i64 qb]⟩) (.tmp 59) (.tmp 63) 47 rfl iI _ 8 Tryz.underlying47 Hh pT pU pV rfl (show(0:Nat)<1 from by decide) OK.out Hi rfl (hM.old _ (List.mem_of_getElem? Hi) NW.out) ⟨x17,0,none⟩ 1 rfl rfl (bU (hN.at 0 rfl (by kernel_rfl) x17 rfl).1) (by intro u hu;simp at hu;rw[hu];rfl) (by show k+1<=maxLen;unfold maxLen;omega) (by show(k+1)*8<=_;omega) (Nat.le_trans hsz hM.size) (show(0:Nat)<1 from by decide) hM.size (fun v W2 g1 g2 g3 g4=>⟨g1,g2,g3,?_⟩);rcases g4 with g4 | g4
    ·exact .inl g4
    ·refine .inr (.inr fun e=>?_)
     rw[g4]at e;have:=(hq.1.lt _ e.symm).2;omega
   obtain⟨NY,NZ,rfl⟩:=hv;go_simp;refine hK _ _ ?_;clear hK K
   repeat (refine RegG.ae (fun K hK=>?_);first | (refine RegG.aR rfl ?_;try go_simp;refine hK _ _ ?_;clear hK K) | (refine RegG.aO rfl rfl ?_;unfold ai;go_simp;refine hK _ _ ?_;clear hK K))
   refine RegG.bh (fun W7 hW hH=>?_);have hM:=(HC.out W7).1 hW;have Q0:Hid (After V2.heap.size w6 ⟨59,4,.slice ca k cc,k,aN (pj.take k),1,(encS s).toList⟩ W7 (.slice ca2 (k+1) cc2)):=hid (hH _ (List.mem_of_getElem? (show _=some _ from rfl:_[6]? =some _)));have Q1:Hid (After V2.heap.size w6 ⟨3,1,.slice oa k oc,k,XO,1,[.int .i64 qa]⟩ W7 (.slice Qk (k+1) U8)):=hid (hH _ (List.mem_of_getElem? (show _=some _ from rfl:_[3]? =some _)));have Q2:Hid (After V2.heap.size w6 ⟨3,1,.slice ta k tc,k,XT,1,[.int .i64 qb]⟩ W7 (.slice NY (k+1) NZ)/\((Value.slice NY (k+1) NZ).ownBlock=(Value.slice ta k tc).ownBlock\/mH (.slice NY (k+1) NZ) (.slice Qk (k+1) U8))):=hid (hH _ (List.mem_of_getElem? (show _=some _ from rfl:_[0]? =some _)))
   have JD:Hid (mH (.slice Qk (k+1) U8) (.slice NY (k+1) NZ)):=hid (by
    rcases Q2.out.2 with h | h
    ·rcases Q1.out.2 with h' | h'
     ·rcases HF.out with h3 | h3
      ·exact .inl (h'.trans h3)
      ·exact .inr (by rw[h',h];exact h3)
     ·by_cases e:(Value.slice Qk (k+1) U8).ownBlock=none
      ·exact .inl e
      ·right
       intro e2;rw[h]at e2;cases e3:(Value.slice ta k tc).ownBlock with
       | none=>rw[e3]at e2;exact e e2
       | some x=>rw[e3]at e2;have:=h' x e2;have:=(NW.out.lt x e3).2;omega
    ·exact h.symm)
   have K7:=hid (Wo.out _ hM);have B7:=hid (eT.out.same (hM.keeps.keep g10 ⟨eT.out.lt,Ex⟩));have Rh:w6.heap.size<=W7.heap.size:=hM.size
   have R0:Hid (W7.ownsRow V2.heap.size 59 4 (.slice ca2 (k+1) cc2) (k+1) (aN (pj.take (k+1)))):=hid (by
    have:=Q0.out.1;rw[HQS.out,fS]
    simpa[aN]using this)
   have R1:Hid (W7.ownsRow V2.heap.size 3 1 (.slice Qk (k+1) U8) (k+1) (((oneOf a pj).take (k+1)).map aS)):=hid (by
    have:=Q1.out.1;rw[HQA.out,List.map_append, <-HXO.out]
    exact this)
   have R2:Hid (W7.ownsRow V2.heap.size 3 1 (.slice NY (k+1) NZ) (k+1) (((oneOf b pj).take (k+1)).map aS)):=hid (by
    have:=Q2.out.1.1;rw[HQB.out,List.map_append, <-HXT.out]
    exact this)
   clear hM hW hH HC f6 f7 f8 s0 s1 s2 s3 jH mq Hi OK Ex sM Gj Wo gP eT S6 Y7 CS1 Mx CX1 CY1 Q0 Q1 Q2 HF Ck j8 NW L1 L2 L3;obtain⟨⟨p0,p1,p2,p3,p4,p5,p6,p7,p8,p9⟩,pz⟩:=B7.out.ten;have z6:=pz 6;have z7:=pz 7;have z8:=pz 8;clear pz;go_wp2;go_roundw;case rel=>
    have kg:aa (· ≠g10) W7 (((W7.setCell ⟨g10,6,none⟩ (.slice ca2 (k+1) cc2)).setCell ⟨g10,7,none⟩ (.slice Qk (k+1) U8)).setCell ⟨g10,8,none⟩ (.slice NY (k+1) NZ)):=
     (((aa.refl _ _).setCell (p:=⟨g10,6,none⟩) (fun h=>h rfl) _).setCell (p:=⟨g10,7,none⟩) (fun h=>h rfl) _).setCell (p:=⟨g10,8,none⟩) (fun h=>h rfl) _
    refine⟨k+1,_,_,_,by omega,by go_num,((B7.out.set 6 _).set 7 _).set 8 _,?_,?_,?_,JD.out,K7.out.tr (kg.mono fun x hx=>hx.2)⟩
    ·exact aQ R0.out kg fun x h1 _ e=>by omega
    ·exact aQ R1.out kg fun x h1 _ e=>by omega
    ·exact aQ R2.out kg fun x h1 _ e=>by omega
   case measure=>simp[intOf];omega
  ·obtain rfl:k=K:=by omega
   have t0:pj.take k=pj:=by rw[Ef.out];exact List.take_length
   have t1:(oneOf a pj).take k=oneOf a pj:=by rw[Ef.out, <-kh a pj];exact List.take_length
   have t2:(oneOf b pj).take k=oneOf b pj:=by rw[Ef.out, <-kh b pj];exact List.take_length
   rw[t0]at hc;rw[t1]at ho;rw[t2]at ht;obtain⟨ca,cc,rfl⟩:=ownsRow_form hc;obtain⟨oa,oc,rfl⟩:=ownsRow_form ho;obtain⟨ta,tc,rfl⟩:=ownsRow_form ht;have R0:=hid hc;have R1:=hid ho;have R2:=hid ht;have B7:=hid hb;have F6:=hid (E6.out.keeps hx ⟨E6.out.lt,by omega⟩);have XX:Hid (Below w.heap.size w wo):=X4.out.trans (hx.mono fun x my=>⟨Nat.lt_of_lt_of_le my X4.out.size,by have:x<w.heap.size:=my;omega⟩:aa (· <w.heap.size) V2 wo).below;clear hb hc ho ht hfar hx t0 t1 t2 hlt hk;obtain⟨⟨p0,p1,p2,p3,p4,p5,p6,p7,p8,p9⟩,_⟩:=B7.out.ten;obtain⟨⟨q0,q1,q2,q3,q4,q5,q6,q7,q8,q9⟩,qz⟩:=F6.out.ten;go_wp2;refine bB ?_;intro W9 dK;have EK:Hid (ah W9 (w.heap.size+1+1) #[.slice a0 n0 c0,.slice a1 n1 c1,.slice a2 n2 c2,.slice b0 m0 e0,.slice b1 m1 e1,.slice b2 m2 e2,.slice ca k cc,.slice oa k oc,.slice ta k tc,.func (.func gf) #[] #[]] 76/\aa (· ≠w.heap.size+1+1) wo W9):=by rw[dK];exact⟨F6.out.ad7 _ _ _ _ _ _ _ _ _ _,Wl _ _ _ _ _ _ _ _ _ _ _ _⟩
   have E:=hid EK.out.1;have K9:=hid EK.out.2;clear EK dK p0 p1 p2 p3 p4 p5 p6 p7 p8 p9 q0 q1 q2 q3 q4 q5 q6 q7 q8 q9 qz;have X9:Hid (Below w.heap.size w W9):=XX.out.trans (K9.out.mono fun x hx=>by have:x<w.heap.size:=hx;omega:aa (· <w.heap.size) wo W9).below;refine bodyPost_ret (results_cell_row rfl _ _ (w.heap.size+1+1) 76 #[.slice a0 n0 c0,.slice a1 n1 c1,.slice a2 n2 c2,.slice b0 m0 e0,.slice b1 m1 e1,.slice b2 m2 e2,.slice ca k cc,.slice oa k oc,.slice ta k tc,.func (.func gf) #[] #[]] (0,0) _ rfl E.out Tryz.underlying76 rfl (by kernel_rfl)) rfl ⟨_,rfl,⟨(a0,n0,c0),.slice a1 n1 c1,.slice a2 n2 c2,(b0,m0,e0),.slice b1 m1 e1,.slice b2 m2 e2,.slice ca k cc,.slice oa k oc,.slice ta k tc,by rw[HGF.out];rfl,H1.out.below X9.out,H2.out.below X9.out,G1.out.below X9.out,G2.out.below X9.out,?_,?_,?_⟩,X9.out⟩
   ·rw[<-HPJ.out, <-Ef.out]
    exact aA (aQ R0.out K9.out fun x h1 _ e=>by omega) (by omega)
   ·rw[<-HPJ.out]
    refine dp (e:=3) (base:=V2.heap.size) (aQ R1.out K9.out fun x h1 _ e=>by omega) (by rw[kh];exact Ef.out)
   ·rw[<-HPJ.out]
    refine dp (e:=3) (base:=V2.heap.size) (aQ R2.out K9.out fun x h1 _ e=>by omega) (by rw[kh];exact Ef.out)
end Go.Proofs.YtalombmiochpmaaGreatDoor
