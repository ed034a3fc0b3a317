/- The law's letter and others. -/
import Derived.Test.YtalombmiochpmaaGreatDoorOP34
set_option maxRecDepth 100000
set_option maxHeartbeats 16000000
open Go.Lib (hid)
namespace Go.Proofs.YtalombmiochpmaaGreatDoor
open Go Go.RowKit Go.Shelf Go.Maps
def ZB (W:World) (b:Nat):Prop:=∃ u0 u1 u2,ah W b #[u0,u1,u2] 28
def DU (b0 b1:Nat) (c0 c1:Array Value) (A B:World):Prop:=aa (fun x=>x≠b0/\x≠b1) A B/\(ah A b0 c0 28->ah B b0 c0 28)/\(ah A b1 c1 28->ah B b1 c1 28)/\(ZB A b0->ZB B b0)/\(ZB A b1->ZB B b1)
theorem DU.trans {b0 b1:Nat} {c0 c1:Array Value} {A B C:World} (h:DU b0 b1 c0 c1 A B) (k:DU b0 b1 c0 c1 B C):DU b0 b1 c0 c1 A C:=⟨h.1.tr k.1,fun x=>k.2.1 (h.2.1 x),fun x=>k.2.2.1 (h.2.2.1 x),fun x=>k.2.2.2.1 (h.2.2.2.1 x),fun x=>k.2.2.2.2 (h.2.2.2.2 x)⟩
theorem DU.drew {b0 b1:Nat} {c0 c1:Array Value} {A:World} :DU b0 b1 c0 c1 A A.drew:=⟨(aa.refl _ _).drew,fun a=>a,fun a=>a,fun a=>a,fun a=>a⟩
def r9 (b0 b1:Nat) (c0 c1:Array Value):aR (DU b0 b1 c0 c1):=⟨fun u=>u=undef,fun _ W=>ah W b0 c0 28,undef,rfl,fun _ _ _ hm _ h=>hm.2.1 h⟩
def se (b0 b1:Nat) (c0 c1:Array Value):aR (DU b0 b1 c0 c1):=⟨fun u=>u=undef,fun _ W=>ah W b1 c1 28,undef,rfl,fun _ _ _ hm _ h=>hm.2.2.1 h⟩
theorem gv {W:World} {b:Nat} {u0 u1 u2:Value} (h:ah W b #[u0,u1,u2] 28) (x0 x1 x2:Value):ah (((W.setCell ⟨b,0,none⟩ x0).setCell ⟨b,1,none⟩ x1).setCell ⟨b,2,none⟩ x2) b #[x0,x1,x2] 28/\aa (· ≠b) W (((W.setCell ⟨b,0,none⟩ x0).setCell ⟨b,1,none⟩ x1).setCell ⟨b,2,none⟩ x2):=
 ⟨((h.set 0 _).set 1 _).set 2 _,(((aa.refl _ _).setCell (p:=⟨b,0,none⟩) (fun h=>h rfl) _).setCell (p:=⟨b,1,none⟩) (fun h=>h rfl) _).setCell (p:=⟨b,2,none⟩) (fun h=>h rfl) _⟩
theorem Rx (v v':Value) (x y:List (Nat×Nat×Nat)) (hx9:x.length<=1000000000000000) (hy9:y.length<=1000000000000000) (kf:Bool) {p q:DF} {cp cq:Int} (hp:kZ (T1 x kf) 40=(p,cp)) (hq:kZ (T1 y kf) 40=(q,cq)) (J4:cp=0\/cp=181) (hcq:cq=0\/cq=181) {n0 n1 n2 m0 m1 m2:Nat} (h0:n0=p.cl.length) (h1:n1=p.nx.length) (h2:n2=p.mr.length) (h3:m0=q.cl.length) (h4:m1=q.nx.length) (h5:m2=q.mr.length) (w:World) (h:eR w v x) (h':eR w v' y) (hT:∀ W,Below w.heap.size w W->pK W): Calls Tryz.prog 10 #[v,v',.bool kf] w (Tj p q (cp != 181&&cq != 181) n0 n1 n2 m0 m1 m2 w):=by
 have CM:Hid (∀ W,Below w.heap.size w W->Calls Tryz.prog 24 #[v] W fun e w'=>∃ u,e=.returned u/\aF (· <w'.heap.size) w' u (dM x)/\Below W.heap.size W w'):=hid fun W hW=>vh v x hx9 W (h.below hW)
 have CN:Hid (∀ W,Below w.heap.size w W->Calls Tryz.prog 24 #[v'] W fun e w'=>∃ u,e=.returned u/\aF (· <w'.heap.size) w' u (dM y)/\Below W.heap.size W w'):=hid fun W hW=>vh v' y hy9 W (h'.below hW)
 have TT:Hid (∀ A,Below w.heap.size w A->∀ V,Below A.heap.size A V->pK V):=hid fun A hA V hV=>hT V (hA.trans (hV.mono hA.size))
 have CA:Hid (∀ W u,Below w.heap.size w W->aF (· <W.heap.size) W u (dM x)->Calls Tryz.prog 23 #[u,.bool kf,.int .i64 40] W (wT n0 n1 n2 cp p W)):=hid fun W u hW hu=>vy u x kf hp h0 h1 h2 W hu (TT.out W hW)
 have CB:Hid (∀ W u,Below w.heap.size w W->aF (· <W.heap.size) W u (dM y)->Calls Tryz.prog 23 #[u,.bool kf,.int .i64 40] W (wT m0 m1 m2 cq q W)):=hid fun W u hW hu=>vy u y kf hq h3 h4 h5 W hu (TT.out W hW)
 obtain⟨va,vc,rfl⟩:=h.form;obtain⟨wa,wc,rfl⟩:=h'.form;generalize x.length=xn at*;generalize y.length=yn at*;clear h h' hT hp hq h0 h1 h2 h3 h4 h5 TT;go_enter Tryz.func10,Tryz.ntmps10;go_upto_region 1 with fail
 refine ax ?_;intro V0 hV;have BZ:Hid (ah V0 w.heap.size #[.slice none 0 0,.slice none 0 0,.slice none 0 0] 28):=hid (by rw[hV];exact(ah.new w _ _).alloc _);have BY:Hid (ah V0 (w.heap.size+1) #[.slice none 0 0,.slice none 0 0,.slice none 0 0] 28):=hid (by rw[hV];exact(ah.new (w.alloc _) _ _).at (by simp));have X0:Hid (Below w.heap.size w V0):=hid (by rw[hV];exact(((Ext.refl w).alloc _).alloc _).below);clear hV;go_wp2_with fail
 refine(CM.out V0 X0.out).mono ?_;rintro e w1 ⟨u,rfl,ht,hx⟩;have X1:=hid (X0.out.trans (hx.mono X0.out.size));have Y1:Hid (Below V0.heap.size V0 w1):=hid hx;have HT:=hid ht;obtain⟨tp,tc,rfl⟩:=ht.form;clear ht hx CM X0;go_wp2_with fail
 refine(CA.out w1 _ X1.out HT.out).mono ?_;rintro e w2 ⟨a0,c0,a1,c1,a2,c2,rfl,ho,hx⟩;have OP:=hid ho;have X2:=hid (X1.out.trans (hx.mono X1.out.size));have Y2:=hid (Y1.out.trans (hx.mono Y1.out.size));have LW:Hid (w1.heap.size<=w2.heap.size):=hid hx.size;have L1:Hid (w.heap.size+1<w1.heap.size):=hid (Nat.lt_of_lt_of_le BY.out.lt Y1.out.size);clear ho hx CA HT Y1 X1;go_upto_region 2 with fail
 refine ax ?_;intro V1 hV;have BA:Hid (ah V1 w2.heap.size #[.slice a0 n0 c0,.slice a1 n1 c1,.slice a2 n2 c2] 28):=hid (by rw[hV];exact ah.new w2 _ _);have XV:Hid (Below w2.heap.size w2 V1):=hid (by rw[hV];exact((Ext.refl w2).alloc _).below);clear hV;have OP2:=hid (OP.out.below XV.out);have X3:=hid (X2.out.trans (XV.out.mono X2.out.size));have Y3:=hid (Y2.out.trans (XV.out.mono Y2.out.size));clear OP X2 Y2 XV;go_wp2_with fail
 refine(CN.out V1 X3.out).mono ?_;rintro e w3 ⟨u,rfl,ht,hx⟩;have X4:=hid (X3.out.trans (hx.mono X3.out.size));have Z1:Hid (Below V1.heap.size V1 w3):=hid hx;have HT:=hid ht;obtain⟨tq,td,rfl⟩:=ht.form;clear ht hx CN X3;go_wp2_with fail
 refine(CB.out w3 _ X4.out HT.out).mono ?_;rintro e w4 ⟨b0,d0,b1,d1,b2,d2,rfl,ho,hx⟩;have OQ:=hid ho;have X5:=hid (X4.out.trans (hx.mono X4.out.size));have Z2:=hid (Z1.out.trans (hx.mono Z1.out.size));have L2:Hid (w.heap.size+1<w3.heap.size):=hid (Nat.lt_of_lt_of_le (Nat.lt_of_lt_of_le BY.out.lt Y3.out.size) Z1.out.size);clear ho hx CB HT Z1 X4;go_upto_region 3 with fail
 refine ax ?_;intro V2 hV;have BB:Hid (ah V2 w4.heap.size #[.slice b0 m0 d0,.slice b1 m1 d1,.slice b2 m2 d2] 28):=hid (by rw[hV];exact ah.new w4 _ _);have XV:Hid (Below w4.heap.size w4 V2):=hid (by rw[hV];exact((Ext.refl w4).alloc _).below);clear hV;have Z3:=hid (Z2.out.trans (XV.out.mono Z2.out.size));have OQ2:=hid (OQ.out.below XV.out);have OP3:=hid (OP2.out.below Z3.out);have BA2:=hid (BA.out.below Z3.out BA.out.lt);have X6:=hid (X5.out.trans (XV.out.mono X5.out.size));have Y4:=hid (Y3.out.trans (Z3.out.mono Y3.out.size));have Py:=hid (BZ.out.below Y4.out BZ.out.lt);have BY2:=hid (BY.out.below Y4.out BY.out.lt);have L3:Hid (w2.heap.size<w4.heap.size):=hid (Nat.lt_of_lt_of_le BA.out.lt Z2.out.size);have L4:Hid (w1.heap.size<=w2.heap.size):=hid LW.out;clear OP2 OQ BA Z2 Z3 X5 Y3 Y4 XV BZ BY;have nG:=L1.out;have hl2:=L2.out;have DD:=L3.out;have hl4:=L4.out;have hl5:=BB.out.lt;obtain⟨k0,k1,k2⟩:=aT.nE BA2.out;obtain⟨k3,k4,k5⟩:=aT.nE BB.out;rcases J4 with rfl | rfl<;>rcases hcq with rfl | rfl
 case inl.inl=>
  go_upto_region 4 with fail
  refine aO (DU w.heap.size (w.heap.size+1) #[.slice a0 n0 c0,.slice a1 n1 c1,.slice a2 n2 c2] #[.slice b0 m0 d0,.slice b1 m1 d1,.slice b2 m2 d2]) DU.drew (fun _ _ _ h k=>h.trans k) (by kernel_rfl) 14 [0,0,0,0,8,24,56,56,248,504,1016,57,2107,6207,16383] (fun i=>i==11 || i==12) (by kernel_rfl) (fun i=>if i=11 then r9 _ _ _ _ else if i=12 then se _ _ _ _ else aR.any _) ?_;intro C hC hne;have HC:=hid hC;have kc:∀ {b o:Nat} {u:Value},b≠w.heap.size->b≠w.heap.size+1->b<V2.heap.size->V2.cell? ⟨b,o,none⟩=some u->∀ W: {W//C W},W.1.cell? ⟨b,o,none⟩=some u:=fun {b o u} h1 h2 h3 h W=>(((hC W.1).1 W.2).1.cell (p:=⟨b,o,none⟩) ⟨h1,h2⟩).trans h
  replace k0:=kc (by omega) (by omega) (by omega) k0;replace k1:=kc (by omega) (by omega) (by omega) k1;replace k2:=kc (by omega) (by omega) (by omega) k2;replace k3:=kc (by omega) (by omega) (by omega) k3;replace k4:=kc (by omega) (by omega) (by omega) k4;replace k5:=kc (by omega) (by omega) (by omega) k5;clear hC kc
  repeat (refine ae (fun K hK=>?_);first | (refine bp rfl ?_;try go_simp;refine hK _ _ ?_;clear hK K) | (refine aX rfl rfl ?_;unfold aq;go_simp;refine hK _ _ ?_;clear hK K))
  refine ae (fun K hK=>?_);refine bH rfl rfl (r9 _ _ _ _) rfl (fun W hW hN=>?_) (fun v hv=>?_)
  ·have hM:=(HC.out W).1 hW
   obtain⟨u0,u1,u2,hb⟩:ZB W (w.heap.size):=hM.2.2.2.1 ⟨_,_,_,Py.out⟩;obtain⟨r1,r2⟩:=gv hb (.slice a0 n0 c0) (.slice a1 n1 c1) (.slice a2 n2 c2);obtain⟨z0,z1,z2⟩:=aT.nE hb;have z3:=hb.frozen 0;have z4:=hb.frozen 1;have z5:=hb.frozen 2;clear hW hN hK K hM hb k0 k1 k2 k3 k4 k5;go_simp;exact⟨⟨r2.mono fun x hx=>hx.1,fun _=>r1,fun h=>h.keeps r2 (by omega),fun _=>⟨_,_,_,r1⟩,fun ⟨v0,v1,v2,h⟩=>⟨v0,v1,v2,h.keeps r2 (by omega)⟩⟩,rfl,r1⟩
  replace hv:v=_:=hv;subst hv;go_simp;refine hK _ _ ?_;clear hK K;refine ae (fun K hK=>?_);refine bH rfl rfl (se _ _ _ _) rfl (fun W hW hN=>?_) (fun v hv=>?_)
  ·have hM:=(HC.out W).1 hW
   obtain⟨u0,u1,u2,hb⟩:ZB W (w.heap.size+1):=hM.2.2.2.2 ⟨_,_,_,BY2.out⟩;obtain⟨r1,r2⟩:=gv hb (.slice b0 m0 d0) (.slice b1 m1 d1) (.slice b2 m2 d2);obtain⟨z0,z1,z2⟩:=aT.nE hb;have z3:=hb.frozen 0;have z4:=hb.frozen 1;have z5:=hb.frozen 2;clear hW hN hK K hM hb k0 k1 k2 k3 k4 k5;go_simp;exact⟨⟨r2.mono fun x hx=>hx.2,fun h=>h.keeps r2 (by omega),fun _=>r1,fun ⟨v0,v1,v2,h⟩=>⟨v0,v1,v2,h.keeps r2 (by omega)⟩,fun _=>⟨_,_,_,r1⟩⟩,rfl,r1⟩
  replace hv:v=_:=hv;subst hv;go_simp;refine hK _ _ ?_;clear hK K
  repeat (refine ae (fun K hK=>?_);first | (refine bp rfl ?_;try go_simp;refine hK _ _ ?_;clear hK K) | (refine aX rfl rfl ?_;unfold aq;go_simp;refine hK _ _ ?_;clear hK K))
  refine aV (fun W hW hH=>?_);have hM:=(HC.out W).1 hW;have hb1:ah W (w.heap.size+1) #[.slice b0 m0 d0,.slice b1 m1 d1,.slice b2 m2 d2] 28:=hH _ (List.mem_of_getElem? (show _=some _ from rfl:_[0]? =some _));have hb0:ah W w.heap.size #[.slice a0 n0 c0,.slice a1 n1 c1,.slice a2 n2 c2] 28:=hH _ (List.mem_of_getElem? (show _=some _ from rfl:_[1]? =some _));have lU:=hid hM.1;clear hM hW hH HC hne k0 k1 k2 k3 k4 k5;obtain⟨z0,z1,z2⟩:=aT.nE hb0;obtain⟨y0,y1,y2⟩:=aT.nE hb1;go_wp2;refine bodyPost_ret (v:=.tuple #[.agg #[.slice a0 n0 c0,.slice a1 n1 c1,.slice a2 n2 c2],.agg #[.slice b0 m0 d0,.slice b1 m1 d1,.slice b2 m2 d2],.bool true,.bool true]) (by simp[results,Tryz.results10,go_sem,z0,z1,z2,y0,y1,y2,show IntKind.i64.wrap 0=0 from rfl]) rfl ⟨a0,c0,a1,c1,a2,c2,b0,d0,b1,d1,b2,d2,rfl,(OP3.out.keeps lU.out fun b hb _=>⟨by omega,by omega⟩).base (by omega),(OQ2.out.keeps lU.out fun b hb _=>⟨by omega,by omega⟩).base (by omega),?_⟩;exact X6.out.trans (lU.out.mono fun x (hx:x<w.heap.size)=>⟨by omega,by omega⟩:aa (· <w.heap.size) V2 W).below
 case inl.inr=>
  go_upto_region 4 with fail
  refine aO (DU w.heap.size (w.heap.size+1) #[.slice a0 n0 c0,.slice a1 n1 c1,.slice a2 n2 c2] #[.slice b0 m0 d0,.slice b1 m1 d1,.slice b2 m2 d2]) DU.drew (fun _ _ _ h k=>h.trans k) (by kernel_rfl) 14 [0,0,0,0,8,24,56,56,248,504,1016,57,2107,6207,16383] (fun i=>i==11 || i==12) (by kernel_rfl) (fun i=>if i=11 then r9 _ _ _ _ else if i=12 then se _ _ _ _ else aR.any _) ?_;intro C hC hne;have HC:=hid hC;have kc:∀ {b o:Nat} {u:Value},b≠w.heap.size->b≠w.heap.size+1->b<V2.heap.size->V2.cell? ⟨b,o,none⟩=some u->∀ W: {W//C W},W.1.cell? ⟨b,o,none⟩=some u:=fun {b o u} h1 h2 h3 h W=>(((hC W.1).1 W.2).1.cell (p:=⟨b,o,none⟩) ⟨h1,h2⟩).trans h
  replace k0:=kc (by omega) (by omega) (by omega) k0;replace k1:=kc (by omega) (by omega) (by omega) k1;replace k2:=kc (by omega) (by omega) (by omega) k2;replace k3:=kc (by omega) (by omega) (by omega) k3;replace k4:=kc (by omega) (by omega) (by omega) k4;replace k5:=kc (by omega) (by omega) (by omega) k5;clear hC kc
  repeat (refine ae (fun K hK=>?_);first | (refine bp rfl ?_;try go_simp;refine hK _ _ ?_;clear hK K) | (refine aX rfl rfl ?_;unfold aq;go_simp;refine hK _ _ ?_;clear hK K))
  refine ae (fun K hK=>?_);refine bH rfl rfl (r9 _ _ _ _) rfl (fun W hW hN=>?_) (fun v hv=>?_)
  ·have hM:=(HC.out W).1 hW
   obtain⟨u0,u1,u2,hb⟩:ZB W (w.heap.size):=hM.2.2.2.1 ⟨_,_,_,Py.out⟩;obtain⟨r1,r2⟩:=gv hb (.slice a0 n0 c0) (.slice a1 n1 c1) (.slice a2 n2 c2);obtain⟨z0,z1,z2⟩:=aT.nE hb;have z3:=hb.frozen 0;have z4:=hb.frozen 1;have z5:=hb.frozen 2;clear hW hN hK K hM hb k0 k1 k2 k3 k4 k5;go_simp;exact⟨⟨r2.mono fun x hx=>hx.1,fun _=>r1,fun h=>h.keeps r2 (by omega),fun _=>⟨_,_,_,r1⟩,fun ⟨v0,v1,v2,h⟩=>⟨v0,v1,v2,h.keeps r2 (by omega)⟩⟩,rfl,r1⟩
  replace hv:v=_:=hv;subst hv;go_simp;refine hK _ _ ?_;clear hK K;refine ae (fun K hK=>?_);refine bH rfl rfl (se _ _ _ _) rfl (fun W hW hN=>?_) (fun v hv=>?_)
  ·have hM:=(HC.out W).1 hW
   obtain⟨u0,u1,u2,hb⟩:ZB W (w.heap.size+1):=hM.2.2.2.2 ⟨_,_,_,BY2.out⟩;obtain⟨r1,r2⟩:=gv hb (.slice b0 m0 d0) (.slice b1 m1 d1) (.slice b2 m2 d2);obtain⟨z0,z1,z2⟩:=aT.nE hb;have z3:=hb.frozen 0;have z4:=hb.frozen 1;have z5:=hb.frozen 2;clear hW hN hK K hM hb k0 k1 k2 k3 k4 k5;go_simp;exact⟨⟨r2.mono fun x hx=>hx.2,fun h=>h.keeps r2 (by omega),fun _=>r1,fun ⟨v0,v1,v2,h⟩=>⟨v0,v1,v2,h.keeps r2 (by omega)⟩,fun _=>⟨_,_,_,r1⟩⟩,rfl,r1⟩
  replace hv:v=_:=hv;subst hv;go_simp;refine hK _ _ ?_;clear hK K
  repeat (refine ae (fun K hK=>?_);first | (refine bp rfl ?_;try go_simp;refine hK _ _ ?_;clear hK K) | (refine aX rfl rfl ?_;unfold aq;go_simp;refine hK _ _ ?_;clear hK K))
  refine aV (fun W hW hH=>?_);have hM:=(HC.out W).1 hW;have hb1:ah W (w.heap.size+1) #[.slice b0 m0 d0,.slice b1 m1 d1,.slice b2 m2 d2] 28:=hH _ (List.mem_of_getElem? (show _=some _ from rfl:_[0]? =some _));have hb0:ah W w.heap.size #[.slice a0 n0 c0,.slice a1 n1 c1,.slice a2 n2 c2] 28:=hH _ (List.mem_of_getElem? (show _=some _ from rfl:_[1]? =some _));have lU:=hid hM.1;clear hM hW hH HC hne k0 k1 k2 k3 k4 k5;obtain⟨z0,z1,z2⟩:=aT.nE hb0;obtain⟨y0,y1,y2⟩:=aT.nE hb1;go_wp2;refine bodyPost_ret (v:=.tuple #[.agg #[.slice a0 n0 c0,.slice a1 n1 c1,.slice a2 n2 c2],.agg #[.slice b0 m0 d0,.slice b1 m1 d1,.slice b2 m2 d2],.bool false,.bool true]) (by simp[results,Tryz.results10,go_sem,z0,z1,z2,y0,y1,y2]) rfl ⟨a0,c0,a1,c1,a2,c2,b0,d0,b1,d1,b2,d2,rfl,(OP3.out.keeps lU.out fun b hb _=>⟨by omega,by omega⟩).base (by omega),(OQ2.out.keeps lU.out fun b hb _=>⟨by omega,by omega⟩).base (by omega),?_⟩;exact X6.out.trans (lU.out.mono fun x (hx:x<w.heap.size)=>⟨by omega,by omega⟩:aa (· <w.heap.size) V2 W).below
 case inr.inl=>
  go_upto_region 4 with fail
  refine aO (DU w.heap.size (w.heap.size+1) #[.slice a0 n0 c0,.slice a1 n1 c1,.slice a2 n2 c2] #[.slice b0 m0 d0,.slice b1 m1 d1,.slice b2 m2 d2]) DU.drew (fun _ _ _ h k=>h.trans k) (by kernel_rfl) 14 [0,0,0,0,8,24,56,56,248,504,1016,57,2107,6207,16383] (fun i=>i==11 || i==12) (by kernel_rfl) (fun i=>if i=11 then r9 _ _ _ _ else if i=12 then se _ _ _ _ else aR.any _) ?_;intro C hC hne;have HC:=hid hC;have kc:∀ {b o:Nat} {u:Value},b≠w.heap.size->b≠w.heap.size+1->b<V2.heap.size->V2.cell? ⟨b,o,none⟩=some u->∀ W: {W//C W},W.1.cell? ⟨b,o,none⟩=some u:=fun {b o u} h1 h2 h3 h W=>(((hC W.1).1 W.2).1.cell (p:=⟨b,o,none⟩) ⟨h1,h2⟩).trans h
  replace k0:=kc (by omega) (by omega) (by omega) k0;replace k1:=kc (by omega) (by omega) (by omega) k1;replace k2:=kc (by omega) (by omega) (by omega) k2;replace k3:=kc (by omega) (by omega) (by omega) k3;replace k4:=kc (by omega) (by omega) (by omega) k4;replace k5:=kc (by omega) (by omega) (by omega) k5;clear hC kc
  repeat (refine ae (fun K hK=>?_);first | (refine bp rfl ?_;try go_simp;refine hK _ _ ?_;clear hK K) | (refine aX rfl rfl ?_;unfold aq;go_simp;refine hK _ _ ?_;clear hK K))
  refine ae (fun K hK=>?_);refine bH rfl rfl (r9 _ _ _ _) rfl (fun W hW hN=>?_) (fun v hv=>?_)
  ·have hM:=(HC.out W).1 hW
   obtain⟨u0,u1,u2,hb⟩:ZB W (w.heap.size):=hM.2.2.2.1 ⟨_,_,_,Py.out⟩;obtain⟨r1,r2⟩:=gv hb (.slice a0 n0 c0) (.slice a1 n1 c1) (.slice a2 n2 c2);obtain⟨z0,z1,z2⟩:=aT.nE hb;have z3:=hb.frozen 0;have z4:=hb.frozen 1;have z5:=hb.frozen 2;clear hW hN hK K hM hb k0 k1 k2 k3 k4 k5;go_simp;exact⟨⟨r2.mono fun x hx=>hx.1,fun _=>r1,fun h=>h.keeps r2 (by omega),fun _=>⟨_,_,_,r1⟩,fun ⟨v0,v1,v2,h⟩=>⟨v0,v1,v2,h.keeps r2 (by omega)⟩⟩,rfl,r1⟩
  replace hv:v=_:=hv;subst hv;go_simp;refine hK _ _ ?_;clear hK K;refine ae (fun K hK=>?_);refine bH rfl rfl (se _ _ _ _) rfl (fun W hW hN=>?_) (fun v hv=>?_)
  ·have hM:=(HC.out W).1 hW
   obtain⟨u0,u1,u2,hb⟩:ZB W (w.heap.size+1):=hM.2.2.2.2 ⟨_,_,_,BY2.out⟩;obtain⟨r1,r2⟩:=gv hb (.slice b0 m0 d0) (.slice b1 m1 d1) (.slice b2 m2 d2);obtain⟨z0,z1,z2⟩:=aT.nE hb;have z3:=hb.frozen 0;have z4:=hb.frozen 1;have z5:=hb.frozen 2;clear hW hN hK K hM hb k0 k1 k2 k3 k4 k5;go_simp;exact⟨⟨r2.mono fun x hx=>hx.2,fun h=>h.keeps r2 (by omega),fun _=>r1,fun ⟨v0,v1,v2,h⟩=>⟨v0,v1,v2,h.keeps r2 (by omega)⟩,fun _=>⟨_,_,_,r1⟩⟩,rfl,r1⟩
  replace hv:v=_:=hv;subst hv;go_simp;refine hK _ _ ?_;clear hK K
  repeat (refine ae (fun K hK=>?_);first | (refine bp rfl ?_;try go_simp;refine hK _ _ ?_;clear hK K) | (refine aX rfl rfl ?_;unfold aq;go_simp;refine hK _ _ ?_;clear hK K))
  refine aV (fun W hW hH=>?_);have hM:=(HC.out W).1 hW;have hb1:ah W (w.heap.size+1) #[.slice b0 m0 d0,.slice b1 m1 d1,.slice b2 m2 d2] 28:=hH _ (List.mem_of_getElem? (show _=some _ from rfl:_[0]? =some _));have hb0:ah W w.heap.size #[.slice a0 n0 c0,.slice a1 n1 c1,.slice a2 n2 c2] 28:=hH _ (List.mem_of_getElem? (show _=some _ from rfl:_[1]? =some _));have lU:=hid hM.1;clear hM hW hH HC hne k0 k1 k2 k3 k4 k5;obtain⟨z0,z1,z2⟩:=aT.nE hb0;obtain⟨y0,y1,y2⟩:=aT.nE hb1;go_wp2;refine bodyPost_ret (v:=.tuple #[.agg #[.slice a0 n0 c0,.slice a1 n1 c1,.slice a2 n2 c2],.agg #[.slice b0 m0 d0,.slice b1 m1 d1,.slice b2 m2 d2],.bool false,.bool true]) (by simp[results,Tryz.results10,go_sem,z0,z1,z2,y0,y1,y2]) rfl ⟨a0,c0,a1,c1,a2,c2,b0,d0,b1,d1,b2,d2,rfl,(OP3.out.keeps lU.out fun b hb _=>⟨by omega,by omega⟩).base (by omega),(OQ2.out.keeps lU.out fun b hb _=>⟨by omega,by omega⟩).base (by omega),?_⟩;exact X6.out.trans (lU.out.mono fun x (hx:x<w.heap.size)=>⟨by omega,by omega⟩:aa (· <w.heap.size) V2 W).below
 case inr.inr=>
  go_upto_region 4 with fail
  refine aO (DU w.heap.size (w.heap.size+1) #[.slice a0 n0 c0,.slice a1 n1 c1,.slice a2 n2 c2] #[.slice b0 m0 d0,.slice b1 m1 d1,.slice b2 m2 d2]) DU.drew (fun _ _ _ h k=>h.trans k) (by kernel_rfl) 14 [0,0,0,0,8,24,56,56,248,504,1016,57,2107,6207,16383] (fun i=>i==11 || i==12) (by kernel_rfl) (fun i=>if i=11 then r9 _ _ _ _ else if i=12 then se _ _ _ _ else aR.any _) ?_;intro C hC hne;have HC:=hid hC;have kc:∀ {b o:Nat} {u:Value},b≠w.heap.size->b≠w.heap.size+1->b<V2.heap.size->V2.cell? ⟨b,o,none⟩=some u->∀ W: {W//C W},W.1.cell? ⟨b,o,none⟩=some u:=fun {b o u} h1 h2 h3 h W=>(((hC W.1).1 W.2).1.cell (p:=⟨b,o,none⟩) ⟨h1,h2⟩).trans h
  replace k0:=kc (by omega) (by omega) (by omega) k0;replace k1:=kc (by omega) (by omega) (by omega) k1;replace k2:=kc (by omega) (by omega) (by omega) k2;replace k3:=kc (by omega) (by omega) (by omega) k3;replace k4:=kc (by omega) (by omega) (by omega) k4;replace k5:=kc (by omega) (by omega) (by omega) k5;clear hC kc
  repeat (refine ae (fun K hK=>?_);first | (refine bp rfl ?_;try go_simp;refine hK _ _ ?_;clear hK K) | (refine aX rfl rfl ?_;unfold aq;go_simp;refine hK _ _ ?_;clear hK K))
  refine ae (fun K hK=>?_);refine bH rfl rfl (r9 _ _ _ _) rfl (fun W hW hN=>?_) (fun v hv=>?_)
  ·have hM:=(HC.out W).1 hW
   obtain⟨u0,u1,u2,hb⟩:ZB W (w.heap.size):=hM.2.2.2.1 ⟨_,_,_,Py.out⟩;obtain⟨r1,r2⟩:=gv hb (.slice a0 n0 c0) (.slice a1 n1 c1) (.slice a2 n2 c2);obtain⟨z0,z1,z2⟩:=aT.nE hb;have z3:=hb.frozen 0;have z4:=hb.frozen 1;have z5:=hb.frozen 2;clear hW hN hK K hM hb k0 k1 k2 k3 k4 k5;go_simp;exact⟨⟨r2.mono fun x hx=>hx.1,fun _=>r1,fun h=>h.keeps r2 (by omega),fun _=>⟨_,_,_,r1⟩,fun ⟨v0,v1,v2,h⟩=>⟨v0,v1,v2,h.keeps r2 (by omega)⟩⟩,rfl,r1⟩
  replace hv:v=_:=hv;subst hv;go_simp;refine hK _ _ ?_;clear hK K;refine ae (fun K hK=>?_);refine bH rfl rfl (se _ _ _ _) rfl (fun W hW hN=>?_) (fun v hv=>?_)
  ·have hM:=(HC.out W).1 hW
   obtain⟨u0,u1,u2,hb⟩:ZB W (w.heap.size+1):=hM.2.2.2.2 ⟨_,_,_,BY2.out⟩;obtain⟨r1,r2⟩:=gv hb (.slice b0 m0 d0) (.slice b1 m1 d1) (.slice b2 m2 d2);obtain⟨z0,z1,z2⟩:=aT.nE hb;have z3:=hb.frozen 0;have z4:=hb.frozen 1;have z5:=hb.frozen 2;clear hW hN hK K hM hb k0 k1 k2 k3 k4 k5;go_simp;exact⟨⟨r2.mono fun x hx=>hx.2,fun h=>h.keeps r2 (by omega),fun _=>r1,fun ⟨v0,v1,v2,h⟩=>⟨v0,v1,v2,h.keeps r2 (by omega)⟩,fun _=>⟨_,_,_,r1⟩⟩,rfl,r1⟩
  replace hv:v=_:=hv;subst hv;go_simp;refine hK _ _ ?_;clear hK K
  repeat (refine ae (fun K hK=>?_);first | (refine bp rfl ?_;try go_simp;refine hK _ _ ?_;clear hK K) | (refine aX rfl rfl ?_;unfold aq;go_simp;refine hK _ _ ?_;clear hK K))
  refine aV (fun W hW hH=>?_);have hM:=(HC.out W).1 hW;have hb1:ah W (w.heap.size+1) #[.slice b0 m0 d0,.slice b1 m1 d1,.slice b2 m2 d2] 28:=hH _ (List.mem_of_getElem? (show _=some _ from rfl:_[0]? =some _));have hb0:ah W w.heap.size #[.slice a0 n0 c0,.slice a1 n1 c1,.slice a2 n2 c2] 28:=hH _ (List.mem_of_getElem? (show _=some _ from rfl:_[1]? =some _));have lU:=hid hM.1;clear hM hW hH HC hne k0 k1 k2 k3 k4 k5;obtain⟨z0,z1,z2⟩:=aT.nE hb0;obtain⟨y0,y1,y2⟩:=aT.nE hb1;go_wp2;refine bodyPost_ret (v:=.tuple #[.agg #[.slice a0 n0 c0,.slice a1 n1 c1,.slice a2 n2 c2],.agg #[.slice b0 m0 d0,.slice b1 m1 d1,.slice b2 m2 d2],.bool false,.bool true]) (by simp[results,Tryz.results10,go_sem,z0,z1,z2,y0,y1,y2]) rfl ⟨a0,c0,a1,c1,a2,c2,b0,d0,b1,d1,b2,d2,rfl,(OP3.out.keeps lU.out fun b hb _=>⟨by omega,by omega⟩).base (by omega),(OQ2.out.keeps lU.out fun b hb _=>⟨by omega,by omega⟩).base (by omega),?_⟩;exact X6.out.trans (lU.out.mono fun x (hx:x<w.heap.size)=>⟨by omega,by omega⟩:aa (· <w.heap.size) V2 W).below
theorem Oj (x y:List (Nat×Nat×Nat)) (kf:Bool):∃ (p q:DF) (cp cq:Int),kZ (T1 x kf) 40=(p,cp)/\kZ (T1 y kf) 40=(q,cq)/\(cp=0\/cp=181)/\(cq=0\/cq=181)/\((cp != 181&&cq != 181)=true->Rt p/\Rt q/\p.nx.length<=40/\q.nx.length<=40):=by
 rcases vx x kf with⟨p,h1,h2,h3⟩ | h
 ·rcases vx y kf with⟨q,h4,h5,h6⟩ | h'
  ·exact⟨p,q,0,0,h1,h4,.inl rfl,.inl rfl,fun _=>⟨h2,h5,h3,h6⟩⟩
  ·exact⟨p,_,0,181,h1,h',.inl rfl,.inr rfl,fun e=>by cases e⟩
 ·rcases vx y kf with⟨q,h4,h5,h6⟩ | h'
  ·exact⟨_,q,181,0,h,h4,.inr rfl,.inl rfl,fun e=>by cases e⟩
  ·exact⟨_,_,181,181,h,h',.inr rfl,.inr rfl,fun e=>by cases e⟩
attribute [local go_sem] encS
theorem Dd (W:World) (e:TypeId) (s:ByteArray):Below W.heap.size W (Lib.bytesWorld W e s):=by refine⟨?_,?_,?_,by rw[Lib.bytesWorld_size];omega,fun k hk=>Lib.bytesWorld_at_old W e s k hk⟩<;>(unfold Lib.bytesWorld World.freeze;split<;>rfl)
theorem oq (s:ByteArray) (l:List Nat) (fk:s.data.toList.map (·.toNat)=l) (hn:l.length<=1000000) (w:World): Calls Tryz.prog 31 #[.string s] w fun e w'=>e=.returned (.agg (encS (kR fun c=>l.contains c)))/\Below w.heap.size w w':=by
 obtain⟨u,hu⟩:∃ u,u=kR fun c=>l.contains c:=⟨_,rfl⟩
 rw[<-hu];have HU:=hid hu;have hcv:∀ W:World,(convert 9 23 (.string s)).run Tryz.prog W=.ok (.slice (some ⟨W.heap.size,0,none⟩) s.size (grownCap W s.size 0 5)) (Lib.bytesWorld W 5 s):=fun W=>Lib.run_convert_string_bytes W 9 23 5 s Tryz.underlying9 Tryz.underlying23 Tryz.underlying5
 have hsz:s.size=l.length:=by rw[<-fk];simp
 have HCE:Hid (∀ (W:World) (i x:Nat),l[i]? =some x->(Lib.bytesWorld W 5 s).cell? ⟨W.heap.size,i,none⟩=some (.int .u8 x)):=hid fun W i x h=>by
  have hi:i<s.size:=by rw[hsz];exact(List.getElem?_eq_some_iff.1 h).1
  rw[Lib.bytesWorld_cell W 5 s i hi];rw[<-fk,List.getElem?_map]at h;cases hq:s.data.toList[i]? with
  | none=>rw[hq]at h;cases h
  | some b=>rw[hq]at h;cases h;rw[List.getD_eq_getElem?_getD,hq];rfl
 have HL:Hid (∀ c∈l,c<256):=hid fun c hc=>by
  rw[<-fk]at hc;obtain⟨b,_,rfl⟩:=List.mem_map.1 hc;exact b.toNat_lt
 rw[hsz]at hcv;have QD:Hid (∀ W:World,Below W.heap.size W (Lib.bytesWorld W 5 s)):=hid fun W=>Dd W _ s
 have HBS:Hid (∀ W:World,(Lib.bytesWorld W 5 s).heap.size=W.heap.size+1):=hid fun W=>Lib.bytesWorld_size W _ s
 clear hu fk hsz;go_enter Tryz.func31,Tryz.ntmps31;go_wp2;obtain⟨W2,hW2⟩:∃ W,W=(w.alloc (.cells #[.int .u64 0,.int .u64 0,.int .u64 0,.int .u64 0] 59)).alloc (.cells #[.int .u64 0,.int .u64 0,.int .u64 0,.int .u64 0] 59):=⟨_,rfl⟩;have hs2:W2.heap.size=w.heap.size+2:=by rw[hW2];simp
 have B2:Hid (ah W2 (w.heap.size+1) (encS 0) 59):=hid (by rw[hW2,en];exact(ah.new _ _ _).at (by simp));have R2:Hid (ah W2 w.heap.size #[.int .u64 0,.int .u64 0,.int .u64 0,.int .u64 0] 59):=hid (by rw[hW2];exact(ah.new _ _ _).alloc _);have X2:Hid (Below w.heap.size w W2):=hid (by rw[hW2];exact(((Ext.refl w).alloc _).alloc _).below);have HW2:=hid hW2;clear hW2;go_loopw [9] (fun i wr=>∃ (k:Nat) (s':BS),k<=l.length/\i=.int .i64 k/\(∀ c,c<256->s'.getLsbD c=(l.take k).contains c)/\ah wr (w.heap.size+1) (encS s') 59/\ah wr w.heap.size #[.int .u64 0,.int .u64 0,.int .u64 0,.int .u64 0] 59/\(∀ i x:Nat,l[i]? =some x->wr.cell? ⟨w.heap.size+1+1,i,none⟩=some (.int .u8 x))/\Below w.heap.size w wr) (fun i _=>l.length-(intOf i).toNat);case atStart=>
  rw[<-HW2.out];have hb:=QD.out W2;refine⟨0,0,by omega,rfl,fun c hc=>by simp,B2.out.below hb (by omega),R2.out.below hb (by omega),fun i x h=>?_,X2.out.trans (hb.mono X2.out.size)⟩;have:=HCE.out W2 i x h;rw[hs2]at this;exact this
 case round=>
  obtain⟨k,s',hk,rfl,hs,hB,hR,hce,hx⟩:=hrel;have HS:=hid hs;have HCR:=hid hce;clear hs hce;by_cases hlt:k<l.length
  ·obtain⟨c,kH⟩:∃ c,l[k]? =some c:=⟨l[k],List.getElem?_eq_getElem hlt⟩
   have ie:c<256:=HL.out c (List.mem_of_getElem? kH);have hcc:wr.cell? ⟨w.heap.size+1+1,k,none⟩=some (.int .u8 c):=HCR.out k c kH;have hw:(encS s')[c/64]? =some (.int .u64 (wd s' (c/64)).toNat):=eI s' (by omega);have hc1:wr.cell? ⟨w.heap.size+1,c/64,none⟩=some (.int .u64 (wd s' (c/64)).toNat):=(hB.cell _).trans hw;have hf:=hB.frozen (c/64);have dL:l.take (k+1)=l.take k++ [c]:=by rw[List.take_add_one,kH];rfl
   have HT:=hid dL;have HB:=hid hB;have HR:=hid hR;have HX:=hid hx;have HCl:=hid kH;have eT:(k:Int)<l.length:=by omega
   clear hB hR hx hw dL kH QD HBS hcv;go_wp2;go_roundw;case rel=>
    refine⟨k+1,nh s' c,by omega,by go_num,fun d hd=>?_,?_,?_,fun i x h=>?_,?_⟩
    ·rw[ju s' ie,HS.out d hd,HT.out,List.contains_eq_any_beq,List.contains_eq_any_beq,List.any_append]
     simp
    ·rw[<-tA s' ie];exact HB.out.set _ _
    ·exact HR.out.other (by simp) _
    ·rw[cell_far _ _ _ _ (by simp)];exact HCR.out i x h
    ·exact HX.out.trans (((aa.refl (· <w.heap.size) _).setCell (p:=⟨w.heap.size+1,c/64,none⟩) (fun h=>by have h':w.heap.size+1<w.heap.size:=h;omega) _).below)
   case measure=>simp[intOf];omega
  ·have EH:s'=u:=by rw[HU.out];exact BS.Gn fun c hc=>by rw[HS.out c hc,List.take_of_length_le (by omega)]
   subst EH;obtain rfl:k=l.length:=by omega
   obtain⟨c0,c1,c2,c3⟩:=hB.sr;have r0:wr.cell? ⟨w.heap.size,0,none⟩=some (.int .u64 0):=hR.cell 0;have r1:wr.cell? ⟨w.heap.size,1,none⟩=some (.int .u64 0):=hR.cell 1;have r2:wr.cell? ⟨w.heap.size,2,none⟩=some (.int .u64 0):=hR.cell 2;have r3:wr.cell? ⟨w.heap.size,3,none⟩=some (.int .u64 0):=hR.cell 3;have rf:=hR.frozen;have HX:=hid hx;clear hB hR hx QD HBS hcv;go_wp2;refine bodyPost_ret (v:=.agg (encS s')) ?_ rfl ⟨rfl,?_⟩
   ·simp[results,Tryz.results31,go_sem,r0,r1,r2,r3]
   ·refine HX.out.trans (aa.below ((((aa.refl (· <w.heap.size) _).setCell ?_ _).setCell ?_ _).setCell ?_ _ |>.setCell ?_ _))<;>(intro h;simp at h)
def Hc (s:BS) (k:Nat):Array Value:= #[.int .u64 (if 0<k then wd (~~~s) 0 else wd s 0).toNat,.int .u64 (if 1<k then wd (~~~s) 1 else wd s 1).toNat,.int .u64 (if 2<k then wd (~~~s) 2 else wd s 2).toNat,.int .u64 (if 3<k then wd (~~~s) 3 else wd s 3).toNat]
theorem JQ (s:BS) {k:Nat} (hk:k<4):(Hc s k)[k]? =some (.int .u64 (wd s k).toNat):=by
 match k,hk with
 | 0,_=>rfl
 | 1,_=>rfl
 | 2,_=>rfl
 | 3,_=>rfl
theorem JR (s:BS) {k:Nat} (hk:k<4):(Hc s k).setIfInBounds k (.int .u64 (bits .xor .u64 IntKind.u64.max (wd s k).toNat))=Hc s (k+1):=by
 rw[Ap, <-Ei s hk];match k,hk with
 | 0,_=>rfl
 | 1,_=>rfl
 | 2,_=>rfl
 | 3,_=>rfl
theorem vD (s:ByteArray) (l:List Nat) (fk:s.data.toList.map (·.toNat)=l) (hn:l.length<=1000000) (w:World): Calls Tryz.prog 30 #[.string s] w fun e w'=>e=.returned (.agg (encS (~~~(kR fun c=>l.contains c))))/\Below w.heap.size w w':=by
 have CL:Hid (∀ W,Calls Tryz.prog 31 #[.string s] W fun e w'=>e=.returned (.agg (encS (kR fun c=>l.contains c)))/\Below W.heap.size W w'):=hid fun W=>oq s l fk hn W
 have hsg:IntKind.u64.signed=false:=rfl;obtain⟨u,hu⟩:∃ u,u=kR fun c=>l.contains c:=⟨_,rfl⟩
 rw[<-hu]at CL ⊢;obtain⟨t,ht⟩:∃ t,t= ~~~u:=⟨_,rfl⟩;rw[<-ht];have HT:=hid ht;clear hu fk hn ht;go_enter Tryz.func30,Tryz.ntmps30;go_wp2_with fail
 refine ay ?_;intro V hV;have R0:Hid (ah V w.heap.size #[.int .u64 0,.int .u64 0,.int .u64 0,.int .u64 0] 59):=hid (by rw[hV];exact ah.new _ _ _);have X0:Hid (Below w.heap.size w V):=hid (by rw[hV];exact((Ext.refl w).alloc _).below);clear hV;refine(CL.out V).mono ?_;rintro e w1 ⟨rfl,hx⟩;have R1:=hid (R0.out.below hx R0.out.lt);have X1:=hid (X0.out.trans (hx.mono X0.out.size));have alo:w.heap.size<w1.heap.size:=R1.out.lt;clear hx R0 X0 CL;go_wp2;go_loopw [7] (fun i wr=>∃ k:Nat,k<=4/\i=.int .i64 k/\ah wr w1.heap.size (Hc u k) 59/\ah wr w.heap.size #[.int .u64 0,.int .u64 0,.int .u64 0,.int .u64 0] 59/\Below w.heap.size w wr) (fun i _=>4-(intOf i).toNat);case atStart=>
  exact⟨0,by omega,rfl,ah.new _ _ _,R1.out.alloc _,X1.out.alloc X1.out.size _⟩
 case round=>
  obtain⟨k,hk,rfl,hB,hR,hx⟩:=hrel;obtain⟨wo,rfl⟩:∃ wo:World,wo=wr:=⟨_,rfl⟩;by_cases hlt:k<4
  ·have hc1:wo.cell? ⟨w1.heap.size,k,none⟩=some (.int .u64 (wd u k).toNat):=(hB.cell _).trans (JQ u hlt)
   have hf:=hB.frozen k;have HB:=hid hB;have HR:=hid hR;have HX:=hid hx;have eT:(k:Int)<4:=by omega
   clear hB hR hx;go_wp2;go_roundw;case rel=>
    refine⟨k+1,by omega,by go_num,?_,?_,?_⟩
    ·rw[<-JR u hlt];exact HB.out.set _ _
    ·exact HR.out.other (by simp;omega) _
    ·exact HX.out.trans (((aa.refl (· <w.heap.size) _).setCell (p:=⟨w1.heap.size,k,none⟩) (fun h=>by have h':w1.heap.size<w.heap.size:=h;omega) _).below)
   case measure=>simp[intOf];omega
  ·obtain rfl:k=4:=by omega
   have hBB:ah wo w1.heap.size (encS (~~~u)) 59:=hB;obtain⟨c0,c1,c2,c3⟩:=hBB.sr;have r0:wo.cell? ⟨w.heap.size,0,none⟩=some (.int .u64 0):=hR.cell 0;have r1:wo.cell? ⟨w.heap.size,1,none⟩=some (.int .u64 0):=hR.cell 1;have r2:wo.cell? ⟨w.heap.size,2,none⟩=some (.int .u64 0):=hR.cell 2;have r3:wo.cell? ⟨w.heap.size,3,none⟩=some (.int .u64 0):=hR.cell 3;have rf:=hR.frozen;have HX:=hid hx;rw[<-HT.out]at c0 c1 c2 c3;clear hB hR hx hBB;go_wp2;refine bodyPost_ret (v:=.agg (encS t)) ?_ rfl ⟨rfl,?_⟩
   ·simp[results,Tryz.results30,go_sem,r0,r1,r2,r3]
   ·refine HX.out.trans (aa.below ((((aa.refl (· <w.heap.size) _).setCell ?_ _).setCell ?_ _).setCell ?_ _ |>.setCell ?_ _))<;>(intro h;simp at h)
end Go.Proofs.YtalombmiochpmaaGreatDoor
