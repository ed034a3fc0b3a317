/- product.First. -/
import Derived.Test.YtpcmhjbehdgdbaaGreatDoorOI04
import Derived.Test.YtpcmhjbehdgdbaaGreatDoorRows
set_option maxRecDepth 100000
set_option maxHeartbeats 16000000
open Go.Lib (hid)
namespace Go.Proofs.YtpcmhjbehdgdbaaGreatDoor
section
open Go Go.RowKit Go.Shelf Go.Maps
attribute [local go_sem] encS
def sZ (lo:Nat) (v:Value) (n:Nat) (us:List Value) (x:Value):uE.App:=⟨51,1,v,n,us,1,lo,fun ns _=>ns=[x],fun _ _ _ _ h=>h⟩
def mkApp (lo:Nat) (v:Value) (n:Nat) (us:List Value) (ml:Nat) (mx:List Value):uE.App:=⟨51,1,v,n,us,1,lo,fun ns W=>∃ u,ns=[u]/\u.oneCell'=true/\W.ownsRow lo 3 1 u ml mx,fun _ _ _ hk ⟨u,h1,h2,h3⟩=>⟨u,h1,h2,au h3 hk fun x hx=>h3.lt x hx⟩⟩
theorem bI.more {base:Nat} {W:World} {v:Value} {ll:List (List Int)} {l:List Int} {us:List Value} {u:Value} {n:Nat} (h1:us.length=ll.length) (hn:us.length=n) (ho:W.ownsRow base 51 1 v (n+1) (us++ [u])) (h3:∀ (i:Nat) (u:Value) (l:List Int),us[i]? =some u->ll[i]? =some l->W.ownsRow base 3 1 u l.length (l.map aV)) (hu:W.ownsRow base 3 1 u l.length (l.map aV)):bI base W v (ll++ [l]):=by
 subst hn;refine⟨us++ [u],by simp[h1],by simpa using ho,fun i x y hx hy=>?_⟩;by_cases hi:i<us.length
 ·rw[bJ hi]at hx
  rw[bJ (by omega)]at hy;exact h3 i x y hx hy
 ·have iR:=(List.getElem?_eq_some_iff.1 hx).1
  simp at iR;obtain rfl:i=us.length:=by omega
  simp at hx;subst hx;rw[h1]at hy;simp at hy;subst hy;exact hu
theorem Oo {α:Type} (xs:Array α) (x y:α):(xs.push x).setIfInBounds xs.size y=xs.push y:=by
 apply Array.ext
 ·simp
 ·intro i h1 h2
  rw[Array.getElem_setIfInBounds (by simpa using h1)];by_cases e:xs.size=i
  ·subst e;simp
  ·rw[if_neg e]
   simp at h1 h2;rw[Array.getElem_push_lt (by omega),Array.getElem_push_lt (by omega)]
theorem Ke (w:World):(Instr.mapUpdate 115 (.map (some w.heap.size)) (.agg #[.int .i64 0,.int .i64 0]) (.int .i64 0)).run Tryz.prog (w.alloc (.map #[] 0))=.ok () (w.alloc (.map (fD 0 [(0,0)]).toArray 1)):=by
 have h:gX (w.alloc (.map #[] 0)) w.heap.size []:=(MapKept.heap_alloc w _).1;obtain⟨kl,hk⟩:=uD (0,0) (by decide) (by decide);have K:=Tryz.rP;rcases K.find (w.alloc (.map #[] 0)) hk [] (by simp)with⟨f1,f2⟩ | ⟨j,e0,f1,f2,f3⟩
 ·have hb:(w.alloc (.map #[] 0)).heap[w.heap.size]? =some (.map #[] 0):=h
  have hr:(Instr.mapUpdate 115 (.map (some w.heap.size)) (jA (0,0)) (.int .i64 0)).run Tryz.prog (w.alloc (.map #[] 0))=.ok () (w.alloc (.map (fD 0 [(0,0)]).toArray 1)):=by simp[fD,Instr.mapUpdate,run_underlying Tryz.underlying115,MapKept.run_getObj_map hb,K.check _ false hk,f1,MapKept.run_setObj_map _ hb,Result.andThen];show({heap:=(w.heap.push (Obj.map #[] 0)).setIfInBounds w.heap.size _,tape:=w.tape,drawn:=w.drawn,os:=w.os,output:=w.output} :World)=_;rw[Oo];rfl
  exact hr
 ·cases f2
theorem IU (g:Nat) (W:World):(binOp BinOp.eql 107 (.func (.func g) #[] #[]) .nilFunc).run Tryz.prog W=.ok (.bool false) W:=by kernel_rfl
theorem Kf (v v':Value) (a b:DF) (ra:Rt a) (rb:Rt b) (sa:Sm a) (sb:Sm b) (op:Nat) (YL:1<=op) (YM:op<=4) (f:Nat) (Fp:1<=f) (UA:f<=4000) (w:World) (h:iJ w v a) (h':iJ w v' b): ag 27 #[v,v',.int .u8 op,.int .i64 f] w fun e w'=>∃ u,e=.returned (.tuple #[u,.int .i64 (bM a b op f).2])/\dM w.heap.size w' u (bM a b op f).1/\aa w w':=by
 obtain⟨iP,YS,Kg,Kh,Oq⟩:=info_parts Tryz.aar;obtain⟨iL,Ki,rQ,rR,rS⟩:=info_parts Tryz.yD;obtain⟨iI,Cb,my,mz,mA⟩:=info_parts Tryz.qB;have CR:Hid (∀ W,aa w W->ag 48 #[v] W fun e w'=>e=.returned (.bool true)/\aa W w'):=fun W hW=>by
  have:=ji v a W (h.below hW) sa;rwa[(aP a).2 ra]at this
 have CR':Hid (∀ W,aa w W->ag 48 #[v'] W fun e w'=>e=.returned (.bool true)/\aa W w'):=fun W hW=>by
  have:=ji v' b W (h'.below hW) sb;rwa[(aP b).2 rb]at this
 have CS:Hid (∀ W,ag 47 #[.int .u8 op] W fun e w'=>e=.returned (.func (.func (j7 op)) #[] #[])/\w'=W):=fun W=>yG op YL YM W
 have CJ:Hid (∀ W,aa w W->ag 49 #[v,v',.func (.func (j7 op)) #[] #[]] W fun e w'=>∃ u,e=.returned u/\jy W.heap.size w' u a b op/\aa W w'):=fun W hW=>J8 v v' a b ra rb op W (h.below hW) (h'.below hW)
 obtain⟨K,hK⟩:=ah ((partsOf (a.cl++b.cl)).length);obtain⟨F,hF⟩:=ah (l6 a b);obtain⟨gf,VX⟩:=ah (j7 op);have Oe:K<=256:=by rw[hK,(eA _).length_eq];exact dK _
 have OK:Hid (∀ st n,dQ f F K (0,0) n=some st->NU f K (iH a b) (0,0) n st):=fun st n h=>by rw[hF,hK]at h;rw[hK];exact qF ra rb Fp h
 have FI:Hid (∀ p k,iH a b p->k<K->iH a b (F p k)):=fun p k h1 h2=>by rw[hF];exact Dk ra rb p k h1 (by rw[<-hK];exact h2)
 have CN:Hid (∀ W base u p k,jy base W u a b op->iH a b p->k<K->ag 50 #[u,.agg #[.int .i64 p.1,.int .i64 p.2],.int .i64 k] W fun e w'=>e=.returned (.agg #[.int .i64 (F p k).1,.int .i64 (F p k).2])/\aa W w'):=fun W base u p k hb hp hk=>by
  rw[hF];exact Od base u a b ra rb op p hp k (by rw[<-hK];exact hk) W hb
 have CM:Hid (∀ W base u p,jy base W u a b op->iH a b p->ag 51 #[u,.agg #[.int .i64 p.1,.int .i64 p.2]] W fun e w'=>∃ m,e=.returned m/\w'.ownsRow W.heap.size 3 1 m (eB a b op p).length ((eB a b op p).map aV)/\aa W w'):=fun W base u p hb hp=>xQ base u a b ra rb op YL YM p hp sa sb W hb
 have PI:Hid (∀ p,iH a b p->p.1<=4000/\p.2<=4000):=fun p hp=>⟨Nat.le_of_lt (aw hp.1 ra.le),Nat.le_of_lt (aw hp.2 rb.le)⟩
 have EN:Hid (∀ n,dQ f F K (0,0) n=none->n<=f->(bM a b op f)=(Gq,181)):=fun n hn hle=>by
  have e1:fT a b op f=none:=by unfold fT;rw[<-hF, <-hK,nK hn f hle];rfl
  unfold bM;rw[(aP a).2 ra,(aP b).2 rb,if_neg (by decide),if_neg (by omega),if_neg (by omega),if_neg (by omega),Int.toNat_natCast,e1]
 have ES:Hid (∀ n st,dQ f F K (0,0) n=some st->st.1.length<=n->n<=f->(bM a b op f)=(⟨partsOf (a.cl++b.cl),st.2.map fun r=>r.map Int.ofNat,st.1.map (eB a b op)⟩,0)):=fun n st hn hl hle=>by
  have e1:fT a b op f=some ⟨partsOf (a.cl++b.cl),st.2.map fun r=>r.map Int.ofNat,st.1.map (eB a b op)⟩:=by unfold fT;rw[<-hF, <-hK,jw hn hl f hle];rfl
  unfold bM;rw[(aP a).2 ra,(aP b).2 rb,if_neg (by decide),if_neg (by omega),if_neg (by omega),if_neg (by omega),Int.toNat_natCast,e1]
 have HK:=hid hK;have HFF:=hid hF;have HGF:=hid VX;rw[<-VX]at CS CJ;obtain⟨v0,v1,v2,rfl,h0,h1,h2⟩:=h;obtain⟨u0,u1,u2,rfl,g0,g1,g2⟩:=h';obtain⟨PE,YT⟩:=ah (bM a b op f);rw[<-YT]at EN ES ⊢;clear h0 h1 h2 g0 g1 g2 hK hF VX YT;have d1:decide ((f:Int)<0)=false:=decide_eq_false (by omega);have d2:decide ((4000:Int)<f)=false:=decide_eq_false (by omega);have d3:((f:Int)==0)=false:=by rw[beq_eq_false_iff_ne];omega
 go_enter Tryz.func27,Tryz.ntmps27
 go_wp2_with fail
 refine aK ?_;intro V hV;have B4:Hid (aq V w.heap.size #[v0,v1,v2] 73):=by rw[hV];exact((aq.new w _ _).alloc _).alloc _
 have B5:Hid (aq V (w.heap.size+1) #[u0,u1,u2] 73):=by rw[hV];exact((aq.new (w.alloc _) _ _).at (by simp)).alloc _
 have B8:Hid (aq V (w.heap.size+2) #[.slice none 0 0,.slice none 0 0,.slice none 0 0] 73):=by rw[hV];exact(aq.new ((w.alloc _).alloc _) _ _).at (by simp)
 have X1:Hid (aa w V):=by rw[hV];exact((((Ext.refl w).alloc _).alloc _).alloc _).below
 clear hV;refine(CS V).mono ?_;rintro e w' ⟨rfl,hw⟩;replace hw:=hw.symm;subst hw;obtain⟨⟨k0,k1,k2⟩,_⟩:=B4.three;go_wp2_with fail
 refine(CR V X1).mono ?_;rintro e w2 ⟨rfl,hx⟩;have C4:=hid (B4.below hx B4.lt);have C5:=hid (B5.below hx B5.lt);have C8:=hid (B8.below hx B8.lt);have X2:=hid (X1.trans (hx.mono X1.size));clear hx k0 k1 k2 B4 B5 B8 X1;obtain⟨⟨k0,k1,k2⟩,_⟩:=C5.three;go_wp2_with fail
 refine(CR' w2 X2).mono ?_;rintro e w3 ⟨rfl,hx⟩;have D4:=hid (C4.below hx C4.lt);have D5:=hid (C5.below hx C5.lt);have D8:=hid (C8.below hx C8.lt);have X3:=hid (X2.trans (hx.mono X2.size));clear hx k0 k1 k2 C4 C5 C8 X2;obtain⟨⟨k0,k1,k2⟩,_⟩:=D4.three;obtain⟨⟨l0,l1,l2⟩,_⟩:=D5.three;have UB:=IU gf;go_wp2_with fail
 refine(CJ w3 X3).mono ?_;rintro e w4 ⟨u,rfl,hb,hx⟩;obtain⟨a0,a1,a2,b0,b1,b2,c,o,t,hu,i1,i2,i3,i4,i5,i6,i7⟩:=hb;obtain⟨x0,y0,z0⟩:=a0;obtain⟨x3,y3,z3⟩:=b0;replace hu:u=.agg #[.slice x0 y0 z0,a1,a2,.slice x3 y3 z3,b1,b2,c,o,t,.func (.func (j7 op)) #[] #[]]:=hu;subst hu;obtain⟨x1,z1,rfl⟩:=i1.form;obtain⟨x2,z2,rfl⟩:=i2.form;obtain⟨x4,z4,rfl⟩:=i3.form;obtain⟨x5,z5,rfl⟩:=i4.form;obtain⟨x7,z7,rfl⟩:=i6.form;obtain⟨x8,z8,rfl⟩:=i7.form;generalize a.nx.length=y1 at*;generalize a.mr.length=y2 at*;generalize b.nx.length=y4 at*;generalize b.mr.length=y5 at*;generalize (oneOf a (partsOf (a.cl++b.cl))).length=y7 at*;generalize (oneOf b (partsOf (a.cl++b.cl))).length=y8 at*;have IB:Hid (jy w3.heap.size w4 (.agg #[.slice x0 y0 z0,.slice x1 y1 z1,.slice x2 y2 z2,.slice x3 y3 z3,.slice x4 y4 z4,.slice x5 y5 z5,c,.slice x7 y7 z7,.slice x8 y8 z8,.func (.func gf) #[] #[]]) a b op):=hid ⟨(x0,y0,z0),_,_,(x3,y3,z3),_,_,_,_,_,by rw[HGF.out];rfl,i1,i2,i3,i4,i5,i6,i7⟩;rw[<-HK.out]at i5;obtain⟨ca,cc,rfl⟩:=ownsRow_form i5;have I5:=hid i5;have E8:=hid (D8.below hx D8.lt);have X4:=hid (X3.trans (hx.mono X3.size));have aat:w.heap.size+2<w4.heap.size:=aw D8.lt hx.size;have ak1:w3.heap.size<=w4.heap.size:=hx.size;have hs8:w.heap.size+2<w3.heap.size:=D8.lt;rw[<-HGF.out];clear i1 i2 i3 i4 i5 i6 i7 k0 k1 k2 l0 l1 l2 D4 D5 D8 X3 hx CR CR' CS CJ;have NY:= @run_makeMap Tryz.prog;have hpf:∀ o1 o2:Obj,(Instr.mapUpdate 115 (.map (some (w4.heap.size+1+1))) (.agg #[.int .i64 0,.int .i64 0]) (.int .i64 0)).run Tryz.prog (((w4.alloc o1).alloc o2).alloc (.map #[] 0))=.ok () (((w4.alloc o1).alloc o2).alloc (.map (fD 0 [(0,0)]).toArray 1)):=fun o1 o2=>by
  have:=Ke ((w4.alloc o1).alloc o2);rwa[show((w4.alloc o1).alloc o2).heap.size=w4.heap.size+1+1 by simp]at this
 go_wp2;obtain⟨g,hg⟩:=ah w4.heap.size;have HG4:=hid hg;go_loopw [9,14] (fun er tv wr=>er=.int .i64 0/\∃ (n:Nat) (st:List (Nat×Nat)×List (List Nat)) (nx mk:Value),dQ f F K (0,0) n=some st/\n<=st.1.length/\wr.ownsRow (w4.heap.size+3) 114 2 tv st.1.length (kM st.1)/\aq wr w4.heap.size #[.slice x0 y0 z0,.slice x1 y1 z1,.slice x2 y2 z2,.slice x3 y3 z3,.slice x4 y4 z4,.slice x5 y5 z5,.slice ca K cc,.slice x7 y7 z7,.slice x8 y8 z8,.func (.func gf) #[] #[]] 111/\aq wr (w4.heap.size+1) #[.slice ca K cc,nx,mk] 73/\bI (w4.heap.size+3) wr nx (st.2.map fun r=>r.map Int.ofNat)/\bI (w4.heap.size+3) wr mk ((st.1.take n).map (eB a b op))/\oJ nx mk/\gX wr (w4.heap.size+2) st.1/\aa w4 wr) (fun _ _ wr=>f-Ol wr ⟨w4.heap.size+1,1,none⟩);case atStart=>
  refine⟨rfl,0,([(0,0)],[]),.slice none 0 0,.slice none 0 0,rfl,Nat.zero_le _,⟨rfl,.inr ⟨_,1, #[.int .i64 0,.int .i64 0],rfl,aD _,?_,aD _,by unfold maxLen;omega,rfl,rfl⟩⟩,?_,?_,bI.nil _ _,bI.nil _ _,.inl rfl,?_,?_⟩
  ·exact(aq.new (((w4.alloc _).alloc _).alloc _) _ _).at (by simp)
  ·exact(((aq.new w4 _ _).alloc _).alloc _).alloc _
  ·exact(((aq.new (w4.alloc _) _ _).at (by simp)).alloc _).alloc _
  ·have h1:gX (((w4.alloc (.cells #[.slice x0 y0 z0,.slice x1 y1 z1,.slice x2 y2 z2,.slice x3 y3 z3,.slice x4 y4 z4,.slice x5 y5 z5,.slice ca K cc,.slice x7 y7 z7,.slice x8 y8 z8,.func (.func gf) #[] #[]] 111)).alloc (.cells #[.slice ca K cc,.slice none 0 0,.slice none 0 0] 73)).alloc (.map (fD 0 [(0,0)]).toArray 1)) (w4.heap.size+2) [(0,0)]:=by
    have:=(MapKept.heap_alloc ((w4.alloc (.cells #[.slice x0 y0 z0,.slice x1 y1 z1,.slice x2 y2 z2,.slice x3 y3 z3,.slice x4 y4 z4,.slice x5 y5 z5,.slice ca K cc,.slice x7 y7 z7,.slice x8 y8 z8,.func (.func gf) #[] #[]] 111)).alloc (.cells #[.slice ca K cc,.slice none 0 0,.slice none 0 0] 73)) (.map (fD 0 [(0,0)]).toArray 1)).1;unfold gX;rwa[show((w4.alloc (.cells #[.slice x0 y0 z0,.slice x1 y1 z1,.slice x2 y2 z2,.slice x3 y3 z3,.slice x4 y4 z4,.slice x5 y5 z5,.slice ca K cc,.slice x7 y7 z7,.slice x8 y8 z8,.func (.func gf) #[] #[]] 111)).alloc (.cells #[.slice ca K cc,.slice none 0 0,.slice none 0 0] 73)).heap.size=w4.heap.size+2 by simp]at this
   exact h1.below ((Ext.refl _).alloc _).below
  ·exact(((((Ext.refl w4).alloc _).alloc _).alloc _).alloc _).below
 case round=>
  obtain⟨rfl,n,st,nx,mk,hst,hn,htv,hb,Ro,Ag,mW,hfar,hnum,hx⟩:=hrel;obtain⟨wo,rfl⟩:=ah (wr:World);have SO:=hid (OK.out st n hst);have hl2:st.2.length=n:=by have:=SO.len;omega
  obtain⟨L,hL⟩:=ah st.1.length;have hLf:L<=f:=by have:=SO.le;omega
  rw[<-hL]at htv hn;obtain⟨ta,tc,rfl⟩:=ownsRow_form htv;obtain⟨na,nc,rfl⟩:=Ag.form;obtain⟨ma,mc,rfl⟩:=mW.form;have e1:(st.2.map fun r=>r.map Int.ofNat).length=n:=by simp[hl2]
  have e2:((st.1.take n).map (eB a b op)).length=n:=by simp;omega
  rw[e1]at Ro Ag hfar;rw[e2]at Ro mW hfar;have ST:=hid hst;have TV:=hid htv;have HB:=hid hb;have HBO:=hid Ro;have Wj:=hid Ag;have YU:=hid mW;have FAR:=hid hfar;have NUM:=hid hnum;have HX:=hid hx;have HL:=hid hL;have ZY:=hid hl2;have hsz:w4.heap.size+2<wo.heap.size:=NUM.lt;clear hst htv hb Ro Ag mW hfar hnum hx hL hl2 e1 e2;have j1:=HBO.cell 1;by_cases hlt:n<L
  ·obtain⟨p,hp⟩:∃ p,st.1[n]? =some p:=⟨_,aC (by rw[<-HL.out];exact hlt)⟩
   have PP:=hid (SO.all p (aA hp));obtain⟨tg,rfl,t1,t2⟩:=Wi TV hp;have HP:=hid hp;clear hp;have hni:(n:Int)<L:=by omega
   have q6:∀ o,(wo.alloc o).cell? ⟨w4.heap.size,6,none⟩=some (.slice ca K cc):=fun o=>(HB.alloc o).cell 6
   go_wp2;go_loopw [9,14,16,76] (fun er tv nv i wr=>er=.int .i64 0/\∃ (k:Nat) (r:List (Nat×Nat)×List Nat),k<=K/\dr f (F p) st.1 k=some r/\i=.int .i64 k/\wr.ownsRow (w4.heap.size+3) 114 2 tv r.1.length (kM r.1)/\(tv.ownBlock=some tg\/∀ x,tv.ownBlock=some x->wo.heap.size+1<=x)/\wr.ownsRow (wo.heap.size+1) 3 1 nv k ((r.2.map Int.ofNat).map aV)/\aq wr wo.heap.size #[.int .i64 p.1,.int .i64 p.2] 114/\gX wr (w4.heap.size+2) r.1/\ae (fun x=>x<wo.heap.size/\x≠w4.heap.size+2/\some tg≠some x) wo wr) (fun _ _ _ i _=>K-(intOf i).toNat);case atStart=>
    refine⟨rfl,0,(st.1,[]),Nat.zero_le _,rfl,rfl,?_,.inl rfl,World.ownsRow_nil _ _ _ _,aq.new _ _ _,NUM.below ((Ext.refl _).alloc _).below,ae.ai ((Ext.refl _).alloc _).below fun x hx=>hx.1⟩;have:=TV.alloc (.cells #[.int .i64 p.1,.int .i64 p.2] 114);rwa[HL.out]at this ⊢
   case round=>
    obtain⟨rfl,k,r,hk,hr,rfl,htv,hob,YV,zR,hnum,Cc⟩:=hrel;obtain⟨wi,rfl⟩:=ah (wr:World);have RO:=hid (mU (P:=iH a b) SO.nodup SO.le SO.all k (fun j hj=>FI p j PP (by omega)) hr);obtain⟨M,hM⟩:=ah r.1.length;have hMf:M<=f:=by have:=RO.le;omega
    rw[<-hM]at htv;obtain⟨MC,MD,rfl⟩:=ownsRow_form htv;obtain⟨IV,IY,rfl⟩:=ownsRow_form YV;have htg:=TV.lt tg rfl;have BI:=hid (HB.keeps Cc ⟨by omega,by omega,by intro e;injection e;omega⟩);have XI:Hid (aa w4 wi):=hid (HX.trans (Cc.mono fun x hx=>⟨by omega,by have:x<w4.heap.size:=hx;omega,by have:x<w4.heap.size:=hx;intro e;injection e;omega⟩:ae (· <w4.heap.size) wo wi).below);have TI:=hid htv;have OI:=hid hob;have NI:=hid YV;have PB:=hid zR;have YW:=hid hnum;have KP:=hid Cc;have HR:=hid hr;have HM:=hid hM;have ak3:wo.heap.size<wi.heap.size:=zR.lt;clear htv hob YV zR hnum Cc hr hM;by_cases YX:k<K
    ·obtain⟨⟨p0,p1,p2,p3,p4,p5,p6,p7,p8,p9⟩,_⟩:=BI.ten
     have pc0:=PB.out.cell 0;have pc1:=PB.out.cell 1;have eT:(k:Int)<K:=by omega
     clear t1 t2 j1 q6;go_wp2_with fail
     refine(CN wi _ _ p k (IB.below XI) PP YX).mono ?_;rintro e w6 ⟨rfl,hx⟩;obtain⟨q,hq⟩:=ah (F p k);have QI:=hid (FI.out p k PP YX);rw[<-hq]at QI ⊢;have HQ:=hid hq;have Q4:=hid (PI.out q QI);have T6:=hid (ay TI hx);have N6:=hid (ay NI hx);have PB6:=hid (PB.out.below hx PB.out.lt);have NU6:=hid (YW.below hx);have K6:=hid (KP.tr (ae.ai hx fun x mX=>by have:=mX.1;omega));have X6:=hid (XI.trans (hx.mono XI.size));have ak6:wo.heap.size<w6.heap.size:=PB6.lt;have E86:=hid (E8.keeps (ae.ai X6 fun _ h=>h:ae (· <w4.heap.size) w4 w6) aat);clear hq hx p0 p1 p2 p3 p4 p5 p6 p7 p8 p9 pc0 pc1 BI;have T6o:=hid (T6.alloc (.cells #[.int .i64 q.1,.int .i64 q.2] 114));have yt:=Oj (w:=w6.alloc (.cells #[.int .i64 q.1,.int .i64 q.2] 114)) (NU6.below ((Ext.refl _).alloc _).below) RO.nodup (fun x hx=>PI x (RO.all x hx)) q Q4.1 Q4.2;rcases yt with⟨UB,hl⟩ | ⟨YY,hl⟩
     ·have hl':(Instr.lookup 115 (.map (some (w4.heap.size+1+1))) (.agg #[.int .i64 q.1,.int .i64 q.2]) true).run Tryz.prog (w6.alloc (.cells #[.int .i64 q.1,.int .i64 q.2] 114))=.ok (.tuple #[.int .i64 0,.bool false]) (w6.alloc (.cells #[.int .i64 q.1,.int .i64 q.2] 114)):=hl
      clear hl;by_cases hMe:M=f
      ·have d5:((M:Int)==f)=true:=by rw[beq_iff_eq];omega
       have z:=fun o:Obj=>(E86.alloc o).three
       have z0:=fun o=>(z o).1.1
       have z1:=fun o=>(z o).1.2.1
       have z2:=fun o=>(z o).1.2.2
       have z3:=fun o=>(z o).2.1
       have z4:=fun o=>(z o).2.2.1
       have z5:=fun o=>(z o).2.2.2
       clear z;go_wp2;refine aT ?_;intro W9 eO;have E9:Hid (aq W9 (w.heap.size+2) #[.slice none 0 0,.slice none 0 0,.slice none 0 0] 73/\aa w W9):=by rw[eO];exact hid ⟨(E86.alloc _).vt,eC ((X4.trans (X6.mono X4.size)).alloc (by have h8:=X4.size;have h9:=X6.size;omega) _) (by omega)⟩
       clear eO;obtain⟨⟨m0,m1,m2⟩,_⟩:=E9.1.three;refine bodyPost_ret (v:=.tuple #[.agg #[.slice none 0 0,.slice none 0 0,.slice none 0 0],.int .i64 181]) (by simp[results,Tryz.results27,go_sem,m0,m1,m2]) rfl ?_;have hnone:dr f (F p) st.1 (k+1)=none:=by
        rw[dr,HR.out, <-HQ.out];exact yK UB (by rw[<-HM.out];exact hMe)
       have Ot:dQ f F K (0,0) (n+1)=none:=by rw[dQ,ST.out];show fK f F K n st=none;unfold fK;rw[HP.out];show(dr f (F p) st.1 K).map _=none;rw[vo hnone K (by omega)];rfl
       have Ce:=EN.out (n+1) Ot (by omega);rw[Ce];exact⟨_,rfl,IQ _ _,E9.2⟩
      ·have d5:((M:Int)==f)=false:=by rw[beq_eq_false_iff_ne];omega
       obtain⟨w7,hput,aay,hk7,NJ⟩:=SI (w:=w6.alloc (.cells #[.int .i64 q.1,.int .i64 q.2] 114)) (NU6.below ((Ext.refl _).alloc _).below) (fun x hx=>PI x (RO.all x hx)) q Q4.1 Q4.2 UB;have aaz:(Instr.mapUpdate 115 (.map (some (w4.heap.size+1+1))) (.agg #[.int .i64 q.1,.int .i64 q.2]) (.int .i64 M)).run Tryz.prog (w6.alloc (.cells #[.int .i64 q.1,.int .i64 q.2] 114))=.ok () w7:=by rw[HM.out];exact hput
       have NU7:=hid aay;have aij:wo.heap.size+1<w7.heap.size:=by rw[NJ];simp;omega
       have K67:=hid hk7;have T7:=hid (aS T6o hk7 fun x h1 _ e=>by omega);have N7:=hid (aS (N6.alloc (.cells #[.int .i64 q.1,.int .i64 q.2] 114)) hk7 fun x h1 _ e=>by omega);clear hput aay hk7 NJ;have qc:=(aq.new w6 #[.int .i64 q.1,.int .i64 q.2] 114);have B7:=hid (qc.keeps K67 (by show w6.heap.size≠w4.heap.size+2;omega));have qc0:=B7.cell 0;have qc1:=B7.cell 1;clear qc;go_wp2_with (at_builtin;refine wpList_append_own_at _ rfl (.tmp 101) (.tmp 103) 116 rfl (w4.heap.size+3) 114 iP (.agg #[.int .i64 0,.int .i64 0]) 2 16 Tryz.underlying116 YS Kg Kh Oq rfl (by decide) _ _ _ rfl (T7.alloc _) ⟨_,0,none⟩ 1 1 [.int .i64 q.1,.int .i64 q.2] rfl rfl (bQ (aq.new _ _ _)) (by intro u hu;simp at hu;rcases hu with rfl | rfl<;>rfl) (by unfold maxLen;omega) (by omega) (by simp;omega) ?_;intro v' w8 hown' hgrow hh hat;have HO8:=hid hown';have HG:=hid hgrow;have zN:=hid hat;clear hown' hgrow hh hat;refine Hid.out ?_);refine hid ?_;have Wk:Hid (w8.ownsRow (wo.heap.size+1) 3 1 (.slice IV k IY) k ((r.2.map Int.ofNat).map aV)):=hid ((N7.alloc (.cells #[.int .i64 q.1,.int .i64 q.2] 114)).kept HG (ownBlock_ne (by decide) (N7.alloc (.cells #[.int .i64 q.1,.int .i64 q.2] 114)) (T7.alloc (.cells #[.int .i64 q.1,.int .i64 q.2] 114))))
       have h8g:ae (fun x=>x<wo.heap.size+1/\some tg≠some x) (w7.alloc (.cells #[.int .i64 q.1,.int .i64 q.2] 114)) w8:=ae.bA HG fun x hx=>⟨by have:=hx.1;simp;omega,fun e=>by
        rcases OI.out with h5 | h5
        ·exact hx.2 (h5.symm.trans e.symm)
        ·have:=h5 x e.symm
         have:=hx.1
         omega⟩
       have h8k:ae (fun x=>x<wo.heap.size+1/\some tg≠some x) w7 w8:=((ae.refl _ _).alloc (fun x hx=>by have:=hx.1;omega) _).tr h8g;have SJ:Hid (aq w8 wo.heap.size #[.int .i64 p.1,.int .i64 p.2] 114):=hid (((PB6.alloc _).keeps K67 (by show wo.heap.size≠w4.heap.size+2;omega)).keeps h8k ⟨by omega,by intro e;injection e;omega⟩);have NUf:Hid (gX w8 (w4.heap.size+2) (r.1++ [q])):=hid (NU7.keeps h8k ⟨by omega,by intro e;injection e;omega⟩);have KPf:Hid (ae (fun x=>x<wo.heap.size/\x≠w4.heap.size+2/\some tg≠some x) wo w8):=hid (((K6.alloc (fun x hx=>by have:=hx.1;omega) (.cells #[.int .i64 q.1,.int .i64 q.2] 114)).tr (K67.mono fun x hx=>hx.2.1)).tr (h8k.mono fun x hx=>⟨by have:=hx.1;omega,hx.2.2⟩));obtain⟨l',hl'⟩:=ah (r.1++ [q]);obtain⟨M',vw⟩:=ah (M+1);have HM':Hid (M'=l'.length):=hid (by rw[vw,hl',HM.out];simp);have Wl:Hid (w8.ownsRow (w4.heap.size+3) 114 2 v' M' (kM l')):=hid (by rw[hl',vw,Af];exact HO8)
       have OBf:Hid (v'.ownBlock=some tg\/∀ x,v'.ownBlock=some x->wo.heap.size+1<=x):=hid (by
        rcases zN.out with h5 | h5
        ·rw[h5];exact OI
        ·right;intro x e;rw[h5]at e;injection e with e;simp at e;omega)
       have RTf:Hid (dr f (F p) st.1 (k+1)=some (l',r.2++ [M])):=hid (by
        rw[dr,HR.out, <-HQ.out];show lB f r q=_
        rw[Dr UB (by rw[<-HM.out];exact hMe),hl',HM.out])
       rw[<-hl']at NUf;obtain⟨ta',tc',rfl⟩:=ownsRow_form Wl;clear h8g h8k hl' vw aaz HO8 HG zN qc0 qc1 B7 T7 N7 NU7 K67 T6 N6 PB6 NU6 K6 T6o TI OI NI PB YW KP;go_wp2_with (at_builtin;refine wpList_append_own_at _ rfl (.tmp 105) (.tmp 107) 51 rfl (wo.heap.size+1) 3 iI (.int .i64 0) 1 8 Tryz.underlying51 Cb my mz mA rfl (by decide) _ _ _ rfl (Wk.alloc _) ⟨_,0,none⟩ 1 1 [.int .i64 M] rfl rfl (bQ (aq.new _ _ _)) (by intro u hu;simp at hu;rw[hu];rfl) (by unfold maxLen;omega) (by omega) (by have:=SJ.lt;simp;omega) ?_;intro v' w9 hown' hgrow hh hat;have Wm:=hid hown';have HG:=hid hgrow;clear hown' hgrow hh hat);have K9:ae (fun x=>x<wo.heap.size+1) w8 w9:=((ae.refl _ _).alloc (fun x hx=>by have:=SJ.lt;have:x<wo.heap.size+1:=hx;omega) _).tr (ae.bA HG fun x hx=>⟨by have:=SJ.lt;have:x<wo.heap.size+1:=hx;simp;omega,fun e=>by have:=(Wk.lt x e.symm).1;have:x<wo.heap.size+1:=hx;omega⟩);go_roundw;case rel=>
        refine⟨rfl,k+1,(l',r.2++ [M]),by omega,RTf,by go_num,?_,OBf,?_,SJ.keeps K9 (by show wo.heap.size<wo.heap.size+1;omega),NUf.keeps K9 (by show w4.heap.size+2<wo.heap.size+1;omega),KPf.tr (K9.mono fun x hx=>by have:=hx.1;show x<wo.heap.size+1;omega)⟩
        ·have:=(Wl.alloc (.cells #[.int .i64 M] 3)).kept HG (ownBlock_ne (by decide) (Wl.alloc (.cells #[.int .i64 M] 3)) (Wk.alloc (.cells #[.int .i64 M] 3)))
         rwa[HM'.out]at this ⊢
        ·have:=Wm.out
         rw[List.map_append,List.map_append];exact this
       case measure=>simp[intOf];omega
     ·have hl':(Instr.lookup 115 (.map (some (w4.heap.size+1+1))) (.agg #[.int .i64 q.1,.int .i64 q.2]) true).run Tryz.prog (w6.alloc (.cells #[.int .i64 q.1,.int .i64 q.2] 114))=.ok (.tuple #[.int .i64 (Kc r.1 q),.bool true]) (w6.alloc (.cells #[.int .i64 q.1,.int .i64 q.2] 114)):=hl
      clear hl;obtain⟨Wf,UC⟩:=ah (w6.alloc (.cells #[.int .i64 q.1,.int .i64 q.2] 114):World);have ak9:wo.heap.size+1<Wf.heap.size:=by rw[UC];simp;omega
      have Wk:Hid (Wf.ownsRow (wo.heap.size+1) 3 1 (.slice IV k IY) k ((r.2.map Int.ofNat).map aV)):=hid (by rw[UC];exact N6.alloc _);have Wl:Hid (Wf.ownsRow (w4.heap.size+3) 114 2 (.slice MC M MD) M (kM r.1)):=hid (by rw[UC];exact T6o);have SJ:Hid (aq Wf wo.heap.size #[.int .i64 p.1,.int .i64 p.2] 114):=hid (by rw[UC];exact PB6.alloc _);have NUf:Hid (gX Wf (w4.heap.size+2) r.1):=hid (by rw[UC];exact NU6.below ((Ext.refl _).alloc _).below);have KPf:Hid (ae (fun x=>x<wo.heap.size/\x≠w4.heap.size+2/\some tg≠some x) wo Wf):=hid (by rw[UC];exact K6.alloc (fun x hx=>by have:=hx.1;omega) _)
      have RTf:Hid (dr f (F p) st.1 (k+1)=some (r.1,r.2++ [Kc r.1 q])):=hid (by
       rw[dr,HR.out, <-HQ.out];show lB f r q=_
       exact Dt YY)
      have OBf:=OI;have HM':=HM;have hl2:(Instr.lookup 115 (.map (some (w4.heap.size+1+1))) (.agg #[.int .i64 q.1,.int .i64 q.2]) true).run Tryz.prog (w6.alloc (.cells #[.int .i64 q.1,.int .i64 q.2] 114))=.ok (.tuple #[.int .i64 (Kc r.1 q),.bool true]) Wf:=by rw[UC];exact hl'
      obtain⟨s,hs⟩:=ah (Kc r.1 q);rw[<-hs]at hl2 RTf;obtain⟨l',pU⟩:=ah r.1;rw[<-pU]at Wl NUf RTf HM';clear hl' UC hs pU T6 N6 PB6 NU6 K6 T6o TI OI NI PB YW KP YY;go_wp2_with (at_builtin;refine wpList_append_own_at _ rfl (.tmp 105) (.tmp 107) 51 rfl (wo.heap.size+1) 3 iI (.int .i64 0) 1 8 Tryz.underlying51 Cb my mz mA rfl (by decide) _ _ _ rfl (Wk.alloc _) ⟨_,0,none⟩ 1 1 [.int .i64 s] rfl rfl (bQ (aq.new _ _ _)) (by intro u hu;simp at hu;rw[hu];rfl) (by unfold maxLen;omega) (by omega) (by have:=SJ.lt;simp;omega) ?_;intro v' w9 hown' hgrow hh hat;have Wm:=hid hown';have HG:=hid hgrow;clear hown' hgrow hh hat);have K9:ae (fun x=>x<wo.heap.size+1) Wf w9:=((ae.refl _ _).alloc (fun x hx=>by have:=SJ.lt;have:x<wo.heap.size+1:=hx;omega) _).tr (ae.bA HG fun x hx=>⟨by have:=SJ.lt;have:x<wo.heap.size+1:=hx;simp;omega,fun e=>by have:=(Wk.lt x e.symm).1;have:x<wo.heap.size+1:=hx;omega⟩);go_roundw;case rel=>
       refine⟨rfl,k+1,(l',r.2++ [s]),by omega,RTf,by go_num,?_,OBf,?_,SJ.keeps K9 (by show wo.heap.size<wo.heap.size+1;omega),NUf.keeps K9 (by show w4.heap.size+2<wo.heap.size+1;omega),KPf.tr (K9.mono fun x hx=>by have:=hx.1;show x<wo.heap.size+1;omega)⟩
       ·have:=(Wl.alloc (.cells #[.int .i64 s] 3)).kept HG (ownBlock_ne (by decide) (Wl.alloc (.cells #[.int .i64 s] 3)) (Wk.alloc (.cells #[.int .i64 s] 3)))
        rwa[HM'.out]at this ⊢
       ·have:=Wm.out
        rw[List.map_append,List.map_append];exact this
      case measure=>simp[intOf];omega
    ·obtain rfl:k=K:=by omega
     have hrow:dQ f F k (0,0) (n+1)=some (r.1,st.2++ [r.2]):=by rw[dQ,ST.out];show fK f F k n st=_;unfold fK;rw[HP.out];show(dr f (F p) st.1 k).map _=_;rw[HR.out];rfl
     have gO:=hid hrow;clear hrow t1 t2 j1 q6;have NXI:=hid (Wj.Om TV KP (by omega));have MKI:=hid (YU.Om TV KP (by omega));have Wn:=hid (HBO.keeps KP ⟨by omega,by omega,by intro e;injection e;omega⟩);have L1:Hid (∀ x,(Value.slice na n nc).ownBlock=some x->x<wo.heap.size/\w4.heap.size+3<=x):=hid (by obtain⟨us,_,h2,_⟩:=Wj.out;exact fun x e=>⟨(h2.lt x e).2,(h2.lt x e).1⟩);have L2:Hid (∀ x,(Value.slice ma n mc).ownBlock=some x->x<wo.heap.size/\w4.heap.size+3<=x):=hid (by obtain⟨us,_,h2,_⟩:=YU.out;exact fun x e=>⟨(h2.lt x e).2,(h2.lt x e).1⟩);obtain⟨us,u1,u2,u3⟩:=NXI.out;obtain⟨ms,m1,m2,m3⟩:=MKI.out;have Wo:us.length=n:=by rw[u1];simp[ZY.out]
     have UD:ms.length=n:=by rw[m1];simp;have:=HL.out;omega
     rw[Wo]at u2;rw[UD]at m2;obtain⟨ml,uq⟩:=ah ((eB a b op p).length);obtain⟨mx,hmx⟩:=ah ((eB a b op p).map aV);have IM:Hid (∀ W base u,jy base W u a b op->ag 51 #[u,.agg #[.int .i64 p.1,.int .i64 p.2]] W fun e w'=>∃ m,e=.returned m/\w'.ownsRow W.heap.size 3 1 m ml mx/\aa W w'):=hid fun W base u hb=>by rw[uq,hmx];exact CM W base u p hb PP
     have U1:=hid u1;have U2:=hid u2;have U3:=hid u3;have M1:=hid m1;have M2:=hid m2;have M3:=hid m3;have HUS:=hid Wo;have HMS:=hid UD;have xR:=hid uq;have HMX:=hid hmx;clear u1 u2 u3 m1 m2 m3 Wo UD uq hmx NXI MKI Wj YU;obtain⟨PL,xm⟩:=ah ([sZ wi.heap.size (.slice na n nc) n us (.slice IV k IY),mkApp wi.heap.size (.slice ma n mc) n ms ml mx]:List uE.App);have rO:PL[0]? =some (sZ wi.heap.size (.slice na n nc) n us (.slice IV k IY)):=by rw[xm];rfl
     have vv:PL[1]? =some (mkApp wi.heap.size (.slice ma n mc) n ms ml mx):=by rw[xm];rfl
     have hall:∀ q∈PL,q=sZ wi.heap.size (.slice na n nc) n us (.slice IV k IY)\/q=mkApp wi.heap.size (.slice ma n mc) n ms ml mx:=fun q hq=>by rw[xm]at hq;simpa using hq
     have Wp:Hid (uE.kI wi PL):=hid ⟨fun q hq=>by rcases hall q hq with rfl | rfl<;>exact aD _,fun q hq x e=>by
      rcases hall q hq with rfl | rfl
      ·have:=L1.out x e;omega
      ·have:=L2.out x e;omega,fun i j q q' hi hj oY=>by
      have hl:PL.length=2:=by rw[xm];rfl
      have h1:=(List.getElem?_eq_some_iff.1 hi).1;have h2:=(List.getElem?_eq_some_iff.1 hj).1;rcases(show i=0\/i=1 by omega)with rfl | rfl<;>rcases(show j=0\/j=1 by omega)with rfl | rfl<;>(first | (exact absurd rfl oY) | skip)<;>(first | rw[rO]at hi | rw[vv]at hi)<;>(first | rw[rO]at hj | rw[vv]at hj)<;>cases hi<;>cases hj
      ·exact FAR
      ·exact FAR.symm⟩
     have My:∀ x,(x<w4.heap.size+3\/wo.heap.size<=x)->¬ ∃ q∈PL,q.v.ownBlock=some x:=fun x hx ⟨q,hq,e⟩=>by
      rcases hall q hq with rfl | rfl
      ·have:=L1.out x e;omega
      ·have:=L2.out x e;omega
     have Kj:=hid hall;have Mz:=hid My;have Ah:Hid (∀ W',uE.bX (w4.heap.size+3) wi PL wi W'->aa w4 W'):=hid fun W' h=>XI.trans (h.keeps.mono fun x hx=>⟨by have:x<w4.heap.size:=hx;omega,My x (by have:x<w4.heap.size:=hx;omega)⟩:ae (· <w4.heap.size) wi W').below
     clear xm hall My YX;go_wp2;have HST:Hid (∀ W W' u,uE.bX (w4.heap.size+3) wi PL W W'->(u.oneCell'=true/\W.ownsRow wi.heap.size 3 1 u ml mx)->(u.oneCell'=true/\W'.ownsRow wi.heap.size 3 1 u ml mx)):=hid fun W W' u hm h=>⟨h.1,au h.2 hm.keeps fun x hx=>⟨(h.2.lt x hx).2,Mz x (.inr (by have:=(h.2.lt x hx).1;omega))⟩⟩
     refine RegG.ck (uE.bX (w4.heap.size+3) wi PL) (uE.bX.drew) (fun _ _ _ h k=>h.trans k) (by kernel_rfl) 13 [0,1,0,4,15,0,32,0,0,415,927,2047,127,8191,16383,32767] (fun i=>i==3 || i==4 || i==9 || i==10 || i==11) (by kernel_rfl) (fun j=>if j=11 then some 114 else none) (fun j hj=>(by first | rfl | (have fC:16<=j:=hj;first | exact if_neg (by omega) | (split<;>first | omega | rfl)))) (by kernel_rfl) (fun i=>if i=3 then uE.qJ.rN (w4.heap.size+3) wi PL 1 #[.slice IV k IY] 51 else if i=4 then uE.qJ.app (w4.heap.size+3) wi PL (sZ wi.heap.size (.slice na n nc) n us (.slice IV k IY)) (aA rO)else if i=9 then uE.qJ.row (w4.heap.size+3) wi PL Wp wi.heap.size (aD _) 3 1 ml mx else if i=10 then uE.qJ.aaq (w4.heap.size+3) wi PL 51 (fun W u=>u.oneCell'=true/\W.ownsRow wi.heap.size 3 1 u ml mx) HST else if i=11 then uE.qJ.vg (w4.heap.size+3) wi PL (mkApp wi.heap.size (.slice ma n mc) n ms ml mx) (aA vv)else RegG.aR.any _) ?_;intro C hC hne;have HC:=hid hC;have l4:∀ {x:Nat},x<wi.heap.size->(¬ ∃ q∈PL,q.v.ownBlock=some x)->∀ W: {W//C W},W.1.heap[x]? =wi.heap[x]? :=fun {x} h1 h2 W=>((hC W.1).1 W.2).keeps.keep x ⟨h1,h2⟩
     have t10:=fun W: {W//C W} =>((BI.same (l4 BI.lt (Mz w4.heap.size (by omega)) W)).ten).1
     have b0:=fun W: {W//C W} =>(t10 W).1
     have b1:=fun W: {W//C W} =>(t10 W).2.1
     have b2:=fun W: {W//C W} =>(t10 W).2.2.1
     have b3:=fun W: {W//C W} =>(t10 W).2.2.2.1
     have b4:=fun W: {W//C W} =>(t10 W).2.2.2.2.1
     have b5:=fun W: {W//C W} =>(t10 W).2.2.2.2.2.1
     have b6:=fun W: {W//C W} =>(t10 W).2.2.2.2.2.2.1
     have b7:=fun W: {W//C W} =>(t10 W).2.2.2.2.2.2.2.1
     have b8:=fun W: {W//C W} =>(t10 W).2.2.2.2.2.2.2.2.1
     have b9:=fun W: {W//C W} =>(t10 W).2.2.2.2.2.2.2.2.2
     have pp0:∀ W: {W//C W},W.1.cell? ⟨wo.heap.size,0,none⟩=some (.int .i64 p.1):=fun W=>(PB.out.same (l4 PB.out.lt (Mz _ (by omega)) W)).cell 0
     have pp1:∀ W: {W//C W},W.1.cell? ⟨wo.heap.size,1,none⟩=some (.int .i64 p.2):=fun W=>(PB.out.same (l4 PB.out.lt (Mz _ (by omega)) W)).cell 1
     have o1:∀ W: {W//C W},W.1.cell? ⟨w4.heap.size+1,1,none⟩=some (.slice na n nc):=fun W=>(Wn.same (l4 Wn.lt (Mz _ (by omega)) W)).cell 1
     have o2:∀ W: {W//C W},W.1.cell? ⟨w4.heap.size+1,2,none⟩=some (.slice ma n mc):=fun W=>(Wn.same (l4 Wn.lt (Mz _ (by omega)) W)).cell 2
     clear hC l4 t10
     repeat (refine RegG.ak (fun K hK=>?_);first | (refine RegG.cQ rfl ?_;try go_simp;refine hK _ _ ?_;clear hK K) | (refine RegG.bV rfl rfl ?_;unfold aB;go_simp;refine hK _ _ ?_;clear hK K))
     refine RegG.ak (fun K hK=>?_);refine RegG.bS rfl rfl (uE.qJ.rN (w4.heap.size+3) wi PL 1 #[.slice IV k IY] 51) rfl (fun W hW hN=>?_) (fun v hv=>?_)
     ·have hM:=(HC.out W).1 hW
      clear hW hK K
      (go_simp;exact⟨.below ((Ext.refl _).alloc _).below,⟨_,rfl⟩,fun b hb=>by cases hb;exact⟨aq.new _ _ _,Wp.fresh hM.size⟩⟩)
     obtain⟨x3,rfl⟩:=hv;go_simp;refine hK _ _ ?_;clear hK K;refine RegG.ak (fun K hK=>?_);refine RegG.bS rfl rfl (uE.qJ.app (w4.heap.size+3) wi PL (sZ wi.heap.size (.slice na n nc) n us (.slice IV k IY)) (aA rO)) rfl (fun W hW hN=>?_) (fun v hv=>?_)
     ·have hM:=(HC.out W).1 hW
      clear hW hK K;refine uE.dL (w0:=wi) (PL:=PL) (p:=(sZ wi.heap.size (.slice na n nc) n us (.slice IV k IY))) (.tmp 111) (.tmp 113) 71 rfl iL (.slice none 0 0) 24 Tryz.underlying71 Ki rQ rR rS rfl (show(0:Nat)<1 from by decide) Wp rO rfl (hM.old _ (aA rO) U2) ⟨x3,0,none⟩ 1 rfl [.slice IV k IY] rfl rfl (bQ (hN.at 0 rfl (by kernel_rfl) x3 rfl).1) (by intro u hu;simp at hu;rw[hu];rfl) (by show n+1<=maxLen;unfold maxLen;omega) (by show(n+1)*24<=_;omega) (Nat.le_trans (by omega) hM.size) (show(0:Nat)<1 from by decide) hM.size (fun v W2 g1 g2 g3 _=>⟨g1,g2,g3⟩)
     obtain⟨UE,UF,hv2⟩:=hv;replace hv2:v=.slice UE (n+1) UF:=hv2;subst hv2;go_simp;refine hK _ _ ?_;clear hK K
     repeat (refine RegG.ak (fun K hK=>?_);first | (refine RegG.cQ rfl ?_;try go_simp;refine hK _ _ ?_;clear hK K) | (refine RegG.bV rfl rfl ?_;unfold aB;go_simp;refine hK _ _ ?_;clear hK K))
     refine RegG.ak (fun K hK=>?_);refine RegG.bS rfl rfl (uE.qJ.row (w4.heap.size+3) wi PL Wp wi.heap.size (aD _) 3 1 ml mx) rfl (fun W hW hN=>?_) (fun v hv=>?_)
     ·have hM:=(HC.out W).1 hW
      clear hW hK K
      (go_simp;refine bu ((IM W _ _ (IB.below (Ah _ hM))).mono ?_);rintro e w2 ⟨um,rfl,ho,hx⟩;exact⟨_,rfl,.below hx,ownsRow_form ho,aG ho hM.size⟩)
     obtain⟨a9,c9,rfl⟩:=hv;go_simp;refine hK _ _ ?_;clear hK K;refine RegG.ak (fun K hK=>?_);refine RegG.bS rfl rfl (uE.qJ.aaq (w4.heap.size+3) wi PL 51 (fun W u=>u.oneCell'=true/\W.ownsRow wi.heap.size 3 1 u ml mx) HST) rfl (fun W hW hN=>?_) (fun v hv=>?_)
     ·have hM:=(HC.out W).1 hW
      clear hW hK K
      (go_simp;exact⟨.below ((Ext.refl _).alloc _).below,⟨_,rfl⟩,fun b hb=>by cases hb;exact⟨⟨_,aq.new _ _ _,rfl,(show W.ownsRow wi.heap.size 3 1 (.slice a9 ml c9) ml mx from hN.at 0 rfl (by kernel_rfl)).alloc _⟩,Wp.fresh hM.size⟩⟩)
     obtain⟨Uz,rfl⟩:=hv;go_simp;refine hK _ _ ?_;clear hK K;refine RegG.ak (fun K hK=>?_);refine RegG.bS rfl rfl (uE.qJ.vg (w4.heap.size+3) wi PL (mkApp wi.heap.size (.slice ma n mc) n ms ml mx) (aA vv)) rfl (fun W hW hN=>?_) (fun v hv=>?_)
     ·have hM:=(HC.out W).1 hW
      have hq:uE.After (w4.heap.size+3) wi (sZ wi.heap.size (.slice na n nc) n us (.slice IV k IY)) W (.slice UE (n+1) UF):=hN.at 2 rfl (by kernel_rfl);obtain⟨⟨ub,hb1,hb2,hb3⟩,_⟩:=hN.at 0 rfl (by kernel_rfl) Uz rfl;clear hW hK K;refine uE.dL (w0:=wi) (PL:=PL) (p:=(mkApp wi.heap.size (.slice ma n mc) n ms ml mx)) (.tmp 116) (.tmp 120) 71 rfl iL (.slice none 0 0) 24 Tryz.underlying71 Ki rQ rR rS rfl (show(0:Nat)<1 from by decide) Wp vv rfl (hM.old _ (aA vv) M2) ⟨Uz,0,none⟩ 1 rfl [ub] ⟨ub,rfl,hb2,hb3⟩ rfl (bQ hb1) (by intro u hu;simp at hu;rw[hu];exact hb2) (by show n+1<=maxLen;unfold maxLen;omega) (by show(n+1)*24<=_;omega) (Nat.le_trans (by omega) hM.size) (show(0:Nat)<1 from by decide) hM.size (fun v W2 g1 g2 g3 g4=>⟨g1,g2,g3,?_⟩);rcases g4 with g4 | g4
      ·exact .inl g4
      ·refine .inr (.inr fun e=>?_)
       rw[g4]at e;obtain⟨⟨ns,h5,_⟩,_⟩:=hq;have:=(h5.lt _ e.symm).2;omega
     obtain⟨Wq,Ws,hv2⟩:=hv;replace hv2:v=.slice Wq (n+1) Ws:=hv2;subst hv2;go_simp;refine hK _ _ ?_;clear hK K
     repeat (refine RegG.ak (fun K hK=>?_);first | (refine RegG.cQ rfl ?_;try go_simp;refine hK _ _ ?_;clear hK K) | (refine RegG.bV rfl rfl ?_;unfold aB;go_simp;refine hK _ _ ?_;clear hK K))
     refine RegG.cg (fun W7 hW hH=>?_);have hM:=(HC.out W7).1 hW;have Q0:Hid (uE.After (w4.heap.size+3) wi (sZ wi.heap.size (.slice na n nc) n us (.slice IV k IY)) W7 (.slice UE (n+1) UF)):=hid (hH _ (aA (show _=some _ from rfl:_[3]? =some _)));have Q1:Hid (uE.After (w4.heap.size+3) wi (mkApp wi.heap.size (.slice ma n mc) n ms ml mx) W7 (.slice Wq (n+1) Ws)/\((Value.slice Wq (n+1) Ws).ownBlock=(Value.slice ma n mc).ownBlock\/oJ (.slice Wq (n+1) Ws) (.slice UE (n+1) UF))):=hid (hH _ (aA (show _=some _ from rfl:_[0]? =some _)));have K7:Hid (ae (fun x=>x<wi.heap.size/\¬ ∃ q∈PL,q.v.ownBlock=some x) wi W7):=hid hM.keeps
     have KR:Hid (∀ (e:TypeId) (bs sz m:Nat) (u:Value) (ys:List Value),e≠51->wi.ownsRow bs e sz u m ys->W7.ownsRow bs e sz u m ys):=hid (by
      intro e bs sz m u ys he ho;refine au ho K7 fun x hx=>⟨(ho.lt x hx).2,?_⟩
      rintro⟨q,hq,xj⟩;rcases Kj.out q hq with rfl | rfl
      ·rcases ownBlock_ne he ho U2.out with h5 | h5
       ·rw[h5]at hx;cases hx
       ·exact h5 (hx.trans xj.symm)
      ·rcases ownBlock_ne he ho M2.out with h5 | h5
       ·rw[h5]at hx;cases hx
       ·exact h5 (hx.trans xj.symm))
     have B7:=hid (Wn.keeps K7 ⟨Wn.lt,Mz _ (.inl (by omega))⟩);have BT:=hid (BI.keeps K7 ⟨BI.lt,Mz _ (.inl (by omega))⟩);have X7:=hid (Ah.out W7 hM);have NU7:=hid (YW.keeps K7 ⟨YW.lt,Mz _ (.inl (by omega))⟩);have T7:Hid (W7.ownsRow (w4.heap.size+3) 114 2 (.slice MC M MD) M (kM r.1)):=hid (KR.out _ _ _ _ _ _ (by decide) TI);have Io:r.2.length=k:=RO.len
     have O7:Hid (bI (w4.heap.size+3) W7 (.slice UE (n+1) UF) ((st.2.map fun r=>r.map Int.ofNat)++ [r.2.map Int.ofNat])):=hid (by
      obtain⟨⟨ns,h5,h6⟩,_⟩:=Q0.out;have h6:ns=[.slice IV k IY]:=h6;subst h6;refine bI.more U1 HUS h5 (fun i u l hu hl=>KR _ _ _ _ _ _ (by decide) (U3 i u l hu hl)) ?_;rw[show(r.2.map Int.ofNat).length=k by simp[Io]]
      exact aG (KR _ _ _ _ _ _ (by decide) NI) (by omega))
     have dT:r.1.take (n+1)=st.1.take n++ [p]:=by obtain⟨ys,JV⟩:=RO.pre;have h5:=(List.getElem?_eq_some_iff.1 HP).1;rw[<-JV,List.take_append_of_le_length (by omega),List.take_add_one,HP.out];rfl
     have P7:Hid (bI (w4.heap.size+3) W7 (.slice Wq (n+1) Ws) ((r.1.take (n+1)).map (eB a b op))):=hid (by
      obtain⟨⟨⟨ns,h5,u,h6,_,h7⟩,_⟩,_⟩:=Q1.out;have h6:ns=[u]:=h6;subst h6;rw[dT,List.map_append];refine bI.more M1 HMS h5 (fun i u l hu hl=>KR _ _ _ _ _ _ (by decide) (M3 i u l hu hl)) ?_;rw[<-xR.out, <-HMX.out]
      exact aG h7 (by omega))
     have FR:Hid (oJ (.slice UE (n+1) UF) (.slice Wq (n+1) Ws)):=hid (by
      rcases Q1.2 with h | h
      ·rcases Q0.2 with h' | h'
       ·rcases FAR.out with h3 | h3
        ·exact .inl (h'.trans h3)
        ·exact .inr (by rw[h',h];exact h3)
       ·by_cases e:(Value.slice UE (n+1) UF).ownBlock=none
        ·exact .inl e
        ·right
         intro e2;rw[h]at e2;cases e3:(Value.slice ma n mc).ownBlock with
         | none=>rw[e3]at e2;exact e e2
         | some x=>rw[e3]at e2;have:=h' x e2;have:=(L2.out x e3).1;omega
      ·exact h.symm)
     have hML:M=r.1.length:=HM.out;have hle:n+1<=r.1.length:=by obtain⟨ys,JV⟩:=RO.pre;have h5:=(List.getElem?_eq_some_iff.1 HP).1;rw[<-JV,aQ];omega
     clear hM hW hH HC b0 b1 b2 b3 b4 b5 b6 b7 b8 b9 pp0 pp1 o1 o2 rO vv Wp Kj Mz Ah HST K7 KR Wn BI YW TI NI PB Q0 Q1 L1 L2 U1 U2 U3 M1 M2 M3 HUS HMS xR HMX IM dT;obtain⟨⟨k0,k1,k2⟩,z0,z1,z2⟩:=B7.three;go_wp2;go_roundw;case rel=>
      have kg:ae (· ≠w4.heap.size+1) W7 ((W7.setCell ⟨w4.heap.size+1,1,none⟩ (.slice UE (n+1) UF)).setCell ⟨w4.heap.size+1,2,none⟩ (.slice Wq (n+1) Ws)):=
       ((ae.refl _ _).setCell (p:=⟨w4.heap.size+1,1,none⟩) (fun h=>h rfl) _).setCell (p:=⟨w4.heap.size+1,2,none⟩) (fun h=>h rfl) _
      refine⟨rfl,n+1,(r.1,st.2++ [r.2]),_,_,gO,hle,?_,BT.keeps kg (by omega),(B7.set 1 _).set 2 _,?_,P7.keeps kg (fun x h1 _ e=>by omega),FR,NU7.keeps kg (by omega),X7.trans (kg.mono fun x hx e=>by have:x<w4.heap.size:=hx;omega:ae (· <w4.heap.size) W7 _).below⟩
      ·rw[<-hML]
       exact aS T7 kg fun x h1 _ e=>by omega
      ·rw[List.map_append]
       exact O7.keeps kg (fun x h1 _ e=>by omega)
     case measure=>
      rw[Dp (HBO.cell 1),Dp (((B7.set 1 _).set 2 _).cell 1)];omega
  ·obtain rfl:n=L:=by omega
   have hst:=ST.out;have Ce:=ES.out n st ST (by rw[<-HL.out];exact aD _) hLf;have dT:st.1.take n=st.1:=by rw[HL.out];exact List.take_length
   have E8o:=hid (E8.keeps (ae.ai HX fun _ h=>h:ae (· <w4.heap.size) w4 wo) aat);have CLo:=hid (au I5 (ae.ai HX fun _ h=>h:ae (· <w4.heap.size) w4 wo) fun x e=>(I5.lt x e).2);have MK2:=YU;rw[dT]at MK2;have Fj:=I5.lt;clear hst dT j1;obtain⟨⟨k0,k1,k2⟩,_⟩:=HBO.three;obtain⟨_,z0,z1,z2⟩:=E8o.three;obtain⟨⟨y0x,y1x,y2x⟩,_⟩:=E8o.three;go_wp2;refine aT ?_;intro W9 eO;have E9:Hid (aq W9 (w.heap.size+2) #[.slice ca K cc,.slice na n nc,.slice ma n mc] 73/\ae (· ≠w.heap.size+2) wo W9):=by rw[eO];exact hid ⟨E8o.vt,((((ae.refl _ _).setCell (p:=⟨w.heap.size+2,0,none⟩) (fun h=>h rfl) _).setCell (p:=⟨w.heap.size+2,1,none⟩) (fun h=>h rfl) _).setCell (p:=⟨w.heap.size+2,2,none⟩) (fun h=>h rfl) _)⟩
   clear eO;obtain⟨⟨m0,m1,m2⟩,_⟩:=E9.1.three;refine bodyPost_ret (v:=.tuple #[.agg #[.slice ca K cc,.slice na n nc,.slice ma n mc],.int .i64 0]) (by simp[results,Tryz.results27,go_sem,m0,m1,m2]) rfl ?_;rw[Ce];refine⟨_,rfl,⟨_,_,_,rfl,?_,?_,?_⟩,(X4.trans (HX.mono X4.size)).trans (E9.2.mono fun x hx e=>by have:x<w.heap.size:=hx;omega:ae (· <w.heap.size) wo W9).below⟩
   ·show W9.ownsRow w.heap.size 37 4 _ (partsOf (a.cl++b.cl)).length _
    rw[<-HK.out];exact aG (au CLo E9.2 fun x e=>by have:=(Fj x e).1;show x≠w.heap.size+2;omega) (by omega)
   ·exact(Wj.keeps E9.2 fun x h1 _=>by show x≠w.heap.size+2;omega).base (by omega)
   ·exact(MK2.keeps E9.2 fun x h1 _=>by show x≠w.heap.size+2;omega).base (by omega)
end
section
open Go Go.RowKit Go.Shelf Go.Maps
attribute [local go_sem] encS
theorem s4 {a b:DF} (h:(a.right&&b.right)=false) (op f:Int):bM a b op f=(Gq,182):=by unfold bM;rw[if_pos h]
theorem SK (W:World):(binOp BinOp.eql 107 .nilFunc .nilFunc).run Tryz.prog W=.ok (.bool true) W:=by kernel_rfl
theorem Kk (op:Nat):∃ sv,(sv=.nilFunc\/∃ g,sv=.func (.func g) #[] #[])/\(sv=.nilFunc↔(op<1\/4<op))/\∀ W,ag 47 #[.int .u8 op] W fun e w'=>e=.returned sv/\w'=W:=by
 by_cases h:op=0\/4<op
 ·exact⟨.nilFunc,.inl rfl,⟨fun _=>by omega,fun _=>rfl⟩,fun W=>J2 op h W⟩
 ·exact⟨_,.inr ⟨_,rfl⟩,⟨fun h'=>by simp at h',fun h'=>by omega⟩,fun W=>yG op (by omega) (by omega) W⟩
theorem Du (v v':Value) (a b:DF) (sa:Sm a) (sb:Sm b) (op:Nat) (f:Int) (Gr:(a.right&&b.right)=false\/(op<1\/4<op)\/(f<0\/4000<f)\/f=0) (w:World) (h:iJ w v a) (h':iJ w v' b): ag 27 #[v,v',.int .u8 op,.int .i64 f] w fun e w'=>∃ u,e=.returned (.tuple #[u,.int .i64 (bM a b op f).2])/\dM w.heap.size w' u (bM a b op f).1/\aa w w':=by
 have CR:Hid (∀ W,aa w W->ag 48 #[v] W fun e w'=>e=.returned (.bool a.right)/\aa W w'):=fun W hW=>ji v a W (h.below hW) sa
 have CR':Hid (∀ W,aa w W->ag 48 #[v'] W fun e w'=>e=.returned (.bool b.right)/\aa W w'):=fun W hW=>ji v' b W (h'.below hW) sb
 obtain⟨sv,hsv,Kl,CS0⟩:=Kk op;have CS:Hid (∀ W,ag 47 #[.int .u8 op] W fun e w'=>e=.returned sv/\w'=W):=CS0;obtain⟨v0,v1,v2,rfl,h0,h1,h2⟩:=h;obtain⟨u0,u1,u2,rfl,g0,g1,g2⟩:=h';obtain⟨PE,YT⟩:=ah (bM a b op f);rw[<-YT];have YZ:=hid YT;have Rp:=hid Kl;obtain⟨ar,har⟩:=ah a.right;obtain⟨br,hbr⟩:=ah b.right;rw[<-har]at CR Gr;rw[<-hbr]at CR' Gr;have HAR:=hid har;have HBR:=hid hbr;have afk:=hid Gr;clear h0 h1 h2 g0 g1 g2 YT Kl CS0 har hbr Gr;have fin:Hid (∀ (W:World) (c:Int),PE=(Gq,c)->aa w W->∀ e,e=Ending.returned (.tuple #[.agg #[.slice none 0 0,.slice none 0 0,.slice none 0 0],.int .i64 c])->∃ u,e=.returned (.tuple #[u,.int .i64 PE.2])/\dM w.heap.size W u PE.1/\aa w W):=hid fun W c h hx e he=>by rw[h];exact⟨_,he,IQ _ _,hx⟩
 go_enter Tryz.func27,Tryz.ntmps27
 go_wp2_with fail
 refine aK ?_;intro V hV;have B4:Hid (aq V w.heap.size #[v0,v1,v2] 73):=by rw[hV];exact((aq.new w _ _).alloc _).alloc _
 have B5:Hid (aq V (w.heap.size+1) #[u0,u1,u2] 73):=by rw[hV];exact((aq.new (w.alloc _) _ _).at (by simp)).alloc _
 have B8:Hid (aq V (w.heap.size+2) #[.slice none 0 0,.slice none 0 0,.slice none 0 0] 73):=by rw[hV];exact(aq.new ((w.alloc _).alloc _) _ _).at (by simp)
 have X1:Hid (aa w V):=by rw[hV];exact((((Ext.refl w).alloc _).alloc _).alloc _).below
 clear hV;refine(CS V).mono ?_;rintro e w' ⟨rfl,hw⟩;replace hw:=hw.symm;subst hw;obtain⟨⟨k0,k1,k2⟩,_⟩:=B4.three;go_wp2_with fail
 refine(CR V X1).mono ?_;rintro e w2 ⟨rfl,hx⟩;have C5:=hid (B5.below hx B5.lt);have C8:=hid (B8.below hx B8.lt);have X2:=hid (X1.trans (hx.mono X1.size));clear hx k0 k1 k2 B4 B5 B8 X1;cases ar with
 | false=>
  obtain⟨_,z0,z1,z2⟩:=C8.three;obtain⟨⟨k0,k1,k2⟩,_⟩:=C8.three;go_wp2;refine aT ?_;intro W9 eO;have E9:Hid (aq W9 (w.heap.size+2) #[.slice none 0 0,.slice none 0 0,.slice none 0 0] 73/\aa w W9):=by rw[eO];exact hid ⟨C8.vt,eC X2 (by omega)⟩
  clear eO;obtain⟨⟨m0,m1,m2⟩,_⟩:=E9.1.three;refine bodyPost_ret (v:=.tuple #[.agg #[.slice none 0 0,.slice none 0 0,.slice none 0 0],.int .i64 182]) (by simp[results,Tryz.results27,go_sem,m0,m1,m2]) rfl (fin W9 182 (YZ.trans (s4 (by rw[<-HAR.out];rfl) _ _)) E9.2 _ rfl)
 | true=>
  obtain⟨⟨k0,k1,k2⟩,_⟩:=C5.three;go_wp2_with fail
  refine(CR' w2 X2).mono ?_;rintro e w3 ⟨rfl,hx⟩;have D8:=hid (C8.below hx C8.lt);have X3:=hid (X2.trans (hx.mono X2.size));clear hx k0 k1 k2 C5 C8 X2;obtain⟨_,z0,z1,z2⟩:=D8.three;obtain⟨⟨k0,k1,k2⟩,_⟩:=D8.three;have Ou:Hid (∀ (W9:World) (c:Int),W9=(((w3.setCell ⟨w.heap.size+2,0,none⟩ (.slice none 0 0)).setCell ⟨w.heap.size+2,1,none⟩ (.slice none 0 0)).setCell ⟨w.heap.size+2,2,none⟩ (.slice none 0 0))->aq W9 (w.heap.size+2) #[.slice none 0 0,.slice none 0 0,.slice none 0 0] 73/\aa w W9):=hid fun W9 c eO=>by rw[eO];exact⟨D8.vt,eC X3 (by omega)⟩
  cases br with
  | false=>
   go_wp2;refine aT ?_;intro W9 eO;have E9:=hid (Ou.out W9 0 eO);clear eO;obtain⟨⟨m0,m1,m2⟩,_⟩:=E9.1.three;refine bodyPost_ret (v:=.tuple #[.agg #[.slice none 0 0,.slice none 0 0,.slice none 0 0],.int .i64 182]) (by simp[results,Tryz.results27,go_sem,m0,m1,m2]) rfl (fin W9 182 (YZ.trans (s4 (by rw[<-HAR.out, <-HBR.out];rfl) _ _)) E9.2 _ rfl)
  | true=>
   have hr:¬ (a.right&&b.right)=false:=by rw[<-HAR.out, <-HBR.out];decide
   rcases hsv with rfl | ⟨gf,rfl⟩
   ·have hop:=Rp.1 rfl
    have UB:=SK;have Ce:PE=(Gq,190):=by rw[YZ.out];unfold bM;rw[if_neg hr,if_pos (by omega)]
    have uF:=hid Ce;clear Ce hr hop;go_wp2;refine aT ?_;intro W9 eO;have E9:=hid (Ou.out W9 0 eO);clear eO;obtain⟨⟨m0,m1,m2⟩,_⟩:=E9.1.three;refine bodyPost_ret (v:=.tuple #[.agg #[.slice none 0 0,.slice none 0 0,.slice none 0 0],.int .i64 190]) (by simp[results,Tryz.results27,go_sem,m0,m1,m2]) rfl (fin W9 190 uF E9.2 _ rfl)
   ·have hop:¬ (op<1\/4<op):=fun h=>by have:=Rp.2 h;cases this
    have UB:=IU gf;by_cases Km:f<0
    ·have d1:decide (f<0)=true:=decide_eq_true Km
     have uF:Hid (PE=(Gq,2)):=hid (by rw[YZ.out];unfold bM;rw[if_neg hr,if_neg (by omega),if_pos (by omega)]);clear hr hop;go_wp2;refine aT ?_;intro W9 eO;have E9:=hid (Ou.out W9 0 eO);clear eO;obtain⟨⟨m0,m1,m2⟩,_⟩:=E9.1.three;refine bodyPost_ret (v:=.tuple #[.agg #[.slice none 0 0,.slice none 0 0,.slice none 0 0],.int .i64 2]) (by simp[results,Tryz.results27,go_sem,m0,m1,m2]) rfl (fin W9 2 uF E9.2 _ rfl)
    ·have d1:decide (f<0)=false:=decide_eq_false Km
     by_cases UA:4000<f
     ·have d2:decide (4000<f)=true:=decide_eq_true UA
      have uF:Hid (PE=(Gq,2)):=hid (by rw[YZ.out];unfold bM;rw[if_neg hr,if_neg (by omega),if_pos (by omega)]);clear hr hop;go_wp2;refine aT ?_;intro W9 eO;have E9:=hid (Ou.out W9 0 eO);clear eO;obtain⟨⟨m0,m1,m2⟩,_⟩:=E9.1.three;refine bodyPost_ret (v:=.tuple #[.agg #[.slice none 0 0,.slice none 0 0,.slice none 0 0],.int .i64 2]) (by simp[results,Tryz.results27,go_sem,m0,m1,m2]) rfl (fin W9 2 uF E9.2 _ rfl)
     ·have d2:decide (4000<f)=false:=decide_eq_false UA
      obtain rfl:f=0:=by
       rcases afk.out with h | h | h | h
       ·cases h
       ·exact absurd h hop
       ·omega
       ·exact h
      have uF:Hid (PE=(Gq,181)):=hid (by rw[YZ.out];unfold bM;rw[if_neg hr,if_neg (by omega),if_neg (by omega),if_pos rfl]);clear hr hop Km UA;go_wp2;refine aT ?_;intro W9 eO;have E9:=hid (Ou.out W9 0 eO);clear eO;obtain⟨⟨m0,m1,m2⟩,_⟩:=E9.1.three;refine bodyPost_ret (v:=.tuple #[.agg #[.slice none 0 0,.slice none 0 0,.slice none 0 0],.int .i64 181]) (by simp[results,Tryz.results27,go_sem,m0,m1,m2]) rfl (fin W9 181 uF E9.2 _ rfl)
theorem Ov (v v':Value) (a b:DF) (sa:Sm a) (sb:Sm b) (op:Nat) (f:Int) (w:World) (h:iJ w v a) (h':iJ w v' b): ag 27 #[v,v',.int .u8 op,.int .i64 f] w fun e w'=>∃ u,e=.returned (.tuple #[u,.int .i64 (bM a b op f).2])/\dM w.heap.size w' u (bM a b op f).1/\aa w w':=by
 by_cases Gr:(a.right&&b.right)=false\/(op<1\/4<op)\/(f<0\/4000<f)\/f=0
 ·exact Du v v' a b sa sb op f Gr w h h'
 ·obtain⟨n,rfl⟩:∃ n:Nat,f=n:=⟨f.toNat,by omega⟩
  have hr:a.right=true/\b.right=true:=by cases ha:a.right<;>cases hb:b.right<;>simp[ha,hb]at Gr<;>simp
  exact Kf v v' a b ((aP a).1 hr.1) ((aP b).1 hr.2) sa sb op (by omega) (by omega) n (by omega) (by omega) w h h'
end
section
open Go Go.RowKit
def Reach (d:DF):Nat->Nat->Prop
 | 0,s=>acc d s=true
 | m+1,s=>∃ k,k<d.cl.length/\Reach d m (jh d s k)
/-! The reference: distances. -/
def yL (d:DF) (far:List Int) (s k:Nat):List Int:=if far.getD (jh d s k) 0+1<far.getD s 0 then far.set s (far.getD (jh d s k) 0+1)else far
def Ai (d:DF):List Int:=(List.range d.nx.length).map fun s=>if acc d s then 0 else(d.nx.length:Int)
def jB (d:DF) (far:List Int) (s:Nat):Nat->List Int
 | 0=>far
 | k+1=>yL d (jB d far s k) s k
def jC (d:DF) (far:List Int):Nat->List Int
 | 0=>far
 | s+1=>jB d (jC d far s) s d.cl.length
def yM (d:DF):Nat->List Int
 | 0=>Ai d
 | r+1=>jC d (yM d r) d.nx.length
structure vx (d:DF) (far:List Int):Prop where
 len:far.length=d.nx.length
 lo:∀ s,s<d.nx.length->0<=far.getD s 0/\far.getD s 0<=d.nx.length
 sound:∀ s,s<d.nx.length->far.getD s 0<d.nx.length->Reach d (far.getD s 0).toNat s
theorem vy (l:List Int) (i j:Nat) (x:Int) (hj:i<l.length):(l.set i x).getD j 0=if j=i then x else l.getD j 0:=by
 rw[cq,List.getElem?_set];by_cases e:j=i
 ·subst e;rw[if_pos rfl,if_pos hj,if_pos rfl];rfl
 ·rw[if_neg (fun h=>e h.symm),if_neg e,cq]
theorem Ow {d:DF} (h:Rt d) {far:List Int} (f:vx d far) {s k:Nat} (hs:s<d.nx.length) (hk:k<d.cl.length):vx d (yL d far s k)/\(∀ t,(yL d far s k).getD t 0<=far.getD t 0)/\(yL d far s k).getD s 0<=far.getD (jh d s k) 0+1:=by
 have hn:=h.gM hs hk;have h1:=f.lo _ hn;have h0:=f.lo s hs;unfold yL;split
 ·rename_i hlt
  have hg:∀ j,(far.set s (far.getD (jh d s k) 0+1)).getD j 0=if j=s then far.getD (jh d s k) 0+1 else far.getD j 0:=fun j=>vy _ _ _ _ (by rw[f.len];exact hs)
  refine⟨⟨by rw[List.length_set];exact f.len,fun t ht=>?_,fun t ht Wt=>?_⟩,fun t=>?_,?_⟩
  ·rw[hg]
   split
   ·omega
   ·exact f.lo t ht
  ·rw[hg]at Wt ⊢
   split
   ·rename_i e
    subst e;rw[show(far.getD (jh d t k) 0+1).toNat=(far.getD (jh d t k) 0).toNat+1 by omega];exact⟨k,hk,f.sound _ hn (by omega)⟩
   ·rename_i e
    rw[if_neg e]at Wt;exact f.sound t ht Wt
  ·rw[hg]
   split
   ·rename_i e;subst e;omega
   ·exact Int.le_refl _
  ·rw[hg,if_pos rfl];exact Int.le_refl _
 ·exact⟨f,fun t=>Int.le_refl _,by omega⟩
theorem s5 {d:DF} (h:Rt d) {far:List Int} (f:vx d far) {s:Nat} (hs:s<d.nx.length):∀ k,k<=d.cl.length->vx d (jB d far s k)/\(∀ t,(jB d far s k).getD t 0<=far.getD t 0)/\∀ j,j<k->(jB d far s k).getD s 0<=far.getD (jh d s j) 0+1
 | 0,_=>⟨f,fun _=>Int.le_refl _,fun j hj=>by omega⟩
 | k+1,hk=>by
  obtain⟨a,b,c⟩:=s5 h f hs k (by omega);obtain⟨a',b',c'⟩:=Ow h a hs (show k<d.cl.length by omega);refine⟨a',fun t=>Int.le_trans (b' t) (b t),fun j hj=>?_⟩;show(yL d (jB d far s k) s k).getD s 0<=_;by_cases e:j=k
  ·subst e;have:=b (jh d s j);omega
  ·have:=c j (by omega);have:=b' s;omega
theorem s6 {d:DF} (h:Rt d) {far:List Int} (f:vx d far):∀ n,n<=d.nx.length->vx d (jC d far n)/\(∀ t,(jC d far n).getD t 0<=far.getD t 0)/\∀ s j,s<n->j<d.cl.length->(jC d far n).getD s 0<=far.getD (jh d s j) 0+1
 | 0,_=>⟨f,fun _=>Int.le_refl _,fun s j hj=>by omega⟩
 | n+1,hn=>by
  obtain⟨a,b,c⟩:=s6 h f n (by omega);obtain⟨a',b',c'⟩:=s5 h a (show n<d.nx.length by omega) d.cl.length (aD _);refine⟨a',fun t=>Int.le_trans (b' t) (b t),fun s j hs hj=>?_⟩;show(jB d (jC d far n) n d.cl.length).getD s 0<=_;by_cases e:s=n
  ·subst e;have:=c' j hj;have:=b (jh d s j);omega
  ·have:=c s j (by omega) hj;have:=b' s;omega
theorem vz {d:DF} {s:Nat} (hs:s<d.nx.length):(Ai d).getD s 0=if acc d s then 0 else(d.nx.length:Int):=by unfold Ai;rw[cq,bH,List.getElem?_range hs];rfl
theorem qK {d:DF} (h:Rt d):∀ r,vx d (yM d r)/\∀ m s,m<=r->s<d.nx.length->Reach d m s->(yM d r).getD s 0<=m
 | 0=>by
  refine⟨⟨by simp[yM,Ai],fun s hs=>?_,fun s hs hlt=>?_⟩,fun m s hm hs hr=>?_⟩
  ·show 0<=(Ai d).getD s 0/\(Ai d).getD s 0<=_
   rw[vz hs];split<;>omega
  ·replace hlt:(Ai d).getD s 0<_:=hlt
   show Reach d ((Ai d).getD s 0).toNat s;rw[vz hs]at hlt ⊢;split
   ·rename_i ha;exact ha
   ·rename_i ha;rw[if_neg ha]at hlt;omega
  ·obtain rfl:m=0:=by omega
   show(Ai d).getD s 0<=_;rw[vz hs,if_pos (show acc d s=true from hr)];exact Int.le_refl _
 | r+1=>by
  obtain⟨f,g⟩:=qK h r;obtain⟨a,b,c⟩:=s6 h f d.nx.length (aD _);refine⟨a,fun m s hm hs hr=>?_⟩;show(jC d (yM d r) d.nx.length).getD s 0<=_;cases m with
  | zero=>have:=g 0 s (by omega) hs hr;have:=b s;omega
  | succ m=>
   obtain⟨k,hk,Rz⟩:=hr;have:=g m _ (by omega) (h.gM hs hk) Rz;have:=c s k hs hk;omega
def aaC (d:DF):List Int:=yM d d.nx.length
def cW (d:DF) (s:Nat):Int:=(aaC d).getD s 0
theorem pg {d:DF} (h:Rt d) {s:Nat} (hs:s<d.nx.length):0<=cW d s/\cW d s<=d.nx.length:=(qK h d.nx.length).1.lo s hs
theorem jl {d:DF} (h:Rt d) {s:Nat} (hs:s<d.nx.length) (hl:cW d s<d.nx.length):Reach d (cW d s).toNat s:=(qK h d.nx.length).1.sound s hs hl
theorem rT {d:DF} (h:Rt d) {s m:Nat} (hs:s<d.nx.length) (hr:Reach d m s):cW d s<=m:=by
 by_cases hm:m<=d.nx.length
 ·exact(qK h d.nx.length).2 m s hm hs hr
 ·have:=(pg h hs).2;omega
theorem vA {d:DF} (h:Rt d) {s k:Nat} (hs:s<d.nx.length) (hk:k<d.cl.length) (hl:cW d (jh d s k)<d.nx.length):cW d s<=cW d (jh d s k)+1:=by have h1:=jl h (h.gM hs hk) hl;have h2:=rT h hs (m:=(cW d (jh d s k)).toNat+1) ⟨k,hk,h1⟩;have:=(pg h (h.gM hs hk)).1;omega
def eP (d:DF) (s c:Nat):Bool:=cW d (jh d s (cls d.cl c))==cW d s-1
def eI (d:DF) (s:Nat):Nat:=((List.range 256).find? (eP d s)).getD 0
def bP (d:DF):Nat->Nat×List Nat
 | 0=>(0,[])
 | j+1=>(jh d (bP d j).1 (cls d.cl (eI d (bP d j).1)),(bP d j).2++ [eI d (bP d j).1])
def dA (d:DF):Option (List Nat):=if cW d 0=d.nx.length then none else some (bP d (cW d 0).toNat).2
theorem find_range {p:Nat->Bool} {n c:Nat} (hc:c<n) (hp:p c=true) (hn:∀ e,e<c->p e=false):(List.range n).find? p=some c:=by rw[List.find?_eq_some_iff_getElem];refine⟨hp,c,by simpa using hc,by simp,fun j hj=>by simp[hn j hj]⟩
theorem Dv {d:DF} {s c:Nat} (hc:c<256) (hp:eP d s c=true) (hn:∀ e,e<c->eP d s e=false):eI d s=c:=by unfold eI;rw[find_range hc hp hn];rfl
theorem Gs {d:DF} {s c:Nat} (hc:c<256) (hp:eP d s c=true):eI d s<256/\eP d s (eI d s)=true/\∀ e,e<eI d s->eP d s e=false:=by
 have:∃ c,c<256/\eP d s c=true/\∀ e,e<c->eP d s e=false:=by
  induction c using Nat.strongRecOn with
  | ind c ih=>
   by_cases hx:∃ e,e<c/\eP d s e=true
   ·obtain⟨e,h1,h2⟩:=hx
    exact ih e h1 (by omega) h2
   ·exact⟨c,hc,hp,fun e he=>by
     cases hb:eP d s e with
     | false=>rfl
     | true=>exact absurd ⟨e,he,hb⟩ hx⟩
 obtain⟨c,h1,h2,h3⟩:=this;rw[Dv h1 h2 h3];exact⟨h1,h2,h3⟩
theorem Aj {d:DF} (h:Rt d) {k:Nat} (hk:k<d.cl.length):lb d.cl k<256/\cls d.cl (lb d.cl k)=k/\∀ c,c<256->cls d.cl c=k->lb d.cl k<=c:=by
 have e:=h.cl;have pT:k<(partsOf d.cl).length:=by rw[e];exact hk
 have h1:=bB (l:=partsOf d.cl) 0 pT;obtain⟨_,h2,h3,h4⟩:=gj (il d.cl (aA h1));rw[e]at h1 h2 h3 h4;refine⟨h2,(h.part.lz h2).2 ⟨_,h1,h3⟩,fun c hc Mw=>?_⟩;obtain⟨q,hq,hb⟩:=(h.part.lz hc).1 Mw;rw[h1]at hq;cases hq;show(aZ _).1<=c;by_cases hlt:c<(aZ (d.cl.getD k 0)).1
 ·have:=h4 c hlt;rw[this]at hb;cases hb
 ·omega
theorem SP {d:DF} (h:Rt d) {i j:Nat} (oY:i<j) (hj:j<d.cl.length):lb d.cl i<lb d.cl j:=by have:=oI d.cl (i:=i) (j:=j) (x:=d.cl.getD i 0) (y:=d.cl.getD j 0) (by rw[h.cl];exact bB _ (by omega)) (by rw[h.cl];exact bB _ (by omega)) oY;exact this
theorem yN {d:DF} (h:Rt d) {s:Nat} (hs:s<d.nx.length) (h0:0<cW d s) (hl:cW d s<d.nx.length):eI d s<256/\eP d s (eI d s)=true/\(∀ e,e<eI d s->eP d s e=false):=by have hr:=jl h hs hl;obtain⟨m,hm⟩:∃ m,(cW d s).toNat=m+1:=⟨(cW d s).toNat-1,by omega⟩;rw[hm]at hr;obtain⟨k,hk,Rz⟩:=hr;have h1:=rT h (h.gM hs hk) Rz;have h2:=vA h hs hk (by omega);obtain⟨b1,b2,_⟩:=Aj h hk;refine Gs b1 ?_;unfold eP;rw[b2,beq_iff_eq];omega
theorem Ak {d:DF} (h:Rt d) (hl:cW d 0<d.nx.length):∀ j:Nat,(j:Int)<=cW d 0->(bP d j).1<d.nx.length/\cW d (bP d j).1=cW d 0-j/\(bP d j).2.length=j/\∀ c∈(bP d j).2,c<256
 | 0,_=>⟨h.pos,by simp[bP],rfl,fun c hc=>by cases hc⟩
 | j+1,hj=>by
  obtain⟨a,b,c,e⟩:=Ak h hl j (by omega);obtain⟨x,y,_⟩:=yN h a (by omega) (by omega);refine⟨h.gM a (h.part.kj x),?_,by simp[bP,c],fun z hz=>?_⟩
  ·unfold eP at y
   rw[beq_iff_eq]at y;show cW d (jh d (bP d j).1 (cls d.cl (eI d (bP d j).1)))=_;omega
  ·rcases List.mem_append.1 hz with hz | hz
   ·exact e z hz
   ·simp at hz;subst hz;exact x
/-! The program: breadth first. -/
structure IZ where
 todo:List Nat
 keys:List Nat
 fr:List Int
 tU:List Nat
def Wu (d:DF) (st:IZ) (x:Nat):IZ:=
 match st.todo[x/d.cl.length]? with
 | none=>st
 | some s=>if st.fr.getD (jh d s (x%d.cl.length)) 0=0 then⟨st.todo++ [jh d s (x%d.cl.length)],st.keys++ [x],st.fr.set (jh d s (x%d.cl.length)) (s+1),st.tU.set (jh d s (x%d.cl.length)) (lb d.cl (x%d.cl.length))⟩else st
def Fq (d:DF):Nat->IZ
 | 0=>⟨[0],[0],(List.replicate d.nx.length 0).set 0 (-1),List.replicate d.nx.length 0⟩
 | x+1=>Wu d (Fq d x) x
structure Ox (d:DF) (x:Nat) (st:IZ):Prop where
 keys:st.keys.length=st.todo.length
 fr:st.fr.length=d.nx.length
 tU:st.tU.length=d.nx.length
 head:st.todo[0]? =some 0
 root:st.fr.getD 0 0= -1
 nodup:st.todo.Nodup
 lt:∀ t∈st.todo,t<d.nx.length
 mem:∀ t,t<d.nx.length->(st.fr.getD t 0≠0↔t∈st.todo)
 par:∀ j t,0<j->st.todo[j]? =some t->∃ y s,st.keys[j]? =some y/\y<x/\y/d.cl.length<j/\st.todo[y/d.cl.length]? =some s/\jh d s (y%d.cl.length)=t/\st.fr.getD t 0=s+1/\st.tU.getD t 0=lb d.cl (y%d.cl.length)
 mono:∀ i j y z,0<i->i<j->st.keys[i]? =some y->st.keys[j]? =some z->y<z
 done:∀ y s,y<x->st.todo[y/d.cl.length]? =some s->∃ j:Nat,st.todo[j]? =some (jh d s (y%d.cl.length))/\(j=0\/∃ z,st.keys[j]? =some z/\z<=y)
theorem Kn (l:List Nat) (i j:Nat) (x:Nat) (hj:i<l.length):(l.set i x).getD j 0=if j=i then x else l.getD j 0:=by
 rw[cq,List.getElem?_set];by_cases e:j=i
 ·subst e;rw[if_pos rfl,if_pos hj,if_pos rfl];rfl
 ·rw[if_neg (fun h=>e h.symm),if_neg e,cq]
theorem Oy (n i:Nat):(List.replicate n (0:Int)).getD i 0=0:=by rw[cq,List.getElem?_replicate];split<;>rfl
theorem Oz {d:DF} (h:Rt d):∀ x,Ox d x (Fq d x)
 | 0=>by
  have hp:=h.pos;have hg:∀ j,((List.replicate d.nx.length (0:Int)).set 0 (-1)).getD j 0=if j=0 then-1 else 0:=fun j=>by
   rw[vy _ _ _ _ (by simp;omega),Oy]
  refine⟨rfl,by simp[Fq],by simp[Fq],rfl,by show((List.replicate d.nx.length (0:Int)).set 0 (-1)).getD 0 0= -1;rw[hg];rfl,by simp[Fq],fun t ht=>?_,fun t ht=>?_,fun j t hj Rf=>?_,fun i j y z hi oY hy hz=>?_,fun y s hy=>by omega⟩
  ·simp[Fq]at ht;omega
  ·show((List.replicate d.nx.length (0:Int)).set 0 (-1)).getD t 0≠0↔t∈ [0]
   rw[hg];by_cases e:t=0
   ·subst e;simp
   ·simp[e]
  ·have:=(List.getElem?_eq_some_iff.1 Rf).1;simp[Fq]at this;omega
  ·have:=(List.getElem?_eq_some_iff.1 hz).1;simp[Fq]at this;omega
 | x+1=>by
  have I:=Oz h x;have hK:=h.qE;show Ox d (x+1) (Wu d (Fq d x) x);generalize Fq d x=st at I;unfold Wu;split
  ·rename_i hn
   exact⟨I.keys,I.fr,I.tU,I.head,I.root,I.nodup,I.lt,I.mem,fun j t hj ht=>by
     obtain⟨y,s,h1,h2,h3⟩:=I.par j t hj ht;exact⟨y,s,h1,by omega,h3⟩,I.mono,fun y s hy hs=>by
     by_cases e:y=x
     ·subst e;rw[hn]at hs;cases hs
     ·exact I.done y s (by omega) hs⟩
  ·rename_i s hs
   have l8:=I.lt s (aA hs);have Ct:=Nat.mod_lt x hK;have JH:=h.gM l8 Ct;have Wv:x/d.cl.length<st.todo.length:=(List.getElem?_eq_some_iff.1 hs).1;generalize ht:jh d s (x%d.cl.length)=t at*;split
   ·rename_i h0
    have Fz:t∉st.todo:=fun hm=>(I.mem t JH).2 hm h0
    have hf:∀ j,(st.fr.set t ((s:Int)+1)).getD j 0=if j=t then(s:Int)+1 else st.fr.getD j 0:=fun j=>vy _ _ _ _ (by rw[I.fr];exact JH)
    have hb:∀ j,(st.tU.set t (lb d.cl (x%d.cl.length))).getD j 0=if j=t then lb d.cl (x%d.cl.length)else st.tU.getD j 0:=fun j=>Kn _ _ _ _ (by rw[I.tU];exact JH)
    have hk:=I.keys;have hold:∀ (j u:Nat),st.todo[j]? =some u->(st.todo++ [t])[j]? =some u:=fun j u hj=>by
     rw[bJ (List.getElem?_eq_some_iff.1 hj).1];exact hj
    have UG:∀ (j u:Nat),st.keys[j]? =some u->(st.keys++ [x])[j]? =some u:=fun j u hj=>by
     rw[bJ (List.getElem?_eq_some_iff.1 hj).1];exact hj
    have SQ:(st.todo++ [t])[st.todo.length]? =some t:=by simp
    have OD:(st.keys++ [x])[st.todo.length]? =some x:=by rw[<-hk];simp
    have aaD:∀ (j u:Nat),(st.todo++ [t])[j]? =some u->st.todo[j]? =some u\/(j=st.todo.length/\u=t):=fun j u hj=>by
     by_cases hl:j<st.todo.length
     ·rw[bJ hl]at hj;exact .inl hj
     ·have h1:=(List.getElem?_eq_some_iff.1 hj).1
      simp at h1;obtain rfl:j=st.todo.length:=by omega
      rw[SQ]at hj;cases hj;exact .inr ⟨rfl,rfl⟩
    have ht0:t≠0:=fun e=>Fz (by rw[e];exact aA I.head)
    refine⟨by simp[hk],by simp[I.fr],by simp[I.tU],hold _ _ I.head,by show(st.fr.set t ((s:Int)+1)).getD 0 0= -1;rw[hf,if_neg (fun e=>ht0 e.symm)];exact I.root,?_,?_,?_,?_,?_,?_⟩
    ·show(st.todo++ [t]).Nodup
     rw[List.nodup_append];exact⟨I.nodup,by simp,fun a ha b hb e=>by simp at hb;subst hb;subst e;exact Fz ha⟩
    ·intro u hu
     rcases List.mem_append.1 hu with hu | hu
     ·exact I.lt u hu
     ·simp at hu;subst hu;exact JH
    ·intro u hu
     show(st.fr.set t ((s:Int)+1)).getD u 0≠0↔u∈st.todo++ [t];rw[hf];by_cases e:u=t
     ·subst e
      rw[if_pos rfl];exact⟨fun _=>by simp,fun _=>by omega⟩
     ·rw[if_neg e,I.mem u hu];simp[e]
    ·intro j u hj hu
     rcases aaD j u hu with hu | ⟨rfl,rfl⟩
     ·obtain⟨y,s',h1,h2,h3,h4,h5,h6,h7⟩:=I.par j u hj hu
      have hne:u≠t:=fun e=>Fz (by rw[<-e];exact aA hu)
      refine⟨y,s',UG _ _ h1,by omega,h3,hold _ _ h4,h5,?_,?_⟩
      ·show(st.fr.set t ((s:Int)+1)).getD u 0=_
       rw[hf,if_neg hne];exact h6
      ·show(st.tU.set t (lb d.cl (x%d.cl.length))).getD u 0=_
       rw[hb,if_neg hne];exact h7
     ·refine⟨x,s,OD,by omega,Wv,hold _ _ hs,ht,?_,?_⟩
      ·show(st.fr.set u ((s:Int)+1)).getD u 0=_
       rw[hf,if_pos rfl]
      ·show(st.tU.set u (lb d.cl (x%d.cl.length))).getD u 0=_
       rw[hb,if_pos rfl]
    ·intro i j y z hi oY hy hz
     have Mp:j<(st.keys++ [x]).length:=(List.getElem?_eq_some_iff.1 hz).1;simp only[aQ,List.length_cons,List.length_nil]at Mp;have iR:i<st.keys.length:=by omega
     replace hy:(st.keys++ [x])[i]? =some y:=hy;replace hz:(st.keys++ [x])[j]? =some z:=hz;rw[bJ iR]at hy;by_cases hl:j<st.keys.length
     ·rw[bJ hl]at hz
      exact I.mono i j y z hi oY hy hz
     ·obtain rfl:j=st.todo.length:=by omega
      rw[OD]at hz;cases hz;have hti:i<st.todo.length:=by omega
      obtain⟨y',s',h1,h2,_⟩:=I.par i _ hi (aC hti);rw[hy]at h1;cases h1;exact h2
    ·intro y s' hy hs'
     replace hs':(st.todo++ [t])[y/d.cl.length]? =some s':=hs';have hyx:y/d.cl.length<=x/d.cl.length:=Nat.div_le_div_right (by omega);rw[bJ (by omega)]at hs';by_cases e:y=x
     ·subst e
      rw[hs]at hs';cases hs';exact⟨st.todo.length,by rw[ht];exact SQ,.inr ⟨y,OD,aD _⟩⟩
     ·obtain⟨j,h1,h2⟩:=I.done y s' (by omega) hs'
      refine⟨j,hold _ _ h1,?_⟩;rcases h2 with h2 | ⟨z,h2,h3⟩
      ·exact .inl h2
      ·exact .inr ⟨z,UG _ _ h2,h3⟩
   ·rename_i h0
    refine⟨I.keys,I.fr,I.tU,I.head,I.root,I.nodup,I.lt,I.mem,fun j u hj hu=>?_,I.mono,fun y s' hy hs'=>?_⟩
    ·obtain⟨y,s',h1,h2,h3⟩:=I.par j u hj hu
     exact⟨y,s',h1,by omega,h3⟩
    ·by_cases e:y=x
     ·subst e
      rw[hs]at hs';cases hs';have hm:t∈st.todo:=(I.mem t JH).1 h0;obtain⟨j,hj⟩:=List.getElem?_of_mem hm;refine⟨j,by rw[ht];exact hj,?_⟩;by_cases j0:j=0
      ·exact .inl j0
      ·obtain⟨z,s',h1,h2,_⟩:=I.par j t (by omega) hj
       exact .inr ⟨z,h1,by omega⟩
     ·exact I.done y s' (by omega) hs'
theorem Dw:∀ (n:Nat) (l:List Nat),l.Nodup->(∀ t∈l,t<n)->l.length<=n
 | 0,l,_,h=>by
  cases l with
  | nil=>simp
  | cons x r=>have:=h x (by simp);omega
 | n+1,l,hd,h=>by
  have h1:=Dw n (l.erase n) (hd.erase n) (fun t ht=>by
   have h2:=(hd.mem_erase_iff).1 ht;have:=h t h2.2;have:=h2.1
   omega)
  by_cases hm:n∈l
  ·rw[List.length_erase_of_mem hm]at h1;omega
  ·rw[List.erase_of_not_mem hm]at h1;omega
theorem Ox.len {d:DF} {x:Nat} {st:IZ} (h:Ox d x st):st.todo.length<=d.nx.length:=Dw _ _ h.nodup h.lt
theorem Gt {d:DF} (h:Rt d) {i:Nat} {st:IZ} (I:Ox d (i*d.cl.length) st) (hi:st.todo.length<=i) (ha:∀ (j t:Nat),st.todo[j]? =some t->acc d t=false):dA d=none:=by
 have key:∀ (m s:Nat),s∈st.todo->¬Reach d m s:=by
  intro m;induction m with
  | zero=>
   intro s hs hr;obtain⟨j,hj⟩:=List.getElem?_of_mem hs;have h1:=ha j s hj;rw[show acc d s=true from hr]at h1;cases h1
  | succ m ih=>
   rintro s hs ⟨k,hk,hr⟩;obtain⟨j,hj⟩:=List.getElem?_of_mem hs;have Mp:=(List.getElem?_eq_some_iff.1 hj).1;have e1:(j*d.cl.length+k)/d.cl.length=j:=by
    rw[Nat.mul_comm,Nat.mul_add_div h.qE,Nat.div_eq_of_lt hk,Nat.add_zero]
   have e2:(j*d.cl.length+k)%d.cl.length=k:=by rw[Nat.mul_comm,Nat.mul_add_mod,Nat.mod_eq_of_lt hk]
   have hlt:j*d.cl.length+k<i*d.cl.length:=by have:(j+1)*d.cl.length<=i*d.cl.length:=Nat.mul_le_mul_right _ (by omega);rw[Nat.succ_mul]at this;omega
   obtain⟨p,h1,_⟩:=I.done (j*d.cl.length+k) s hlt (by rw[e1];exact hj);rw[e2]at h1;exact ih _ (aA h1) hr
 unfold dA;have Fj:=pg h h.pos;by_cases hl:cW d 0<d.nx.length
 ·exact absurd (jl h h.pos hl) (key _ 0 (aA I.head))
 ·rw[if_pos (by omega)]
structure I0 (d:DF) (st:IZ) (m i:Nat) (q:Nat->Nat):Prop where
 zero:q 0=0
 last:q m=i
 step:∀ l,l<m->q l<q (l+1)/\∃ y,st.keys[q (l+1)]? =some y/\y/d.cl.length=q l
theorem OE {d:DF} {x:Nat} {st:IZ} (I:Ox d x st):∀ (i:Nat),i<st.todo.length->∃ m q,I0 d st m i q:=by
 intro i;induction i using Nat.strongRecOn with
 | ind i ih=>
  intro hi;by_cases h0:i=0
  ·exact⟨0,fun _=>0,rfl,h0.symm,fun l hl=>by omega⟩
  ·obtain⟨y,s,h1,h2,h3,h4,_⟩:=I.par i _ (by omega) (aC hi)
   obtain⟨m,q,c⟩:=ih (y/d.cl.length) h3 (by omega);refine⟨m+1,fun l=>if l<=m then q l else i,?_,?_,fun l hl=>?_⟩
   ·show(if 0<=m then q 0 else i)=0
    rw[if_pos (Nat.zero_le _)];exact c.zero
   ·show(if m+1<=m then q (m+1)else i)=i
    rw[if_neg (by omega)]
   ·show(if l<=m then q l else i)<(if l+1<=m then q (l+1)else i)/\∃ y,st.keys[if l+1<=m then q (l+1)else i]? =some y/\y/d.cl.length=(if l<=m then q l else i)
    rw[if_pos (show l<=m by omega)];by_cases e:l+1<=m
    ·rw[if_pos e];exact c.step l (by omega)
    ·rw[if_neg e]
     obtain rfl:l=m:=by omega
     rw[c.last];exact⟨h3,y,h1,rfl⟩
theorem I0.mono {d:DF} {st:IZ} {m i:Nat} {q:Nat->Nat} (c:I0 d st m i q):∀ l,l<=m->l<=q l/\q l<=i:=by
 have h1:∀ l,l<=m->l<=q l:=by
  intro l;induction l with
  | zero=>intro _;omega
  | succ l ih=>intro hl;have:=(c.step l (by omega)).1;have:=ih (by omega);omega
 have h2:∀ r l,l+r=m->q l<=i:=by
  intro r;induction r with
  | zero=>intro l hl;rw[<-c.last,show l=m by omega];exact aD _
  | succ r ih=>intro l hl;have:=ih (l+1) (by omega);have:=(c.step l (by omega)).1;omega
 exact fun l hl=>⟨h1 l hl,h2 (m-l) l (by omega)⟩
section
variable {d:DF} (h:Rt d) {i:Nat} {st:IZ} (I:Ox d (i*d.cl.length) st) (hi:i<st.todo.length) (ha:∀ (j t:Nat),j<i→st.todo[j]? =some t→acc d t=false) {m:Nat} {q:Nat→Nat} (c:I0 d st m i q)
include h I c hi
omit hi in
theorem s7 {l p k t y:Nat} (hl:l<m) (hp:p<i) (hk:k<d.cl.length) (ht:st.todo[p]? =some t) (hy:st.keys[q (l+1)]? =some y) (hlt:p*d.cl.length+k<y):∃ p':Nat,st.todo[p']? =some (jh d t k)/\p'<q (l+1):=by
 have e1:(p*d.cl.length+k)/d.cl.length=p:=by rw[Nat.mul_comm,Nat.mul_add_div h.qE,Nat.div_eq_of_lt hk,Nat.add_zero]
 have e2:(p*d.cl.length+k)%d.cl.length=k:=by rw[Nat.mul_comm,Nat.mul_add_mod,Nat.mod_eq_of_lt hk]
 have hx:p*d.cl.length+k<i*d.cl.length:=by have:(p+1)*d.cl.length<=i*d.cl.length:=Nat.mul_le_mul_right _ (by omega);rw[Nat.succ_mul]at this;omega
 obtain⟨p',h1,h2⟩:=I.done _ t hx (by rw[e1];exact ht);rw[e2]at h1;refine⟨p',h1,?_⟩;have hq:=(c.step l hl).1;rcases h2 with h2 | ⟨z,h2,h3⟩
 ·omega
 ·rcases Nat.lt_trichotomy p' (q (l+1))with g | g | g
  ·exact g
  ·rw[g,hy]at h2;cases h2;omega
  ·have:=I.mono _ _ _ _ (by omega) g hy h2;omega
include ha
omit hi in
theorem vB:∀ (r j p t:Nat),j+r<m->st.todo[p]? =some t->p<q (j+1)->¬Reach d r t
 | 0,j,p,t,hj,ht,hp,hr=>by
  have:=(c.mono (j+1) (by omega)).2;have:=ha p t (by omega) ht;rw[show acc d t=true from hr]at this;cases this
 | r+1,j,p,t,hj,ht,hp,⟨k,hk,hr⟩=>by
  have hle:=(c.mono (j+1) (by omega)).2;obtain⟨_,y,hy,hyq⟩:=c.step (j+1) (by omega);have hlt:p*d.cl.length+k<y:=by
   have h1:(p+1)*d.cl.length<=q (j+1)*d.cl.length:=Nat.mul_le_mul_right _ (by omega);rw[Nat.succ_mul]at h1;have h2:q (j+1)*d.cl.length<=y:=by rw[<-hyq];exact Nat.div_mul_le_self _ _
   omega
  obtain⟨p',h1,h2⟩:=s7 h I c (l:=j+1) (by omega) (by omega) hk ht hy hlt;exact vB r (j+1) p' _ (by omega) h1 h2 hr
variable {s:Nat} (hs:st.todo[i]? =some s) (lF:acc d s=true)
omit h ha in
theorem kN {l:Nat} (hl:l<=m):st.todo[q l]? =some (st.todo.getD (q l) 0)/\st.todo.getD (q l) 0<d.nx.length:=by have hle:=(c.mono l hl).2;have e:=bB (l:=st.todo) 0 (i:=q l) (by omega);exact⟨e,I.lt _ (aA e)⟩
omit h ha in
theorem lG {l:Nat} (hl:l<m):∃ y,st.keys[q (l+1)]? =some y/\y/d.cl.length=q l/\jh d (st.todo.getD (q l) 0) (y%d.cl.length)=st.todo.getD (q (l+1)) 0/\ st.fr.getD (st.todo.getD (q (l+1)) 0) 0=st.todo.getD (q l) 0+1/\st.tU.getD (st.todo.getD (q (l+1)) 0) 0=lb d.cl (y%d.cl.length):=by obtain⟨h0,y,h1,h2⟩:=c.step l hl;obtain⟨y',s',g1,g2,g3,g4,g5,g6,g7⟩:=I.par (q (l+1)) _ (by omega) (kN I hi c (l:=l+1) (by omega)).1;rw[h1]at g1;cases g1;rw[h2]at g4;rw[(kN I hi c (l:=l) (by omega)).1]at g4;cases g4;exact⟨y,h1,h2,g5,g6,g7⟩
include hs lF
omit ha in
theorem mY:∀ r l,l+r=m->Reach d r (st.todo.getD (q l) 0)
 | 0,l,hl=>by
  obtain rfl:l=m:=by omega
  rw[c.last,getD_some hs];exact lF
 | r+1,l,hl=>by
  obtain⟨y,_,_,h3,_⟩:=lG I hi c (l:=l) (by omega);refine⟨y%d.cl.length,Nat.mod_lt _ h.qE,?_⟩;rw[h3];exact mY r (l+1) (by omega)
omit h ha hs lF in
theorem uG:m<d.nx.length:=by have h1:=(c.mono m (aD _)).1;have h2:=I.len;rw[c.last]at h1;omega
theorem vC:cW d 0=m:=by
 have h0:st.todo.getD (q 0) 0=0:=by rw[c.zero];exact getD_some I.head
 have h1:=mY h I hi c hs lF m 0 (by omega);rw[h0]at h1;have h2:=rT h h.pos h1;have hm:=uG I hi c;have h3:=jl h h.pos (by omega);have h4:=pg h h.pos;by_cases hlt:(cW d 0).toNat<m
 ·exact absurd h3 (vB h I ha c _ 0 0 0 (by omega) I.head (show 0<q 1 by have:=(c.mono 1 (by omega)).1;omega))
 ·omega
theorem rU {l:Nat} (hl:l<=m):cW d (st.todo.getD (q l) 0)=(m:Int)-l:=by
 have hm:=uG I hi c;have up:∀ l,l<=m->cW d (st.todo.getD (q l) 0)<=(m:Int)-l:=fun l hl=>by
  have:=rT h (kN I hi c hl).2 (mY h I hi c hs lF (m-l) l (by omega));omega
 have lo:∀ l,l<=m->(m:Int)<=cW d (st.todo.getD (q l) 0)+l:=by
  intro l;induction l with
  | zero=>
   intro _;rw[c.zero,getD_some I.head,vC h I hi ha c hs lF];omega
  | succ l ih=>
   intro hl;have h1:=ih (by omega);obtain⟨y,_,_,h3,_⟩:=lG I hi c (l:=l) (by omega)
   have h4:=vA h (kN I hi c (l:=l) (by omega)).2 (k:=y%d.cl.length) (Nat.mod_lt _ h.qE) (by
    rw[h3];have:=up (l+1) hl;omega)
   rw[h3]at h4;omega
 have:=up l hl;have:=lo l hl;omega
theorem vD {l:Nat} (hl:l<m):∃ y,st.keys[q (l+1)]? =some y/\eI d (st.todo.getD (q l) 0)=lb d.cl (y%d.cl.length)/\jh d (st.todo.getD (q l) 0) (cls d.cl (lb d.cl (y%d.cl.length)))=st.todo.getD (q (l+1)) 0/\lb d.cl (y%d.cl.length)<256:=by
 obtain⟨y,h1,h2,h3,_⟩:=lG I hi c hl;have hk:=Nat.mod_lt y h.qE;obtain⟨b1,b2,b3⟩:=Aj h hk;refine⟨y,h1,Dv b1 ?_ fun e he=>?_,by rw[b2];exact h3,b1⟩
 ·unfold eP
  rw[b2,h3,rU h I hi ha c hs lF (l:=l+1) (by omega),rU h I hi ha c hs lF (l:=l) (by omega),beq_iff_eq];omega
 ·cases hb:eP d (st.todo.getD (q l) 0) e with
  | false=>rfl
  | true=>
   exfalso;unfold eP at hb;rw[beq_iff_eq,rU h I hi ha c hs lF (l:=l) (by omega)]at hb;have UH:e<256:=by omega
   have pT:=h.part.kj UH;obtain⟨_,_,b3'⟩:=Aj h pT;have hle:=b3' e UH rfl;have hlt:cls d.cl e<y%d.cl.length:=by
    rcases Nat.lt_trichotomy (cls d.cl e) (y%d.cl.length)with g | g | g
    ·exact g
    ·rw[g]at hle;omega
    ·have:=SP h g pT;omega
   have hm:=uG I hi c;have hs':=(kN I hi c (l:=l) (by omega));have hr:=jl h (h.gM hs'.2 pT) (by omega);have hql:=(c.mono (l+1) (by omega)).2;have Mx:=(c.step l hl).1;have hy:q l*d.cl.length+y%d.cl.length=y:=by rw[<-h2,Nat.mul_comm];exact Nat.div_add_mod y _
   obtain⟨p',g1,g2⟩:=s7 h I c hl (p:=q l) (by omega) pT hs'.1 h1 (by omega);exact vB h I ha c (cW d (jh d (st.todo.getD (q l) 0) (cls d.cl e))).toNat l p' _ (by omega) g1 g2 hr
end
theorem Gu {d:DF} (h:Rt d) {i s:Nat} {st:IZ} (I:Ox d (i*d.cl.length) st) (hs:st.todo[i]? =some s) (ha:∀ (j t:Nat),j<i->st.todo[j]? =some t->acc d t=false) (lF:acc d s=true): ∃ (m:Nat) (ss bs:Nat->Nat),ss 0=0/\ss m=s/\(∀ l,l<m->st.fr.getD (ss (l+1)) 0=ss l+1/\st.tU.getD (ss (l+1)) 0=bs l/\bs l<256)/\(∀ l,l<=m->ss l<d.nx.length)/\m<d.nx.length/\dA d=some ((List.range m).map bs):=by
 have hi:=(List.getElem?_eq_some_iff.1 hs).1;obtain⟨m,q,c⟩:=OE I i hi;have hm:=uG I hi c;have aaE:∀ l,l<=m->(bP d l).1=st.todo.getD (q l) 0/\(bP d l).2=(List.range l).map fun j=>eI d (st.todo.getD (q j) 0):=by
  intro l;induction l with
  | zero=>intro _;exact⟨by rw[c.zero,getD_some I.head];rfl,rfl⟩
  | succ l ih=>
   intro hl;obtain⟨e1,e2⟩:=ih (by omega);obtain⟨y,_,g2,g3,_⟩:=vD h I hi ha c hs lF (l:=l) (by omega);refine⟨?_,?_⟩
   ·show jh d (bP d l).1 (cls d.cl (eI d (bP d l).1))=_
    rw[e1,g2];exact g3
   ·show(bP d l).2++ [eI d (bP d l).1]=_
    rw[e1,e2,List.range_succ,List.map_append];rfl
 refine⟨m,fun l=>st.todo.getD (q l) 0,fun l=>eI d (st.todo.getD (q l) 0),?_,?_,fun l hl=>?_,fun l hl=>(kN I hi c hl).2,hm,?_⟩
 ·show st.todo.getD (q 0) 0=0
  rw[c.zero];exact getD_some I.head
 ·show st.todo.getD (q m) 0=s
  rw[c.last];exact getD_some hs
 ·obtain⟨y,h1,_,_,h4,h5⟩:=lG I hi c hl
  obtain⟨y',h1',g2,_,g4⟩:=vD h I hi ha c hs lF hl;rw[h1]at h1';cases h1';show st.fr.getD (st.todo.getD (q (l+1)) 0) 0=st.todo.getD (q l) 0+1/\st.tU.getD (st.todo.getD (q (l+1)) 0) 0=eI d (st.todo.getD (q l) 0)/\eI d (st.todo.getD (q l) 0)<256;exact⟨h4,by rw[g2];exact h5,by rw[g2];exact g4⟩
 ·unfold dA
  have hf:=vC h I hi ha c hs lF;rw[if_neg (by omega),hf,Int.toNat_natCast,(aaE m (aD _)).2]
end
section
open Go Go.ChangeShapes Go.WideShapes Go.ChangeAt Go.RowKit Go.Deep
section
variable {H:Type} {enc:TypeId×Value→H} {W:World}
theorem Ko {P:Program} {ts:List TypeId} {ds:List (DataW H)} (h:(DataW.weightsEach P ts ds).all (· <=reachBytes)=true) {j:Nat} {t:TypeId} {d:DataW H} (ht:ts[j]? =some t) (hd:ds[j]? =some d):∀ n∈d.weights P t,n<=reachBytes:=fun n hn=>by
 simpa using List.all_eq_true.1 h _ (DataW.weights_mem_each ht hd n hn)
theorem oM {P:Program} {e:TypeId} :∀ {l:List (DataW H)} {d:DataW H},d∈l->∀ n∈d.weights P e,n∈DataW.weightsAll P e l
 | x::l,d,h,n,hn=>by
  simp only[DataW.weightsAll,List.mem_append];rcases List.mem_cons.1 h with rfl | h
  ·exact .inl hn
  ·exact .inr (oM h n hn)
end
end
section
open Go Go.RowKit Go.Shelf Go.Maps
attribute [local go_sem] encS
def fE (l:List Nat):Nat->List Nat
 | 0=>l
 | i+1=>((fE l i).set i ((fE l i).getD (l.length-1-i) 0)).set (l.length-1-i) ((fE l i).getD i 0)
theorem nP (l:List Nat):∀ i,(fE l i).length=l.length
 | 0=>rfl
 | i+1=>by simp[fE,nP l i]
theorem yO (l:List Nat):∀ i,2*i<=l.length->∀ k,k<l.length->(fE l i)[k]? =if k<i\/l.length-1-k<i then l[l.length-1-k]? else l[k]?
 | 0,_,k,_=>by simp[fE]
 | i+1,h,k,hk=>by
  have ih:=yO l i (by omega);have hl:=nP l i;have hi:(fE l i).getD i 0=l.getD i 0:=by rw[cq,ih i (by omega),if_neg (by omega),cq]
  have hj:(fE l i).getD (l.length-1-i) 0=l.getD (l.length-1-i) 0:=by rw[cq,ih _ (by omega),if_neg (by omega),cq]
  show(((fE l i).set i ((fE l i).getD (l.length-1-i) 0)).set (l.length-1-i) ((fE l i).getD i 0))[k]? =_;rw[hi,hj];by_cases e1:k=l.length-1-i
  ·subst e1
   rw[List.getElem?_set_self (by simp[hl];omega),if_pos (by omega),show l.length-1-(l.length-1-i)=i by omega,bB 0 (by omega)]
  ·rw[List.getElem?_set_ne (fun h=>e1 h.symm)]
   by_cases e2:k=i
   ·subst e2
    rw[List.getElem?_set_self (by omega),if_pos (by omega),bB 0 (by omega)]
   ·rw[List.getElem?_set_ne (fun h=>e2 h.symm),ih k hk]
    by_cases h3:k<i\/l.length-1-k<i
    ·rw[if_pos h3,if_pos (by omega)]
    ·rw[if_neg h3,if_neg (by omega)]
theorem Kp (l:List Nat) {i:Nat} (h1:2*i<=l.length) (h2:l.length<=2*i+1):fE l i=l.reverse:=by
 apply List.ext_getElem?;intro k;by_cases hk:k<l.length
 ·rw[yO l i h1 k hk,List.getElem?_reverse hk]
  split
  ·rfl
  ·rename_i h3
   rw[show l.length-1-k=k by omega]
 ·rw[dD (by rw[nP];omega),dD (by simp;omega)]
theorem SR (base:Nat) (v:Value) (l:List Nat) (hl:l.length<=1000000) (w:World) (h:w.ownsRow base 5 1 v l.length (l.map eN)): ag 91 #[v] w fun e w'=>e=.returned (.tuple #[])/\w'.ownsRow base 5 1 v l.length (l.reverse.map eN)/\ae (fun x=>v.ownBlock≠some x) w w':=by
 obtain⟨ad,cap,rfl⟩:=ownsRow_form h;obtain⟨n,hn⟩:=ah l.length;rw[<-hn]at h hl ⊢;have H:=hid h;have HN:=hid hn;clear h hn;go_enter Tryz.func91,Tryz.ntmps91;go_wp2;go_loopw [2,3] (fun u v wr=>∃ (i:Nat) (jz:Int),2*i<=n/\u=.int .i64 i/\v=.int .i64 jz/\jz=(n:Int)-1-i/\wr.ownsRow base 5 1 (.slice ad n cap) n ((fE l i).map eN)/\ae (fun x=>(Value.slice ad n cap).ownBlock≠some x) w wr) (fun i _ _=>n-(intOf i).toNat);case atStart=>exact⟨0,_,by omega,rfl,rfl,by omega,H,ae.refl _ _⟩
 case round=>
  obtain⟨i,jz,hi,rfl,rfl,hj,hr,hx⟩:=hrel;obtain⟨wo,rfl⟩:=ah (wr:World);by_cases hlt:(i:Int)<jz
  ·obtain⟨j,rfl⟩:∃ j:Nat,jz=j:=⟨jz.toNat,by omega⟩
   have UI:j=n-1-i:=by omega
   obtain⟨g,u1,rfl,hg1,hg2,hu1,c1,f1⟩:=j6 hr (i:=i) (by omega);obtain⟨g',u2,e2,_,_,hu2,c2,f2⟩:=j6 hr (i:=j) (by omega);cases e2;have hlen:=nP l i;rw[bH,bB 0 (by rw[hlen, <-HN.out];omega)]at hu1 hu2;obtain⟨x,hxx⟩:=ah ((fE l i).getD i 0);obtain⟨y,hyy⟩:=ah ((fE l i).getD j 0);rw[<-hxx]at hu1;rw[<-hyy]at hu2;cases hu1;cases hu2;replace c1:wo.cell? ⟨g,i,none⟩=some (.int .u8 x):=c1;replace c2:wo.cell? ⟨g,j,none⟩=some (.int .u8 y):=c2;have HR:=hid hr;have HX:=hid hx;have OG:=hid hxx;have HYY:=hid hyy;have HJ:=hid UI;have l4:(i:Int)<n:=by omega
   have afq:(j:Int)<n:=by omega
   clear hr hx hlen hxx hyy UI hj;go_wp2_with fail
   go_region
   go_wp2;go_roundw;case rel=>
    have kg:ae (· ≠g) wo ((wo.setCell ⟨g,i,none⟩ (.int .u8 y)).setCell ⟨g,j,none⟩ (.int .u8 x)).drew:=(((ae.refl (· ≠g) wo).setCell (p:=⟨g,i,none⟩) (fun h=>h rfl) _).setCell (p:=⟨g,j,none⟩) (fun h=>h rfl) _).drew;have hrow:=((HR.stored i (.int .u8 y)).1.stored j (.int .u8 x)).1;have e1:(((fE l i).map eN).set i (.int .u8 y)).set j (.int .u8 x)=(fE l (i+1)).map eN:=by
     have hj:l.length-1-i=j:=by rw[HJ.out,HN.out]
     show _=(((fE l i).set i ((fE l i).getD (l.length-1-i) 0)).set (l.length-1-i) ((fE l i).getD i 0)).map eN;rw[hj, <-OG.out, <-HYY.out,List.map_set,List.map_set];rfl
    rw[e1]at hrow;refine⟨i+1,_,by have:=HJ.out;omega,by go_num,rfl,by have:=HJ.out;push_cast;omega,?_,HX.tr (kg.mono fun x hx e=>hx (by rw[e];rfl))⟩;exact hrow
   case measure=>simp[intOf];omega
  ·have HR:=hid hr
   have HX:=hid hx;have he:fE l i=l.reverse:=Kp l (by rw[<-HN.out];exact hi) (by rw[<-HN.out];omega);rw[he]at HR;clear hr hx hj;go_wp2;refine bodyPost_end (v:=.tuple #[]) (by simp[results,Tryz.results91,go_sem]) rfl ⟨rfl,?_,HX⟩;rw[<-List.map_reverse];exact HR
end
section
open Go Go.RowKit Go.Shelf Go.Maps
attribute [local go_sem] encS
theorem Ww {d:DF} {st:IZ} {i s k:Nat} (hs:st.todo[i]? =some s) (hk:k<d.cl.length):Wu d st (i*d.cl.length+k)=if st.fr.getD (jh d s k) 0=0 then⟨st.todo++ [jh d s k],st.keys++ [i*d.cl.length+k],st.fr.set (jh d s k) (s+1),st.tU.set (jh d s k) (lb d.cl k)⟩else st:=by
 have h1:(i*d.cl.length+k)/d.cl.length=i:=by rw[Nat.mul_comm,Nat.mul_add_div (by omega),Nat.div_eq_of_lt hk,Nat.add_zero]
 have h2:(i*d.cl.length+k)%d.cl.length=k:=by rw[Nat.mul_comm,Nat.mul_add_mod,Nat.mod_eq_of_lt hk]
 unfold Wu;rw[h1,h2,hs]
def aaF:Value->Nat
 | .slice _ n _=>n
 | _=>0
theorem Dx (v:Value) (d:DF) (rt:Rt d) (sm:Sm d) (w:World) (h:iJ w v d): ag 61 #[v] w fun e w'=>∃ u,e=.returned (.tuple #[u,.bool (dA d).isSome,.int .i64 0])/\w'.ownsRow w.heap.size 5 1 u ((dA d).getD []).length (((dA d).getD []).map eN)/\aa w w':=by
 obtain⟨iI,Cb,my,mz,mA⟩:=info_parts Tryz.qB;obtain⟨iB,Za,Kq,Kr,Ks⟩:=info_parts Tryz.FZ;have CR:Hid (∀ W,aa w W->ag 48 #[v] W fun e w'=>e=.returned (.bool true)/\aa W w'):=fun W hW=>by
  have:=ji v d W (h.below hW) sm;rwa[(aP d).2 rt]at this
 obtain⟨v0,v1,v2,rfl,h0,h1,h2⟩:=h;obtain⟨a0,c0,rfl⟩:=h0.1.form;obtain⟨a1,c1,rfl⟩:=h1.form;obtain⟨a2,c2,rfl⟩:=h2.form;have Zb:=rt.mr;rw[Zb]at h2 CR ⊢;obtain⟨n,hn⟩:=ah d.nx.length;obtain⟨K,hK⟩:=ah d.cl.length;have hn4:n<=4000:=by have:=rt.le;omega
 have pW:1<=n:=by have:=rt.pos;omega
 have hK2:K<=256:=by have:=rt.Sn;omega
 have hK1:0<K:=by have:=rt.qE;omega
 rw[<-hn]at h1 h2 CR ⊢;rw[<-hK]at h0 CR ⊢;have H0:=hid h0.1;have H1:=hid h1;have H2:=hid h2;have HN:=hid hn;have HK:=hid hK;have HMR:=hid Zb;have RT:=hid rt;have BO:Hid (∀ x,Ox d x (Fq d x)):=hid fun x=>Oz rt x
 clear h0 h1 h2 hn hK Zb rt sm;go_enter Tryz.func61,Tryz.ntmps61;go_wp2_with fail
 refine ax ?_;intro V hV;have B1:Hid (aq V w.heap.size #[.slice a0 K c0,.slice a1 n c1,.slice a2 n c2] 73):=by rw[hV];exact aq.new w _ _
 have X1:Hid (aa w V):=by rw[hV];exact((Ext.refl w).alloc _).below
 clear hV;obtain⟨⟨k0,k1,k2⟩,_⟩:=B1.three;refine wp_scope_straight ?_;go_wp2_with fail
 refine(CR V X1).mono ?_;rintro e w2 ⟨rfl,hx⟩;have C1:=hid (B1.below hx B1.lt);have YE:w.heap.size<w2.heap.size:=C1.lt;have X2:=hid (X1.trans (hx.mono X1.size));clear hx B1 X1 CR k0 k1 k2;obtain⟨⟨k0,k1,k2⟩,_⟩:=C1.three;go_wp2_with (at_make;refine wpList_make_full _ rfl (.tmp 20) (.tmp 20) 51 rfl w2.heap.size 3 iI (.int .i64 0) 1 Tryz.underlying51 Cb my mz .i64 .i64 _ _ n rfl rfl rfl rfl (by rw[mA];omega) (by unfold maxLen;omega) (aD _) ?_;intro w3 hr hg;refine Hid.out ?_);refine hid ?_;have hs3:w2.heap.size<w3.heap.size:=by
  rcases hr.2 with⟨h5,_⟩ | ⟨g,c,cur,h5,_,h6,_⟩
  ·cases h5
  ·cases h5;exact(Array.getElem?_eq_some_iff.1 h6).1
 have hb3:aa w2 w3:=(ae.bA hg fun x hx=>⟨hx,fun e=>by cases e⟩:ae (· <w2.heap.size) w2 w3).below;rw[JZ]at hr;have R3:=hid hr;have D1:=hid (C1.below hb3 C1.lt);have X3:=hid (X2.trans (hb3.mono X2.size));clear hr hg hb3 k0 k1 k2 C1;obtain⟨⟨k0,k1,k2⟩,_⟩:=D1.three;go_wp2_with (at_make;refine wpList_make_full _ rfl (.tmp 24) (.tmp 24) 55 rfl w3.heap.size 5 iB (.int .u8 0) 1 Tryz.underlying55 Za Kq Kr .i64 .i64 _ _ n rfl rfl rfl rfl (by rw[Ks];omega) (by unfold maxLen;omega) (aD _) ?_;intro w4 hr hg;refine Hid.out ?_);refine hid ?_;have UJ:w3.heap.size<w4.heap.size:=by
  rcases hr.2 with⟨h5,_⟩ | ⟨g,c,cur,h5,_,h6,_⟩
  ·cases h5
  ·cases h5;exact(Array.getElem?_eq_some_iff.1 h6).1
 have hb4:aa w3 w4:=(ae.bA hg fun x hx=>⟨hx,fun e=>by cases e⟩:ae (· <w3.heap.size) w3 w4).below;rw[Gl]at hr;have Y4:=hid hr;have R4:=hid (ay R3 hb4);have E1:=hid (D1.below hb4 D1.lt);have X4:=hid (X3.trans (hb4.mono X3.size));clear hr hg hb4 k0 k1 k2 D1 R3 X3 X2;obtain⟨g5,hg5⟩:=ah w2.heap.size;obtain⟨g6,hg6⟩:=ah w3.heap.size;rw[<-hg5]at R4 hs3 YE ⊢;rw[<-hg6]at Y4 hs3 UJ ⊢;clear hg5 hg6;have f0:∀ o,(w4.alloc o).frozen? ⟨g5,0,none⟩=false:=fun o=>(R4.alloc o).frozenAt 0
 have f1:∀ o,(w4.alloc o).cell? ⟨g5,0,none⟩=some (.int .i64 0):=fun o=>by
  rw[(R4.alloc o).cellAt 0 (by omega),bH,List.getElem?_replicate,if_pos (by omega)];rfl
 have hni:(0:Int)<n:=by omega
 go_wp2;clear f0 f1;go_step3;go_wp2;go_loopw [7,8,9] (fun todo fd iv wr=>fd=.int .i64 (-1)/\∃ (i:Nat) (st:IZ),iv=.int .i64 i/\st=Fq d (i*K)/\i<=st.todo.length/\(∀ (j t:Nat),j<i->st.todo[j]? =some t->acc d t=false)/\wr.ownsRow g5 3 1 (.slice (some ⟨g5,0,none⟩) n n) n (st.fr.map aV)/\wr.ownsRow g6 5 1 (.slice (some ⟨g6,0,none⟩) n n) n (st.tU.map eN)/\wr.ownsRow w4.heap.size 3 1 todo st.todo.length (st.todo.map VR)/\ae (fun x=>x<w4.heap.size/\x≠g5/\x≠g6) w4 wr) (fun _ _ iv _=>n-(intOf iv).toNat);case atStart=>
  have hb0:Fq d (0*K)=⟨[0],[0],(List.replicate n 0).set 0 (-1),List.replicate n 0⟩:=by rw[Nat.zero_mul,HN.out];rfl
  have kg:ae (· ≠g5) (w4.alloc (.cells #[.int .i64 0] 3)) ((w4.alloc (.cells #[.int .i64 0] 3)).setCell ⟨g5,0,none⟩ (.int .i64 (-1))):=(ae.refl (· ≠g5) _).setCell (p:=⟨g5,0,none⟩) (fun h=>h rfl) _;refine⟨rfl,0,⟨[0],[0],(List.replicate n 0).set 0 (-1),List.replicate n 0⟩,rfl,hb0.symm,Nat.zero_le _,fun j t hj=>by omega,?_,?_,?_,((ae.refl _ w4).alloc (fun x hx=>hx.1) _).tr (kg.mono fun x hx=>hx.2.1)⟩
  ·have h5:=((R4.alloc (.cells #[.int .i64 0] 3)).stored 0 (.int .i64 (-1))).1
   rw[show(((List.replicate n (0:Int)).set 0 (-1)).map aV)=((List.replicate n (0:Int)).map aV).set 0 (.int .i64 (-1)) by rw[List.map_set];rfl];exact h5
  ·exact aS (Y4.alloc _) kg fun x h1 _ e=>by omega
  ·refine aS (w:=w4.alloc (.cells #[.int .i64 0] 3)) (base:=w4.heap.size) ⟨rfl,.inr ⟨_,1, #[.int .i64 0],rfl,aD _,aq.new _ _ _,aD _,by unfold maxLen;omega,rfl,rfl⟩⟩ kg fun x h1 _ e=>by omega
 case round=>
  obtain⟨rfl,i,st,rfl,hst,hi,ha,oC,hby,htd,hx⟩:=hrel;obtain⟨wo,rfl⟩:=ah (wr:World);have I:Hid (Ox d (i*d.cl.length) st):=hid (by rw[hst,HK.out];exact BO _);obtain⟨L,hL⟩:=ah st.todo.length;have hLn:L<=n:=by have:=I.len;have:=HN.out;omega
  rw[<-hL]at hi htd;obtain⟨ta,tc,rfl⟩:=ownsRow_form htd;have HST:=hid hst;have HA:=hid ha;have FR:=hid oC;have BY:=hid hby;have TD:=hid htd;have HX:=hid hx;have HL:=hid hL;have XO:=hid (X4.trans (hx.mono fun x mX=>by have:x<w.heap.size:=mX;exact⟨by omega,by omega,by omega⟩:ae (· <w.heap.size) w4 wo).below);have BB:=hid (E1.keeps hx ⟨by omega,by omega,by omega⟩);have hw4:w4.heap.size<=wo.heap.size:=hx.size;clear hst ha oC hby htd hx hL;by_cases hlt:i<L
  ·obtain⟨g7,u7,rfl,hg1,hg2,hu7,c7,_⟩:=j6 TD hlt
   obtain⟨s,hs⟩:∃ s,st.todo[i]? =some s:=⟨_,aC (by rw[<-HL.out];exact hlt)⟩;rw[bH,hs]at hu7;cases hu7;replace c7:wo.cell? ⟨g7,i,none⟩=some (.int .i64 s):=c7;have Kl:s<n:=by have:=I.lt s (aA hs);have:=HN.out;omega
   have HS:=hid hs;obtain⟨m,hm⟩:∃ m,d.mr[s]? =some m:=⟨_,aC (by have:=HMR.out;have:=HN.out;omega)⟩;obtain⟨l,hl⟩:∃ l,d.nx[s]? =some l:=⟨_,aC (by have:=HN.out;omega)⟩;obtain⟨bm,om,am,cm,e2,hbm,cmm,_⟩:=(H2.below XO).elem hm;obtain⟨bl,ol,al,cl,e1,hbl,aaH,l8⟩:=H1.elem hl;have cll:wo.cell? ⟨bl,ol+s,none⟩=some (.slice al l.length cl):=((ae.ai XO (R:=(· <w.heap.size)) fun _ h=>h).cell (p:=⟨bl,ol+s,none⟩) hbl).trans aaH;clear aaH;have lF:acc d s= !m.isEmpty:=by unfold acc;rw[getD_some hm]
   have hlK:l.length=K:=by have:=RT.len s (by have:=HN.out;omega);rw[getD_some hl]at this;rw[this,HK.out]
   rw[hlK]at cll l8;obtain⟨ml,uq⟩:=ah m.length;rw[<-uq]at cmm;cases e2;cases e1;obtain⟨⟨b0,b1,b2⟩,_⟩:=BB.three;have hii:(i:Int)<L:=by omega
   have hsi:(s:Int)<n:=by omega
   have HM:=hid hm;have HLL:=hid hl;have SL:=hid l8;have ACC:=hid lF;have xR:=hid uq;clear hm hl l8 lF hlK uq hs;by_cases hz:ml=0
   ·subst hz
    have aaI:Hid (acc d s=false):=hid (by rw[ACC.out];cases m with | nil=>rfl | cons _ _=>have:=xR.out;simp at this);go_wp2;go_loopw [7,53] (fun todo kv wr=>∃ (k:Nat) (kK:IZ),k<=K/\kv=.int .i64 k/\kK=Fq d (i*K+k)/\(∀ (j t:Nat),st.todo[j]? =some t->kK.todo[j]? =some t)/\wr.ownsRow g5 3 1 (.slice (some ⟨g5,0,none⟩) n n) n (kK.fr.map aV)/\wr.ownsRow g6 5 1 (.slice (some ⟨g6,0,none⟩) n n) n (kK.tU.map eN)/\wr.ownsRow w4.heap.size 3 1 todo kK.todo.length (kK.todo.map VR)/\ae (fun x=>x<w4.heap.size/\x≠g5/\x≠g6) w4 wr) (fun _ kv _=>K-(intOf kv).toNat);case atStart=>exact⟨0,st,Nat.zero_le _,rfl,HST,fun _ _ h=>h,FR,BY,by rw[<-HL.out];exact TD,HX⟩
    case round=>
     obtain⟨k,kK,hk,rfl,hst',bF,hfr',hby',htd',mX⟩:=hrel;obtain⟨wi,rfl⟩:=ah (wr:World);have XI:=hid (X4.trans (mX.mono fun x mX=>by have:x<w.heap.size:=mX;exact⟨by omega,by omega,by omega⟩:ae (· <w.heap.size) w4 wi).below);have I':Hid (Ox d (i*d.cl.length+k) kK):=hid (by rw[hst',HK.out];exact BO _);obtain⟨L',hL'⟩:=ah kK.todo.length;have alk:L'<=n:=by have:=I'.len;have:=HN.out;omega
     rw[<-hL']at htd';have hs':=bF i s HS;have Wx:=hid bF;have OH:=hid hst';have FR':=hid hfr';have BY':=hid hby';have TD':=hid htd';have HX':=hid mX;have HL':=hid hL';have HS':=hid hs';have alm:w4.heap.size<=wi.heap.size:=mX.size;clear hst' bF hfr' hby' htd' mX hL' hs' b0 b1 b2 c7 cmm cll;by_cases YX:k<K
     ·obtain⟨t,ht⟩:=ah (jh d s k)
      have Wy:k<d.cl.length:=by rw[<-HK.out];exact YX
      have hsd:s<d.nx.length:=by rw[<-HN.out];exact Kl
      have jP:t<n:=by rw[ht,HN.out];exact RT.gM hsd Wy
      have hlk:l[k]? =some (t:Int):=by have:=RT.vn hsd Wy;rw[getD_some HLL.out, <-ht]at this;exact this
      obtain⟨bz,oz,e9,Zc,cz⟩:=((SL.below XI).elem hlk);cases e9;replace cz:wi.cell? ⟨bz,oz+k,none⟩=some (.int .i64 t):=cz;obtain⟨_,uf,e5,_,_,Zd,cf,ff⟩:=j6 FR' jP;cases e5;rw[bH,bB 0 (by rw[I'.fr, <-HN.out];exact jP)]at Zd;cases Zd;have hti:(t:Int)<n:=by omega
      have eT:(k:Int)<K:=by omega
      have HT:=hid ht;have Gv:=Ww HS' Wy;rw[<-HT.out]at Gv;by_cases hz0:kK.fr.getD t 0=0
      ·rw[if_pos hz0]at Gv
       replace cf:wi.cell? ⟨g5,t,none⟩=some (.int .i64 0):=by rw[cf,hz0];rfl
       obtain⟨c,hc⟩:∃ c,d.cl[k]? =some c:=⟨_,aC Wy⟩;obtain⟨bc,oc,e8,SU,q0,q1,q2,q3⟩:=(H0.below XI).elem hc;cases e8;have rV:bc<w.heap.size:=by obtain⟨bw,ow,e7,rV,_⟩:=H0.elem hc;cases e7;exact rV
       have Gw:∀ u,ae (· ≠g5) wi (wi.setCell ⟨g5,t,none⟩ u):=fun u=>(ae.refl (· ≠g5) wi).setCell (p:=⟨g5,t,none⟩) (fun h=>h rfl) u
       have BBi:=hid (E1.keeps HX' ⟨by omega,by omega,by omega⟩);have alo:bc<w.heap.size:=rV;have b0s:∀ u,(wi.setCell ⟨g5,t,none⟩ u).cell? ⟨w.heap.size,0,none⟩=some (.slice (some ⟨bc,oc,none⟩) K c0):=fun u=>((BBi.keeps (Gw u) (by show w.heap.size≠g5;omega)).cell 0)
       have q0s:∀ u,(wi.setCell ⟨g5,t,none⟩ u).cell? ⟨bc,oc+k*4,none⟩=some (.int .u64 (wd c 0).toNat):=fun u=>((Gw u).cell (p:=⟨bc,oc+k*4,none⟩) (by show bc≠g5;omega)).trans q0
       have q1s:∀ u,(wi.setCell ⟨g5,t,none⟩ u).cell? ⟨bc,oc+k*4+1,none⟩=some (.int .u64 (wd c 1).toNat):=fun u=>((Gw u).cell (p:=⟨bc,oc+k*4+1,none⟩) (by show bc≠g5;omega)).trans q1
       have q2s:∀ u,(wi.setCell ⟨g5,t,none⟩ u).cell? ⟨bc,oc+k*4+2,none⟩=some (.int .u64 (wd c 2).toNat):=fun u=>((Gw u).cell (p:=⟨bc,oc+k*4+2,none⟩) (by show bc≠g5;omega)).trans q2
       have q3s:∀ u,(wi.setCell ⟨g5,t,none⟩ u).cell? ⟨bc,oc+k*4+3,none⟩=some (.int .u64 (wd c 3).toNat):=fun u=>((Gw u).cell (p:=⟨bc,oc+k*4+3,none⟩) (by show bc≠g5;omega)).trans q3
       have Wz:=hid Gv;have HCC:=hid hc;clear q0 q1 q2 q3 hc ht hlk Gv;go_wp2_with fail
       refine aK ?_;intro W1 hW1;have KW:Hid (ae (· ≠g5) wi W1):=by rw[hW1];exact hid (Gw _)
       have F1:Hid (W1.ownsRow g5 3 1 (.slice (some ⟨g5,0,none⟩) n n) n ((kK.fr.set t (s+1)).map aV)):=by rw[hW1,List.map_set];exact hid (FR'.stored t _).1
       clear hW1 Gw b0s q0s q1s q2s q3s cf ff;refine(rI c W1).mono ?_;rintro e w6 ⟨rfl,hx⟩;obtain⟨cb,hcb⟩:=ah ((aZ c).1);have aaK:lb d.cl k=cb:=by rw[hcb];unfold lb;rw[getD_some HCC.out]
       rw[<-hcb];have HCB:=hid aaK;have F6:=hid (ay F1 hx.below);have alx:wi.heap.size<=W1.heap.size:=KW.size;have B6:=hid (ay (aS BY' KW fun x h1 _=>by show x≠g5;omega) hx.below);have T6:=hid (ay (aS TD' KW fun x h1 _=>by show x≠g5;omega) hx.below);have K6:Hid (ae (fun x=>x<w4.heap.size/\x≠g5/\x≠g6) w4 w6):=hid ((HX'.tr (KW.mono fun x hx=>hx.2.1)).tr (ae.ai hx.below fun x mX=>by have:=mX.1;omega));have aly:W1.heap.size<=w6.heap.size:=hx.size;clear hcb aaK hx F1 KW;obtain⟨MC,MD,rfl⟩:=ownsRow_form T6;obtain⟨_,ub,e5,_,_,_,cb6,fb6⟩:=j6 B6 jP;cases e5;have T7:=hid (aS T6 ((ae.refl (· ≠g6) w6).setCell (p:=⟨g6,t,none⟩) (fun h=>h rfl) (.int .u8 cb)) fun x h1 _=>by show x≠g6;omega);go_wp2_with (at_builtin;refine wpList_append_own_at _ rfl (.tmp 80) (.tmp 82) 51 rfl w4.heap.size 3 iI (.int .i64 0) 1 8 Tryz.underlying51 Cb my mz mA rfl (by decide) _ _ _ rfl (T7.alloc _) ⟨_,0,none⟩ 1 1 [.int .i64 t] rfl rfl (bQ ((aq.new (w6.setCell ⟨g6,t,none⟩ (.int .u8 cb)) #[.int .i64 t] 3).at (by simp))) (by intro u hu;simp at hu;rw[hu];rfl) (by unfold maxLen;omega) (by omega) (by simp;omega) ?_;intro v' w9 hown' hgrow hh hat;refine Hid.out ?_);refine hid ?_;have Wm:=hid hown';have HG:=hid hgrow;obtain⟨va,vc,rfl⟩:=ownsRow_form hown';have K7:ae (fun x=>x<w4.heap.size/\x≠g6) w6 w9:=(((ae.refl _ w6).setCell (p:=⟨g6,t,none⟩) (fun h=>h.2 rfl) (.int .u8 cb)).alloc (fun x hx=>by have:=hx.1;simp;omega) (.cells #[.int .i64 t] 3)).tr (ae.bA HG fun x hx=>⟨by have:=hx.1;simp;omega,fun e=>by have:=(T7.lt x e.symm).1;have:=hx.1;omega⟩);have K8:ae (fun x=>x<w4.heap.size) (w6.setCell ⟨g6,t,none⟩ (.int .u8 cb)) w9:=((ae.refl _ _).alloc (fun x hx=>by have:x<w4.heap.size:=hx;simp;omega) (.cells #[.int .i64 t] 3)).tr (ae.bA HG fun x hx=>⟨by have:x<w4.heap.size:=hx;simp;omega,fun e=>by have:=(T7.lt x e.symm).1;have:x<w4.heap.size:=hx;omega⟩);clear hown' hgrow hh hat cb6 fb6;go_wp2;go_roundw;case rel=>
        refine⟨k+1,⟨kK.todo++ [t],kK.keys++ [i*d.cl.length+k],kK.fr.set t (s+1),kK.tU.set t cb⟩,by omega,by go_num,?_,?_,?_,?_,?_,K6.tr (K7.mono fun x hx=>⟨hx.1,hx.2.2⟩)⟩
        ·rw[OH.out]
         show _=Wu d (Fq d (i*K+k)) (i*K+k);rw[<-OH.out,HK.out,Wz.out,HCB.out]
        ·intro j u hu
         have h5:=Wx.out j u hu;show(kK.todo++ [t])[j]? =some u;rw[bJ (List.getElem?_eq_some_iff.1 h5).1];exact h5
        ·exact au F6 K7 fun x e=>by cases e;exact⟨show g5<w4.heap.size by omega,show g5≠g6 by omega⟩
        ·show w9.ownsRow g6 _ 1 _ n ((kK.tU.set t cb).map eN)
         rw[List.map_set];exact au ((B6.stored t (.int .u8 cb)).1) K8 fun x e=>by cases e;show g6<w4.heap.size;omega
        ·show w9.ownsRow w4.heap.size _ 1 _ (kK.todo++ [t]).length ((kK.todo++ [t]).map VR)
         rw[List.map_append,aQ, <-HL'.out];exact Wm
       case measure=>simp[intOf];omega
      ·rw[if_neg hz0]at Gv
       have MG:((kK.fr.getD t 0:Int)==0)=false:=by rw[beq_eq_false_iff_ne];exact hz0
       obtain⟨z,hz⟩:=ah (kK.fr.getD t 0);rw[<-hz]at MG;replace cf:wi.cell? ⟨g5,t,none⟩=some (.int .i64 z):=by rw[cf, <-hz];rfl
       have Wz:=hid Gv;obtain⟨MC,MD,rfl⟩:=ownsRow_form TD';clear hz hz0 Gv ht hlk;go_wp2;go_roundw;case rel=>
        refine⟨k+1,kK,by omega,by go_num,?_,Wx,FR',BY',by rw[<-HL'.out];exact TD',HX'⟩;rw[OH.out];show _=Wu d (Fq d (i*K+k)) (i*K+k);rw[<-OH.out,HK.out];exact Wz.symm
       case measure=>simp[intOf];omega
     ·obtain rfl:k=K:=by omega
      obtain⟨MC,MD,rfl⟩:=ownsRow_form TD';clear YX;go_wp2;go_roundw;case rel=>
       have Cm:i<st.todo.length:=by rw[<-HL.out];exact hlt
       refine⟨rfl,i+1,kK,by go_num,?_,?_,?_,FR',BY',by rw[<-HL'.out];exact TD',HX'⟩
       ·rw[OH.out,Nat.succ_mul]
       ·exact(List.getElem?_eq_some_iff.1 HS').1
       ·intro j t hj ht
        by_cases e:j=i
        ·subst e
         rw[HS'.out]at ht;cases ht;exact aaI
        ·have h5:j<st.todo.length:=by omega
         have h6:=Wx.out j _ (aC h5);rw[h6]at ht;cases ht;exact HA j _ (by omega) (aC h5)
      case measure=>simp[intOf];omega
   ·have tV:(0:Int)<ml:=by omega
    have hmd:decide ((0:Int)<ml)=true:=decide_eq_true tV;have hmq:0<ml:=by omega
    have alB:decide (0<ml)=true:=decide_eq_true hmq;have aaL:Hid (acc d s=true):=hid (by rw[ACC.out];cases m with | nil=>have:=xR.out;simp at this;omega | cons _ _=>rfl);go_wp2;obtain⟨m2,ss,bs,aaM,aaN,OJ,aaO,hmn,OL⟩:=Gu RT I HS HA aaL;have Cf:m2<=4000:=by have:=HN.out;omega
    have HC:=hid OJ;have UK:=hid aaO;have HF:=hid OL;have HS0:=hid aaM;have HSM:=hid aaN;clear OJ aaO OL aaM aaN b0 b1 b2 c7 cmm cll;go_loopw [13,14] (fun ov sv wr=>∃ lq:Nat,lq<=m2/\sv=.int .i64 (ss lq)/\wr.ownsRow wo.heap.size 5 1 ov (m2-lq) (((((List.range m2).drop lq).map bs).reverse).map eN)/\ae (fun x=>x<wo.heap.size) wo wr) (fun ov _ _=>m2-aaF ov);case atStart=>
     refine⟨m2,aD _,by rw[HSM.out],?_,ae.refl _ _⟩;rw[Nat.sub_self,List.drop_eq_nil_of_le (by simp)];exact World.ownsRow_nil _ _ _ _
    case round=>
     obtain⟨lq,Uq,rfl,hov,Kt⟩:=hrel;obtain⟨wi,rfl⟩:=ah (wr:World);have FRi:=hid (au FR Kt fun x e=>(FR.lt x e).2);have BYi:=hid (au BY Kt fun x e=>(BY.lt x e).2);have alF:wo.heap.size<=wi.heap.size:=Kt.size;have OV:=hid hov;have HXR:=hid Kt;obtain⟨oa,oc,rfl⟩:=ownsRow_form hov;clear hov Kt;have l8:=UK.out lq Uq;obtain⟨sq,WA⟩:=ah (ss lq);rw[<-WA]at l8 ⊢;have SV:sq<n:=by rw[HN.out];exact l8
     obtain⟨_,uz,e5,_,_,huz,cz,_⟩:=j6 FRi SV;cases e5;obtain⟨_,uy,e6,_,_,huy,cy,_⟩:=j6 BYi SV;cases e6;rw[bH,bB 0 (by rw[I.fr, <-HN.out];exact SV)]at huz;rw[bH,bB 0 (by rw[I.tU, <-HN.out];exact SV)]at huy;cases huz;cases huy;have alG:(sq:Int)<n:=by omega
     cases lq with
     | zero=>
      have hz0:st.fr.getD sq 0= -1:=by rw[WA,HS0.out];exact I.root
      replace cz:wi.cell? ⟨g5,sq,none⟩=some (.int .i64 (-1)):=by rw[cz,hz0];rfl
      have HQ:=hid WA;clear WA hz0 cy;obtain⟨lr,Ze⟩:=ah (((List.range m2).map bs).reverse);have aaP:lr.length=m2:=by rw[Ze];simp
      have OV2:Hid (wi.ownsRow wo.heap.size 5 1 (.slice oa m2 oc) lr.length (lr.map eN)):=hid (by rw[aaP,Ze];exact OV);have HLR:=hid Ze;clear OV Ze;go_wp2_with fail
      refine(SR wo.heap.size _ lr (by omega) _ OV2).mono ?_;rintro e w6 ⟨rfl,hr,hx⟩;have hr6:=aG hr (show w.heap.size<=wo.heap.size by omega);have RR:=hid hr6
      have Rg:Hid (aa w w6):=hid ((XO.trans (HXR.mono fun x hx=>by have:x<w.heap.size:=hx;omega:ae (· <w.heap.size) wo wi).below).trans (hx.mono fun x hx=>by
       intro e;have:=(OV2.lt x e).1;have:x<w.heap.size:=hx
       omega:ae (· <w.heap.size) wi w6).below)
      clear hr hx hr6;go_wp2;rw[Exit.noGoto_ret];refine bodyPost_ret (v:=.tuple #[.slice oa m2 oc,.bool true,.int .i64 0]) (by simp[results,Tryz.results61,go_sem]) rfl ?_;rw[HF.out];refine⟨_,rfl,?_,Rg⟩;have e7:lr.reverse=(List.range m2).map bs:=by rw[HLR.out,List.reverse_reverse]
      have h9:=RR.out;rw[e7,aaP]at h9;show w6.ownsRow w.heap.size 5 1 _ ((List.range m2).map bs).length (((List.range m2).map bs).map eN);rw[bp,List.length_range];exact h9
     | succ lp=>
      obtain⟨c1,c2,c3⟩:=HC.out lp (by omega);rw[<-WA]at c1 c2;replace cz:wi.cell? ⟨g5,sq,none⟩=some (.int .i64 (ss lp+1:Nat)):=by rw[cz,c1];rfl
      replace cy:wi.cell? ⟨g6,sq,none⟩=some (.int .u8 (bs lp)):=by rw[cy,c2];rfl
      have HQ:=hid WA;have hp9:(0:Int)<(ss lp+1:Nat):=by omega
      have hp8:ss lp<=4000:=by have:=UK.out lp (by omega);have:=HN.out;omega
      clear WA c1 c2;go_wp2_with (at_builtin;refine wpList_append_own_at _ rfl (.tmp 98) (.tmp 103) 55 rfl wo.heap.size 5 iB (.int .u8 0) 1 1 Tryz.underlying55 Za Kq Kr Ks rfl (by decide) _ _ _ rfl (OV.alloc _) ⟨_,0,none⟩ 1 1 [.int .u8 (bs lp)] rfl rfl (bQ (aq.new _ _ _)) (by intro u hu;simp at hu;rw[hu];rfl) (by unfold maxLen;omega) (by omega) (by simp;omega) ?_;intro v' w9 hown' hgrow hh hat;refine Hid.out ?_);refine hid ?_;have HG:=hid hgrow;have Wm:=hid hown';obtain⟨va,vc,rfl⟩:=ownsRow_form hown';have K9:ae (fun x=>x<wo.heap.size) wi w9:=((ae.refl _ wi).alloc (fun x hx=>by have:x<wo.heap.size:=hx;omega) _).tr (ae.bA HG fun x hx=>⟨by have:x<wo.heap.size:=hx;simp;omega,fun e=>by have:=(OV.lt x e.symm).1;have:x<wo.heap.size:=hx;omega⟩);have cz9:=(K9.cell (p:=⟨g5,sq,none⟩) (by show g5<wo.heap.size;omega)).trans cz;clear hgrow hown' hh hat cz cy;go_wp2;go_roundw;case rel=>
       refine⟨lp,by omega,by go_num,?_,HXR.tr K9⟩;have e8:m2-lp=m2-(lp+1)+1:=by omega
       have e9:(List.range m2).drop lp=lp::(List.range m2).drop (lp+1):=by rw[List.drop_eq_getElem_cons (by simp;omega)];simp
       rw[e8,e9,List.map_cons,List.reverse_cons,List.map_append];exact Wm
      case measure=>simp[aaF];omega
  ·have pW:=Gt RT I (by rw[<-HL.out];omega) (fun j t ht=>HA j t (by have:=(List.getElem?_eq_some_iff.1 ht).1;have:=HL.out;omega) ht)
   have HF:=hid pW;clear pW;go_wp2;rw[Exit.noGoto_ret];refine bodyPost_ret (v:=.tuple #[.slice none 0 0,.bool false,.int .i64 0]) (by simp[results,Tryz.results61,go_sem]) rfl ?_;rw[HF.out];exact⟨_,rfl,World.ownsRow_nil _ _ _ _,XO⟩
end
end Go.Proofs.YtpcmhjbehdgdbaaGreatDoor
