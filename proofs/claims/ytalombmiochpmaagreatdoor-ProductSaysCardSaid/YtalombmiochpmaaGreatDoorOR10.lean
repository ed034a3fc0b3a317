/- product.Of, where it makes an automaton or runs out of fuel. -/
import Derived.Test.YtalombmiochpmaaGreatDoorOR09
set_option maxRecDepth 100000
set_option maxHeartbeats 16000000
open Go.Lib (hid)
namespace Go.Proofs.YtalombmiochpmaaGreatDoor
open Go Go.RowKit Go.Shelf Go.Maps
attribute [local go_sem] encS
def gg (lo:Nat) (v:Value) (n:Nat) (us:List Value) (x:Value):gS.App:=⟨47,1,v,n,us,1,lo,fun ns _=>ns=[x],fun _ _ _ _ h=>h⟩
def mkApp (lo:Nat) (v:Value) (n:Nat) (us:List Value) (ml:Nat) (mx:List Value):gS.App:=⟨47,1,v,n,us,1,lo,fun ns W=>∃ u,ns=[u]/\u.oneCell'=true/\W.ownsRow lo 3 1 u ml mx,fun _ _ _ hk ⟨u,h1,h2,h3⟩=>⟨u,h1,h2,aj h3 hk fun x hx=>h3.lt x hx⟩⟩
theorem aW.more {base:Nat} {W:World} {v:Value} {ll:List (List Int)} {l:List Int} {us:List Value} {u:Value} {n:Nat} (h1:us.length=ll.length) (hn:us.length=n) (ho:W.ownsRow base 47 1 v (n+1) (us++ [u])) (h3:∀ (i:Nat) (u:Value) (l:List Int),us[i]? =some u->ll[i]? =some l->W.ownsRow base 3 1 u l.length (l.map aS)) (hu:W.ownsRow base 3 1 u l.length (l.map aS)):aW base W v (ll++ [l]):=by
 subst hn;refine⟨us++ [u],by simp[h1],by simpa using ho,fun i x y hx hy=>?_⟩;by_cases hi:i<us.length
 ·rw[List.getElem?_append_left hi]at hx
  rw[List.getElem?_append_left (by omega)]at hy;exact h3 i x y hx hy
 ·have jK:=(List.getElem?_eq_some_iff.1 hx).1
  simp at jK;obtain rfl:i=us.length:=by omega
  simp at hx;subst hx;rw[h1]at hy;simp at hy;subst hy;exact hu
theorem RZ {α:Type} (xs:Array α) (x y:α):(xs.push x).setIfInBounds xs.size y=xs.push y:=by
 apply Array.ext
 ·simp
 ·intro i h1 h2
  rw[Array.getElem_setIfInBounds (by simpa using h1)];by_cases e:xs.size=i
  ·subst e;simp
  ·rw[if_neg e]
   simp at h1 h2;rw[Array.getElem_push_lt (by omega),Array.getElem_push_lt (by omega)]
theorem Oa (w:World):(Instr.mapUpdate 80 (.map (some w.heap.size)) (.agg #[.int .i64 0,.int .i64 0]) (.int .i64 0)).run Tryz.prog (w.alloc (.map #[] 0))=.ok () (w.alloc (.map (fZ 0 [(0,0)]).toArray 1)):=by
 have h:je (w.alloc (.map #[] 0)) w.heap.size []:=(MapKept.heap_alloc w _).1;obtain⟨kl,hk⟩:=xG (0,0) (by decide) (by decide);have K:=Tryz.uT;rcases K.find (w.alloc (.map #[] 0)) hk [] (by simp)with⟨f1,f2⟩ | ⟨j,e0,f1,f2,f3⟩
 ·have hb:(w.alloc (.map #[] 0)).heap[w.heap.size]? =some (.map #[] 0):=h
  have hr:(Instr.mapUpdate 80 (.map (some w.heap.size)) (kD (0,0)) (.int .i64 0)).run Tryz.prog (w.alloc (.map #[] 0))=.ok () (w.alloc (.map (fZ 0 [(0,0)]).toArray 1)):=by simp[fZ,Instr.mapUpdate,run_underlying Tryz.underlying80,MapKept.run_getObj_map hb,K.check _ false hk,f1,MapKept.run_setObj_map _ hb,Result.andThen];show({heap:=(w.heap.push (Obj.map #[] 0)).setIfInBounds w.heap.size _,tape:=w.tape,drawn:=w.drawn,os:=w.os,output:=w.output} :World)=_;rw[RZ];rfl
  exact hr
 ·cases f2
theorem Mz (g:Nat) (W:World):(binOp BinOp.eql 73 (.func (.func g) #[] #[]) .nilFunc).run Tryz.prog W=.ok (.bool false) W:=by kernel_rfl
theorem Ob (v v':Value) (a b:DF) (ra:Rt a) (rb:Rt b) (sa:Sm a) (sb:Sm b) (op:Nat) (h1p:1<=op) (h4p:op<=4) (f:Nat) (Oc:1<=f) (Yu:f<=4000) (w:World) (h:aT w v a) (h':aT w v' b): Calls Tryz.prog 12 #[v,v',.int .u8 op,.int .i64 f] w fun e w'=>∃ u,e=.returned (.tuple #[u,.int .i64 (aP a b op f).2])/\ay w.heap.size w' u (aP a b op f).1/\Below w.heap.size w w':=by
 obtain⟨iP,hiP,ajr,ajs,ajt⟩:=info_parts Tryz.aef;obtain⟨iL,Gk,oM,oN,oO⟩:=info_parts Tryz.vU;obtain⟨iI,Hh,pT,pU,pV⟩:=info_parts Tryz.tz;have CR:Hid (∀ W,Below w.heap.size w W->Calls Tryz.prog 13 #[v] W fun e w'=>e=.returned (.bool true)/\Below W.heap.size W w'):=fun W hW=>by
  have:=dJ v a W (h.below hW) sa;rwa[(aC a).2 ra]at this
 have CR':Hid (∀ W,Below w.heap.size w W->Calls Tryz.prog 13 #[v'] W fun e w'=>e=.returned (.bool true)/\Below W.heap.size W w'):=fun W hW=>by
  have:=dJ v' b W (h'.below hW) sb;rwa[(aC b).2 rb]at this
 have CS:Hid (∀ W,Calls Tryz.prog 32 #[.int .u8 op] W fun e w'=>e=.returned (.func (.func (lR op)) #[] #[])/\w'=W):=fun W=>Cm op h1p h4p W
 have CJ:Hid (∀ W,Below w.heap.size w W->Calls Tryz.prog 33 #[v,v',.func (.func (lR op)) #[] #[]] W fun e w'=>∃ u,e=.returned u/\kC W.heap.size w' u a b op/\Below W.heap.size W w'):=fun W hW=>NS v v' a b ra rb op W (h.below hW) (h'.below hW)
 obtain⟨K,hK⟩:∃ n,n=(partsOf (a.cl++b.cl)).length:=⟨_,rfl⟩;obtain⟨F,hF⟩:∃ g,g=eI a b:=⟨_,rfl⟩;obtain⟨gf,hgf⟩:∃ g,g=lR op:=⟨_,rfl⟩;have RH:K<=256:=by rw[hK,(dX _).length_eq];exact dW _
 have OK:Hid (∀ st n,cS f F K (0,0) n=some st->Rp f K (gu a b) (0,0) n st):=fun st n h=>by rw[hF,hK]at h;rw[hK];exact lQ ra rb Oc h
 have FI:Hid (∀ p k,gu a b p->k<K->gu a b (F p k)):=fun p k h1 h2=>by rw[hF];exact mI ra rb p k h1 (by rw[<-hK];exact h2)
 have CN:Hid (∀ W base u p k,kC base W u a b op->gu a b p->k<K->Calls Tryz.prog 34 #[u,.agg #[.int .i64 p.1,.int .i64 p.2],.int .i64 k] W fun e w'=>e=.returned (.agg #[.int .i64 (F p k).1,.int .i64 (F p k).2])/\Below W.heap.size W w'):=fun W base u p k hb hp hk=>by
  rw[hF];exact RA base u a b ra rb op p hp k (by rw[<-hK];exact hk) W hb
 have CM:Hid (∀ W base u p,kC base W u a b op->gu a b p->Calls Tryz.prog 35 #[u,.agg #[.int .i64 p.1,.int .i64 p.2]] W fun e w'=>∃ m,e=.returned m/\w'.ownsRow W.heap.size 3 1 m (bX a b op p).length ((bX a b op p).map aS)/\Below W.heap.size W w'):=fun W base u p hb hp=>AU base u a b ra rb op h1p h4p p hp sa sb W hb
 have PI:Hid (∀ p,gu a b p->p.1<=4000/\p.2<=4000):=fun p hp=>⟨Nat.le_of_lt (Nat.lt_of_lt_of_le hp.1 ra.le),Nat.le_of_lt (Nat.lt_of_lt_of_le hp.2 rb.le)⟩
 have EN:Hid (∀ n,cS f F K (0,0) n=none->n<=f->(aP a b op f)=(sN,181)):=fun n hn hle=>by
  have e1:bK a b op f=none:=by unfold bK;rw[<-hF, <-hK,Cg hn f hle];rfl
  unfold aP;rw[(aC a).2 ra,(aC b).2 rb,if_neg (by decide),if_neg (by omega),if_neg (by omega),if_neg (by omega),Int.toNat_natCast,e1]
 have ES:Hid (∀ n st,cS f F K (0,0) n=some st->st.1.length<=n->n<=f->(aP a b op f)=(⟨partsOf (a.cl++b.cl),st.2.map fun r=>r.map Int.ofNat,st.1.map (bX a b op)⟩,0)):=fun n st hn hl hle=>by
  have e1:bK a b op f=some ⟨partsOf (a.cl++b.cl),st.2.map fun r=>r.map Int.ofNat,st.1.map (bX a b op)⟩:=by unfold bK;rw[<-hF, <-hK,tC hn hl f hle];rfl
  unfold aP;rw[(aC a).2 ra,(aC b).2 rb,if_neg (by decide),if_neg (by omega),if_neg (by omega),if_neg (by omega),Int.toNat_natCast,e1]
 have HK:=hid hK;have HFF:=hid hF;have HGF:=hid hgf;rw[<-hgf]at CS CJ;obtain⟨v0,v1,v2,rfl,h0,h1,h2⟩:=h;obtain⟨u0,u1,u2,rfl,g0,g1,g2⟩:=h';obtain⟨PE,hPE⟩:∃ x,x=aP a b op f:=⟨_,rfl⟩;rw[<-hPE]at EN ES ⊢;clear h0 h1 h2 g0 g1 g2 hK hF hgf hPE;have d1:decide ((f:Int)<0)=false:=decide_eq_false (by omega);have d2:decide ((4000:Int)<f)=false:=decide_eq_false (by omega);have d3:((f:Int)==0)=false:=by rw[beq_eq_false_iff_ne];omega
 go_enter Tryz.func12,Tryz.ntmps12
 go_wp2_with fail
 refine az ?_;intro V hV;have B4:Hid (ah V w.heap.size #[v0,v1,v2] 28):=by rw[hV];exact((ah.new w _ _).alloc _).alloc _
 have B5:Hid (ah V (w.heap.size+1) #[u0,u1,u2] 28):=by rw[hV];exact((ah.new (w.alloc _) _ _).at (by simp)).alloc _
 have B8:Hid (ah V (w.heap.size+2) #[.slice none 0 0,.slice none 0 0,.slice none 0 0] 28):=by rw[hV];exact(ah.new ((w.alloc _).alloc _) _ _).at (by simp)
 have X1:Hid (Below w.heap.size w V):=by rw[hV];exact((((Ext.refl w).alloc _).alloc _).alloc _).below
 clear hV;refine(CS.out V).mono ?_;rintro e w' ⟨rfl,hw⟩;replace hw:=hw.symm;subst hw;obtain⟨⟨k0,k1,k2⟩,_⟩:=B4.out.three;go_wp2_with fail
 refine(CR.out V X1.out).mono ?_;rintro e w2 ⟨rfl,hx⟩;have C4:=hid (B4.out.below hx B4.out.lt);have C5:=hid (B5.out.below hx B5.out.lt);have C8:=hid (B8.out.below hx B8.out.lt);have X2:=hid (X1.out.trans (hx.mono X1.out.size));clear hx k0 k1 k2 B4 B5 B8 X1;obtain⟨⟨k0,k1,k2⟩,_⟩:=C5.out.three;go_wp2_with fail
 refine(CR'.out w2 X2.out).mono ?_;rintro e w3 ⟨rfl,hx⟩;have D4:=hid (C4.out.below hx C4.out.lt);have D5:=hid (C5.out.below hx C5.out.lt);have D8:=hid (C8.out.below hx C8.out.lt);have X3:=hid (X2.out.trans (hx.mono X2.out.size));clear hx k0 k1 k2 C4 C5 C8 X2;obtain⟨⟨k0,k1,k2⟩,_⟩:=D4.out.three;obtain⟨⟨l0,l1,l2⟩,_⟩:=D5.out.three;have MC:=Mz gf;go_wp2_with fail
 refine(CJ.out w3 X3.out).mono ?_;rintro e w4 ⟨u,rfl,hb,hx⟩;obtain⟨a0,a1,a2,b0,b1,b2,c,o,t,hu,i1,i2,i3,i4,i5,i6,i7⟩:=hb;obtain⟨x0,y0,z0⟩:=a0;obtain⟨x3,y3,z3⟩:=b0;replace hu:u=.agg #[.slice x0 y0 z0,a1,a2,.slice x3 y3 z3,b1,b2,c,o,t,.func (.func (lR op)) #[] #[]]:=hu;subst hu;obtain⟨x1,z1,rfl⟩:=i1.form;obtain⟨x2,z2,rfl⟩:=i2.form;obtain⟨x4,z4,rfl⟩:=i3.form;obtain⟨x5,z5,rfl⟩:=i4.form;obtain⟨x7,z7,rfl⟩:=i6.form;obtain⟨x8,z8,rfl⟩:=i7.form;generalize a.nx.length=y1 at*;generalize a.mr.length=y2 at*;generalize b.nx.length=y4 at*;generalize b.mr.length=y5 at*;generalize (oneOf a (partsOf (a.cl++b.cl))).length=y7 at*;generalize (oneOf b (partsOf (a.cl++b.cl))).length=y8 at*;have IB:Hid (kC w3.heap.size w4 (.agg #[.slice x0 y0 z0,.slice x1 y1 z1,.slice x2 y2 z2,.slice x3 y3 z3,.slice x4 y4 z4,.slice x5 y5 z5,c,.slice x7 y7 z7,.slice x8 y8 z8,.func (.func gf) #[] #[]]) a b op):=hid ⟨(x0,y0,z0),_,_,(x3,y3,z3),_,_,_,_,_,by rw[HGF.out];rfl,i1,i2,i3,i4,i5,i6,i7⟩;rw[<-HK.out]at i5;obtain⟨ca,cc,rfl⟩:=ownsRow_form i5;have I5:=hid i5;have E8:=hid (D8.out.below hx D8.out.lt);have X4:=hid (X3.out.trans (hx.mono X3.out.size));have aeh:w.heap.size+2<w4.heap.size:=Nat.lt_of_lt_of_le D8.out.lt hx.size;have aqE:w3.heap.size<=w4.heap.size:=hx.size;have hs8:w.heap.size+2<w3.heap.size:=D8.out.lt;rw[<-HGF.out];clear i1 i2 i3 i4 i5 i6 i7 k0 k1 k2 l0 l1 l2 D4 D5 D8 X3 hx CR CR' CS CJ;have Rq:= @run_makeMap Tryz.prog;have hpf:∀ o1 o2:Obj,(Instr.mapUpdate 80 (.map (some (w4.heap.size+1+1))) (.agg #[.int .i64 0,.int .i64 0]) (.int .i64 0)).run Tryz.prog (((w4.alloc o1).alloc o2).alloc (.map #[] 0))=.ok () (((w4.alloc o1).alloc o2).alloc (.map (fZ 0 [(0,0)]).toArray 1)):=fun o1 o2=>by
  have:=Oa ((w4.alloc o1).alloc o2);rwa[show((w4.alloc o1).alloc o2).heap.size=w4.heap.size+1+1 by simp]at this
 go_wp2;obtain⟨g,hg⟩:∃ g,g=w4.heap.size:=⟨_,rfl⟩;have HG4:=hid hg;go_loopw [9,14] (fun er tv wr=>er=.int .i64 0/\∃ (n:Nat) (st:List (Nat×Nat)×List (List Nat)) (nx mk:Value),cS f F K (0,0) n=some st/\n<=st.1.length/\wr.ownsRow (w4.heap.size+3) 79 2 tv st.1.length (mK st.1)/\ah wr w4.heap.size #[.slice x0 y0 z0,.slice x1 y1 z1,.slice x2 y2 z2,.slice x3 y3 z3,.slice x4 y4 z4,.slice x5 y5 z5,.slice ca K cc,.slice x7 y7 z7,.slice x8 y8 z8,.func (.func gf) #[] #[]] 76/\ah wr (w4.heap.size+1) #[.slice ca K cc,nx,mk] 28/\aW (w4.heap.size+3) wr nx (st.2.map fun r=>r.map Int.ofNat)/\aW (w4.heap.size+3) wr mk ((st.1.take n).map (bX a b op))/\mH nx mk/\je wr (w4.heap.size+2) st.1/\Below w4.heap.size w4 wr) (fun _ _ wr=>f-RV wr ⟨w4.heap.size+1,1,none⟩);case atStart=>
  refine⟨rfl,0,([(0,0)],[]),.slice none 0 0,.slice none 0 0,rfl,Nat.zero_le _,⟨rfl,.inr ⟨_,1, #[.int .i64 0,.int .i64 0],rfl,Nat.le_refl _,?_,Nat.le_refl _,by unfold maxLen;omega,rfl,rfl⟩⟩,?_,?_,aW.nil _ _,aW.nil _ _,.inl rfl,?_,?_⟩
  ·exact(ah.new (((w4.alloc _).alloc _).alloc _) _ _).at (by simp)
  ·exact(((ah.new w4 _ _).alloc _).alloc _).alloc _
  ·exact(((ah.new (w4.alloc _) _ _).at (by simp)).alloc _).alloc _
  ·have h1:je (((w4.alloc (.cells #[.slice x0 y0 z0,.slice x1 y1 z1,.slice x2 y2 z2,.slice x3 y3 z3,.slice x4 y4 z4,.slice x5 y5 z5,.slice ca K cc,.slice x7 y7 z7,.slice x8 y8 z8,.func (.func gf) #[] #[]] 76)).alloc (.cells #[.slice ca K cc,.slice none 0 0,.slice none 0 0] 28)).alloc (.map (fZ 0 [(0,0)]).toArray 1)) (w4.heap.size+2) [(0,0)]:=by
    have:=(MapKept.heap_alloc ((w4.alloc (.cells #[.slice x0 y0 z0,.slice x1 y1 z1,.slice x2 y2 z2,.slice x3 y3 z3,.slice x4 y4 z4,.slice x5 y5 z5,.slice ca K cc,.slice x7 y7 z7,.slice x8 y8 z8,.func (.func gf) #[] #[]] 76)).alloc (.cells #[.slice ca K cc,.slice none 0 0,.slice none 0 0] 28)) (.map (fZ 0 [(0,0)]).toArray 1)).1;unfold je;rwa[show((w4.alloc (.cells #[.slice x0 y0 z0,.slice x1 y1 z1,.slice x2 y2 z2,.slice x3 y3 z3,.slice x4 y4 z4,.slice x5 y5 z5,.slice ca K cc,.slice x7 y7 z7,.slice x8 y8 z8,.func (.func gf) #[] #[]] 76)).alloc (.cells #[.slice ca K cc,.slice none 0 0,.slice none 0 0] 28)).heap.size=w4.heap.size+2 by simp]at this
   exact h1.below ((Ext.refl _).alloc _).below
  ·exact(((((Ext.refl w4).alloc _).alloc _).alloc _).alloc _).below
 case round=>
  obtain⟨rfl,n,st,nx,mk,hst,hn,htv,hb,U9,Va,oA,hfar,hnum,hx⟩:=hrel;obtain⟨wo,rfl⟩:∃ wo:World,wo=wr:=⟨_,rfl⟩;have SO:=hid (OK.out st n hst);have hl2:st.2.length=n:=by have:=SO.out.len;omega
  obtain⟨L,hL⟩:∃ L,L=st.1.length:=⟨_,rfl⟩;have hLf:L<=f:=by have:=SO.out.le;omega
  rw[<-hL]at htv hn;obtain⟨ta,tc,rfl⟩:=ownsRow_form htv;obtain⟨na,nc,rfl⟩:=Va.form;obtain⟨ma,mc,rfl⟩:=oA.form;have e1:(st.2.map fun r=>r.map Int.ofNat).length=n:=by simp[hl2]
  have e2:((st.1.take n).map (bX a b op)).length=n:=by simp;omega
  rw[e1]at U9 Va hfar;rw[e2]at U9 oA hfar;have ST:=hid hst;have TV:=hid htv;have HB:=hid hb;have HBO:=hid U9;have Ql:=hid Va;have Ws:=hid oA;have Qm:=hid hfar;have NUM:=hid hnum;have HX:=hid hx;have HL:=hid hL;have HL2:=hid hl2;have hsz:w4.heap.size+2<wo.heap.size:=NUM.out.lt;clear hst htv hb U9 Va oA hfar hnum hx hL hl2 e1 e2;have j1:=HBO.out.cell 1;by_cases hlt:n<L
  ·obtain⟨p,hp⟩:∃ p,st.1[n]? =some p:=⟨_,List.getElem?_eq_getElem (by rw[<-HL.out];exact hlt)⟩
   have PP:=hid (SO.out.all p (List.mem_of_getElem? hp));obtain⟨tg,rfl,t1,t2⟩:=aaK TV.out hp;have HP:=hid hp;clear hp;have hni:(n:Int)<L:=by omega
   have q6:∀ o,(wo.alloc o).cell? ⟨w4.heap.size,6,none⟩=some (.slice ca K cc):=fun o=>(HB.out.alloc o).cell 6
   go_wp2;go_loopw [9,14,16,76] (fun er tv nv i wr=>er=.int .i64 0/\∃ (k:Nat) (r:List (Nat×Nat)×List Nat),k<=K/\bO f (F p) st.1 k=some r/\i=.int .i64 k/\wr.ownsRow (w4.heap.size+3) 79 2 tv r.1.length (mK r.1)/\(tv.ownBlock=some tg\/∀ x,tv.ownBlock=some x->wo.heap.size+1<=x)/\wr.ownsRow (wo.heap.size+1) 3 1 nv k ((r.2.map Int.ofNat).map aS)/\ah wr wo.heap.size #[.int .i64 p.1,.int .i64 p.2] 79/\je wr (w4.heap.size+2) r.1/\aa (fun x=>x<wo.heap.size/\x≠w4.heap.size+2/\some tg≠some x) wo wr) (fun _ _ _ i _=>K-(intOf i).toNat);case atStart=>
    refine⟨rfl,0,(st.1,[]),Nat.zero_le _,rfl,rfl,?_,.inl rfl,World.ownsRow_nil _ _ _ _,ah.new _ _ _,NUM.out.below ((Ext.refl _).alloc _).below,aa.ag ((Ext.refl _).alloc _).below fun x hx=>hx.1⟩;have:=TV.out.alloc (.cells #[.int .i64 p.1,.int .i64 p.2] 79);rwa[HL.out]at this ⊢
   case round=>
    obtain⟨rfl,k,r,hk,hr,rfl,htv,hob,hnv,wU,hnum,U7⟩:=hrel;obtain⟨wi,rfl⟩:∃ wi:World,wi=wr:=⟨_,rfl⟩;have RO:=hid (iO (P:=gu a b) SO.out.nodup SO.out.le SO.out.all k (fun j hj=>FI.out p j PP.out (by omega)) hr);obtain⟨M,hM⟩:∃ M,M=r.1.length:=⟨_,rfl⟩;have hMf:M<=f:=by have:=RO.out.le;omega
    rw[<-hM]at htv;obtain⟨NY,NZ,rfl⟩:=ownsRow_form htv;obtain⟨MD,MG,rfl⟩:=ownsRow_form hnv;have htg:=TV.out.lt tg rfl;have BI:=hid (HB.out.keeps U7 ⟨by omega,by omega,by intro e;injection e;omega⟩);have XI:Hid (Below w4.heap.size w4 wi):=hid (HX.out.trans (U7.mono fun x hx=>⟨by omega,by have:x<w4.heap.size:=hx;omega,by have:x<w4.heap.size:=hx;intro e;injection e;omega⟩:aa (· <w4.heap.size) wo wi).below);have TI:=hid htv;have OI:=hid hob;have NI:=hid hnv;have PB:=hid wU;have NUI:=hid hnum;have KP:=hid U7;have HR:=hid hr;have HM:=hid hM;have aqG:wo.heap.size<wi.heap.size:=wU.lt;clear htv hob hnv wU hnum U7 hr hM;by_cases hkK:k<K
    ·obtain⟨⟨p0,p1,p2,p3,p4,p5,p6,p7,p8,p9⟩,_⟩:=BI.out.ten
     have pc0:=PB.out.cell 0;have pc1:=PB.out.cell 1;have gz:(k:Int)<K:=by omega
     clear t1 t2 j1 q6;go_wp2_with fail
     refine(CN.out wi _ _ p k (IB.out.below XI.out) PP.out hkK).mono ?_;rintro e w6 ⟨rfl,hx⟩;obtain⟨q,hq⟩:∃ q,q=F p k:=⟨_,rfl⟩;have QI:=hid (FI.out p k PP.out hkK);rw[<-hq]at QI ⊢;have HQ:=hid hq;have Q4:=hid (PI.out q QI.out);have T6:=hid (aq TI.out hx);have N6:=hid (aq NI.out hx);have PB6:=hid (PB.out.below hx PB.out.lt);have NU6:=hid (NUI.out.below hx);have K6:=hid (KP.out.tr (aa.ag hx fun x my=>by have:=my.1;omega));have X6:=hid (XI.out.trans (hx.mono XI.out.size));have aqH:wo.heap.size<w6.heap.size:=PB6.out.lt;have E86:=hid (E8.out.keeps (aa.ag X6.out fun _ h=>h:aa (· <w4.heap.size) w4 w6) aeh);clear hq hx p0 p1 p2 p3 p4 p5 p6 p7 p8 p9 pc0 pc1 BI;have T6o:=hid (T6.out.alloc (.cells #[.int .i64 q.1,.int .i64 q.2] 79));have BK:=RU (w:=w6.alloc (.cells #[.int .i64 q.1,.int .i64 q.2] 79)) (NU6.out.below ((Ext.refl _).alloc _).below) RO.out.nodup (fun x hx=>PI.out x (RO.out.all x hx)) q Q4.out.1 Q4.out.2;rcases BK with⟨MC,hl⟩ | ⟨hqi,hl⟩
     ·have hl':(Instr.lookup 80 (.map (some (w4.heap.size+1+1))) (.agg #[.int .i64 q.1,.int .i64 q.2]) true).run Tryz.prog (w6.alloc (.cells #[.int .i64 q.1,.int .i64 q.2] 79))=.ok (.tuple #[.int .i64 0,.bool false]) (w6.alloc (.cells #[.int .i64 q.1,.int .i64 q.2] 79)):=hl
      clear hl;by_cases hMe:M=f
      ·have d5:((M:Int)==f)=true:=by rw[beq_iff_eq];omega
       have z:=fun o:Obj=>(E86.out.alloc o).three
       have z0:=fun o=>(z o).1.1
       have z1:=fun o=>(z o).1.2.1
       have z2:=fun o=>(z o).1.2.2
       have z3:=fun o=>(z o).2.1
       have z4:=fun o=>(z o).2.2.1
       have z5:=fun o=>(z o).2.2.2
       clear z;go_wp2;refine bB ?_;intro W9 dK;have E9:Hid (ah W9 (w.heap.size+2) #[.slice none 0 0,.slice none 0 0,.slice none 0 0] 28/\Below w.heap.size w W9):=by rw[dK];exact hid ⟨(E86.out.alloc _).rW,dZ ((X4.out.trans (X6.out.mono X4.out.size)).alloc (by have h8:=X4.out.size;have h9:=X6.out.size;omega) _) (by omega)⟩
       clear dK;obtain⟨⟨m0,m1,m2⟩,_⟩:=E9.out.1.three;refine bodyPost_ret (v:=.tuple #[.agg #[.slice none 0 0,.slice none 0 0,.slice none 0 0],.int .i64 181]) (by simp[results,Tryz.results12,go_sem,m0,m1,m2]) rfl ?_;have hnone:bO f (F p) st.1 (k+1)=none:=by
        rw[bO,HR.out, <-HQ.out];exact Cq MC (by rw[<-HM.out];exact hMe)
       have R8:cS f F K (0,0) (n+1)=none:=by rw[cS,ST.out];show cB f F K n st=none;unfold cB;rw[HP.out];show(bO f (F p) st.1 K).map _=none;rw[yx hnone K (by omega)];rfl
       have Sa:=EN.out (n+1) R8 (by omega);rw[Sa];exact⟨_,rfl,Ez _ _,E9.out.2⟩
      ·have d5:((M:Int)==f)=false:=by rw[beq_eq_false_iff_ne];omega
       obtain⟨w7,hput,ael,hk7,Rh⟩:=Wq (w:=w6.alloc (.cells #[.int .i64 q.1,.int .i64 q.2] 79)) (NU6.out.below ((Ext.refl _).alloc _).below) (fun x hx=>PI.out x (RO.out.all x hx)) q Q4.out.1 Q4.out.2 MC;have aem:(Instr.mapUpdate 80 (.map (some (w4.heap.size+1+1))) (.agg #[.int .i64 q.1,.int .i64 q.2]) (.int .i64 M)).run Tryz.prog (w6.alloc (.cells #[.int .i64 q.1,.int .i64 q.2] 79))=.ok () w7:=by rw[HM.out];exact hput
       have NU7:=hid ael;have amx:wo.heap.size+1<w7.heap.size:=by rw[Rh];simp;omega
       have K67:=hid hk7;have T7:=hid (aQ T6o.out hk7 fun x h1 _ e=>by omega);have N7:=hid (aQ (N6.out.alloc (.cells #[.int .i64 q.1,.int .i64 q.2] 79)) hk7 fun x h1 _ e=>by omega);clear hput ael hk7 Rh;have qc:=(ah.new w6 #[.int .i64 q.1,.int .i64 q.2] 79);have B7:=hid (qc.keeps K67.out (by show w6.heap.size≠w4.heap.size+2;omega));have qc0:=B7.out.cell 0;have qc1:=B7.out.cell 1;clear qc;go_wp2_with (at_builtin;refine wpList_append_own_at _ rfl (.tmp 101) (.tmp 103) 81 rfl (w4.heap.size+3) 79 iP (.agg #[.int .i64 0,.int .i64 0]) 2 16 Tryz.underlying81 hiP ajr ajs ajt rfl (by decide) _ _ _ rfl (T7.out.alloc _) ⟨_,0,none⟩ 1 1 [.int .i64 q.1,.int .i64 q.2] rfl rfl (bU (ah.new _ _ _)) (by intro u hu;simp at hu;rcases hu with rfl | rfl<;>rfl) (by unfold maxLen;omega) (by omega) (by simp;omega) ?_;intro v' w8 hown' hgrow hh hat;have HO8:=hid hown';have HG:=hid hgrow;have Mp:=hid hat;clear hown' hgrow hh hat;refine Hid.out ?_);refine hid ?_;have NVf:Hid (w8.ownsRow (wo.heap.size+1) 3 1 (.slice MD k MG) k ((r.2.map Int.ofNat).map aS)):=hid ((N7.out.alloc (.cells #[.int .i64 q.1,.int .i64 q.2] 79)).kept HG.out (ownBlock_ne (by decide) (N7.out.alloc (.cells #[.int .i64 q.1,.int .i64 q.2] 79)) (T7.out.alloc (.cells #[.int .i64 q.1,.int .i64 q.2] 79))))
       have h8g:aa (fun x=>x<wo.heap.size+1/\some tg≠some x) (w7.alloc (.cells #[.int .i64 q.1,.int .i64 q.2] 79)) w8:=aa.bG HG.out fun x hx=>⟨by have:=hx.1;simp;omega,fun e=>by
        rcases OI.out with h5 | h5
        ·exact hx.2 (h5.symm.trans e.symm)
        ·have:=h5 x e.symm
         have:=hx.1
         omega⟩
       have h8k:aa (fun x=>x<wo.heap.size+1/\some tg≠some x) w7 w8:=((aa.refl _ _).alloc (fun x hx=>by have:=hx.1;omega) _).tr h8g;have Wt:Hid (ah w8 wo.heap.size #[.int .i64 p.1,.int .i64 p.2] 79):=hid (((PB6.out.alloc _).keeps K67.out (by show wo.heap.size≠w4.heap.size+2;omega)).keeps h8k ⟨by omega,by intro e;injection e;omega⟩);have NUf:Hid (je w8 (w4.heap.size+2) (r.1++ [q])):=hid (NU7.out.keeps h8k ⟨by omega,by intro e;injection e;omega⟩);have KPf:Hid (aa (fun x=>x<wo.heap.size/\x≠w4.heap.size+2/\some tg≠some x) wo w8):=hid (((K6.out.alloc (fun x hx=>by have:=hx.1;omega) (.cells #[.int .i64 q.1,.int .i64 q.2] 79)).tr (K67.out.mono fun x hx=>hx.2.1)).tr (h8k.mono fun x hx=>⟨by have:=hx.1;omega,hx.2.2⟩));obtain⟨l',hl'⟩:∃ l',l'=r.1++ [q]:=⟨_,rfl⟩;obtain⟨M',yD⟩:∃ M',M'=M+1:=⟨_,rfl⟩;have HM':Hid (M'=l'.length):=hid (by rw[yD,hl',HM.out];simp);have TVf:Hid (w8.ownsRow (w4.heap.size+3) 79 2 v' M' (mK l')):=hid (by rw[hl',yD,Ey];exact HO8.out)
       have OBf:Hid (v'.ownBlock=some tg\/∀ x,v'.ownBlock=some x->wo.heap.size+1<=x):=hid (by
        rcases Mp.out with h5 | h5
        ·rw[h5];exact OI.out
        ·right;intro x e;rw[h5]at e;injection e with e;simp at e;omega)
       have RTf:Hid (bO f (F p) st.1 (k+1)=some (l',r.2++ [M])):=hid (by
        rw[bO,HR.out, <-HQ.out];show dI f r q=_
        rw[Hm MC (by rw[<-HM.out];exact hMe),hl',HM.out])
       rw[<-hl']at NUf;obtain⟨ta',tc',rfl⟩:=ownsRow_form TVf.out;clear h8g h8k hl' yD aem HO8 HG Mp qc0 qc1 B7 T7 N7 NU7 K67 T6 N6 PB6 NU6 K6 T6o TI OI NI PB NUI KP;go_wp2_with (at_builtin;refine wpList_append_own_at _ rfl (.tmp 105) (.tmp 107) 47 rfl (wo.heap.size+1) 3 iI (.int .i64 0) 1 8 Tryz.underlying47 Hh pT pU pV rfl (by decide) _ _ _ rfl (NVf.out.alloc _) ⟨_,0,none⟩ 1 1 [.int .i64 M] rfl rfl (bU (ah.new _ _ _)) (by intro u hu;simp at hu;rw[hu];rfl) (by unfold maxLen;omega) (by omega) (by have:=Wt.out.lt;simp;omega) ?_;intro v' w9 hown' hgrow hh hat;have HO9:=hid hown';have HG:=hid hgrow;clear hown' hgrow hh hat);have K9:aa (fun x=>x<wo.heap.size+1) w8 w9:=((aa.refl _ _).alloc (fun x hx=>by have:=Wt.out.lt;have:x<wo.heap.size+1:=hx;omega) _).tr (aa.bG HG.out fun x hx=>⟨by have:=Wt.out.lt;have:x<wo.heap.size+1:=hx;simp;omega,fun e=>by have:=(NVf.out.lt x e.symm).1;have:x<wo.heap.size+1:=hx;omega⟩);go_roundw;case rel=>
        refine⟨rfl,k+1,(l',r.2++ [M]),by omega,RTf.out,by go_num,?_,OBf.out,?_,Wt.out.keeps K9 (by show wo.heap.size<wo.heap.size+1;omega),NUf.out.keeps K9 (by show w4.heap.size+2<wo.heap.size+1;omega),KPf.out.tr (K9.mono fun x hx=>by have:=hx.1;show x<wo.heap.size+1;omega)⟩
        ·have:=(TVf.out.alloc (.cells #[.int .i64 M] 3)).kept HG.out (ownBlock_ne (by decide) (TVf.out.alloc (.cells #[.int .i64 M] 3)) (NVf.out.alloc (.cells #[.int .i64 M] 3)))
         rwa[HM'.out]at this ⊢
        ·have:=HO9.out
         rw[List.map_append,List.map_append];exact this
       case measure=>simp[intOf];omega
     ·have hl':(Instr.lookup 80 (.map (some (w4.heap.size+1+1))) (.agg #[.int .i64 q.1,.int .i64 q.2]) true).run Tryz.prog (w6.alloc (.cells #[.int .i64 q.1,.int .i64 q.2] 79))=.ok (.tuple #[.int .i64 (N4 r.1 q),.bool true]) (w6.alloc (.cells #[.int .i64 q.1,.int .i64 q.2] 79)):=hl
      clear hl;obtain⟨Wf,Yv⟩:∃ W:World,W=w6.alloc (.cells #[.int .i64 q.1,.int .i64 q.2] 79):=⟨_,rfl⟩;have aqI:wo.heap.size+1<Wf.heap.size:=by rw[Yv];simp;omega
      have NVf:Hid (Wf.ownsRow (wo.heap.size+1) 3 1 (.slice MD k MG) k ((r.2.map Int.ofNat).map aS)):=hid (by rw[Yv];exact N6.out.alloc _);have TVf:Hid (Wf.ownsRow (w4.heap.size+3) 79 2 (.slice NY M NZ) M (mK r.1)):=hid (by rw[Yv];exact T6o.out);have Wt:Hid (ah Wf wo.heap.size #[.int .i64 p.1,.int .i64 p.2] 79):=hid (by rw[Yv];exact PB6.out.alloc _);have NUf:Hid (je Wf (w4.heap.size+2) r.1):=hid (by rw[Yv];exact NU6.out.below ((Ext.refl _).alloc _).below);have KPf:Hid (aa (fun x=>x<wo.heap.size/\x≠w4.heap.size+2/\some tg≠some x) wo Wf):=hid (by rw[Yv];exact K6.out.alloc (fun x hx=>by have:=hx.1;omega) _)
      have RTf:Hid (bO f (F p) st.1 (k+1)=some (r.1,r.2++ [N4 r.1 q])):=hid (by
       rw[bO,HR.out, <-HQ.out];show dI f r q=_
       exact Hn hqi)
      have OBf:=OI;have HM':=HM;have hl2:(Instr.lookup 80 (.map (some (w4.heap.size+1+1))) (.agg #[.int .i64 q.1,.int .i64 q.2]) true).run Tryz.prog (w6.alloc (.cells #[.int .i64 q.1,.int .i64 q.2] 79))=.ok (.tuple #[.int .i64 (N4 r.1 q),.bool true]) Wf:=by rw[Yv];exact hl'
      obtain⟨s,hs⟩:∃ s,s=N4 r.1 q:=⟨_,rfl⟩;rw[<-hs]at hl2 RTf;obtain⟨l',qK⟩:∃ l',l'=r.1:=⟨_,rfl⟩;rw[<-qK]at TVf NUf RTf HM';clear hl' Yv hs qK T6 N6 PB6 NU6 K6 T6o TI OI NI PB NUI KP hqi;go_wp2_with (at_builtin;refine wpList_append_own_at _ rfl (.tmp 105) (.tmp 107) 47 rfl (wo.heap.size+1) 3 iI (.int .i64 0) 1 8 Tryz.underlying47 Hh pT pU pV rfl (by decide) _ _ _ rfl (NVf.out.alloc _) ⟨_,0,none⟩ 1 1 [.int .i64 s] rfl rfl (bU (ah.new _ _ _)) (by intro u hu;simp at hu;rw[hu];rfl) (by unfold maxLen;omega) (by omega) (by have:=Wt.out.lt;simp;omega) ?_;intro v' w9 hown' hgrow hh hat;have HO9:=hid hown';have HG:=hid hgrow;clear hown' hgrow hh hat);have K9:aa (fun x=>x<wo.heap.size+1) Wf w9:=((aa.refl _ _).alloc (fun x hx=>by have:=Wt.out.lt;have:x<wo.heap.size+1:=hx;omega) _).tr (aa.bG HG.out fun x hx=>⟨by have:=Wt.out.lt;have:x<wo.heap.size+1:=hx;simp;omega,fun e=>by have:=(NVf.out.lt x e.symm).1;have:x<wo.heap.size+1:=hx;omega⟩);go_roundw;case rel=>
       refine⟨rfl,k+1,(l',r.2++ [s]),by omega,RTf.out,by go_num,?_,OBf.out,?_,Wt.out.keeps K9 (by show wo.heap.size<wo.heap.size+1;omega),NUf.out.keeps K9 (by show w4.heap.size+2<wo.heap.size+1;omega),KPf.out.tr (K9.mono fun x hx=>by have:=hx.1;show x<wo.heap.size+1;omega)⟩
       ·have:=(TVf.out.alloc (.cells #[.int .i64 s] 3)).kept HG.out (ownBlock_ne (by decide) (TVf.out.alloc (.cells #[.int .i64 s] 3)) (NVf.out.alloc (.cells #[.int .i64 s] 3)))
        rwa[HM'.out]at this ⊢
       ·have:=HO9.out
        rw[List.map_append,List.map_append];exact this
      case measure=>simp[intOf];omega
    ·obtain rfl:k=K:=by omega
     have hrow:cS f F k (0,0) (n+1)=some (r.1,st.2++ [r.2]):=by rw[cS,ST.out];show cB f F k n st=_;unfold cB;rw[HP.out];show(bO f (F p) st.1 k).map _=_;rw[HR.out];rfl
     have gY:=hid hrow;clear hrow t1 t2 j1 q6;have NXI:=hid (Ql.out.RY TV.out KP.out (by omega));have MKI:=hid (Ws.out.RY TV.out KP.out (by omega));have BOI:=hid (HBO.out.keeps KP.out ⟨by omega,by omega,by intro e;injection e;omega⟩);have L1:Hid (∀ x,(Value.slice na n nc).ownBlock=some x->x<wo.heap.size/\w4.heap.size+3<=x):=hid (by obtain⟨us,_,h2,_⟩:=Ql.out;exact fun x e=>⟨(h2.lt x e).2,(h2.lt x e).1⟩);have L2:Hid (∀ x,(Value.slice ma n mc).ownBlock=some x->x<wo.heap.size/\w4.heap.size+3<=x):=hid (by obtain⟨us,_,h2,_⟩:=Ws.out;exact fun x e=>⟨(h2.lt x e).2,(h2.lt x e).1⟩);obtain⟨us,u1,u2,u3⟩:=NXI.out;obtain⟨ms,m1,m2,m3⟩:=MKI.out;have Kp:us.length=n:=by rw[u1];simp[HL2.out]
     have Cr:ms.length=n:=by rw[m1];simp;have:=HL.out;omega
     rw[Kp]at u2;rw[Cr]at m2;obtain⟨ml,uC⟩:∃ x,x=(bX a b op p).length:=⟨_,rfl⟩;obtain⟨mx,hmx⟩:∃ x,x=(bX a b op p).map aS:=⟨_,rfl⟩;have Mx:Hid (∀ W base u,kC base W u a b op->Calls Tryz.prog 35 #[u,.agg #[.int .i64 p.1,.int .i64 p.2]] W fun e w'=>∃ m,e=.returned m/\w'.ownsRow W.heap.size 3 1 m ml mx/\Below W.heap.size W w'):=hid fun W base u hb=>by rw[uC,hmx];exact CM.out W base u p hb PP.out
     have U1:=hid u1;have U2:=hid u2;have U3:=hid u3;have M1:=hid m1;have M2:=hid m2;have M3:=hid m3;have Yw:=hid Kp;have Qo:=hid Cr;have AW:=hid uC;have MH:=hid hmx;clear u1 u2 u3 m1 m2 m3 Kp Cr uC hmx NXI MKI Ql Ws;obtain⟨PL,qR⟩:∃ PL:List gS.App,PL=[gg wi.heap.size (.slice na n nc) n us (.slice MD k MG),mkApp wi.heap.size (.slice ma n mc) n ms ml mx]:=⟨_,rfl⟩;have jH:PL[0]? =some (gg wi.heap.size (.slice na n nc) n us (.slice MD k MG)):=by rw[qR];rfl
     have mq:PL[1]? =some (mkApp wi.heap.size (.slice ma n mc) n ms ml mx):=by rw[qR];rfl
     have hall:∀ q∈PL,q=gg wi.heap.size (.slice na n nc) n us (.slice MD k MG)\/q=mkApp wi.heap.size (.slice ma n mc) n ms ml mx:=fun q hq=>by rw[qR]at hq;simpa using hq
     have yE:Hid (gS.kB wi PL):=hid ⟨fun q hq=>by rcases hall q hq with rfl | rfl<;>exact Nat.le_refl _,fun q hq x e=>by
      rcases hall q hq with rfl | rfl
      ·have:=L1.out x e;omega
      ·have:=L2.out x e;omega,fun i j q q' hi hj oZ=>by
      have hl:PL.length=2:=by rw[qR];rfl
      have h1:=(List.getElem?_eq_some_iff.1 hi).1;have h2:=(List.getElem?_eq_some_iff.1 hj).1;rcases(show i=0\/i=1 by omega)with rfl | rfl<;>rcases(show j=0\/j=1 by omega)with rfl | rfl<;>(first | (exact absurd rfl oZ) | skip)<;>(first | rw[jH]at hi | rw[mq]at hi)<;>(first | rw[jH]at hj | rw[mq]at hj)<;>cases hi<;>cases hj
      ·exact Qm.out
      ·exact Qm.out.symm⟩
     have yC:∀ x,(x<w4.heap.size+3\/wo.heap.size<=x)->¬ ∃ q∈PL,q.v.ownBlock=some x:=fun x hx ⟨q,hq,e⟩=>by
      rcases hall q hq with rfl | rfl
      ·have:=L1.out x e;omega
      ·have:=L2.out x e;omega
     have wX:=hid hall;have sM:=hid yC;have pW:Hid (∀ W',gS.bT (w4.heap.size+3) wi PL wi W'->Below w4.heap.size w4 W'):=hid fun W' h=>XI.out.trans (h.keeps.mono fun x hx=>⟨by have:x<w4.heap.size:=hx;omega,yC x (by have:x<w4.heap.size:=hx;omega)⟩:aa (· <w4.heap.size) wi W').below
     clear qR hall yC hkK;go_wp2;have HST:Hid (∀ W W' u,gS.bT (w4.heap.size+3) wi PL W W'->(u.oneCell'=true/\W.ownsRow wi.heap.size 3 1 u ml mx)->(u.oneCell'=true/\W'.ownsRow wi.heap.size 3 1 u ml mx)):=hid fun W W' u hm h=>⟨h.1,aj h.2 hm.keeps fun x hx=>⟨(h.2.lt x hx).2,sM.out x (.inr (by have:=(h.2.lt x hx).1;omega))⟩⟩
     refine RegG.aY (gS.bT (w4.heap.size+3) wi PL) (gS.bT.drew) (fun _ _ _ h k=>h.trans k) (by kernel_rfl) 13 [0,1,0,4,15,0,32,0,0,415,927,2047,127,8191,16383,32767] (fun i=>i==3 || i==4 || i==9 || i==10 || i==11) (by kernel_rfl) (fun j=>if j=11 then some 114 else none) (fun j hj=>(by first | rfl | (have eE:16<=j:=hj;first | exact if_neg (by omega) | (split<;>first | omega | rfl)))) (by kernel_rfl) (fun i=>if i=3 then gS.fU.pK (w4.heap.size+3) wi PL 1 #[.slice MD k MG] 47 else if i=4 then gS.fU.app (w4.heap.size+3) wi PL (gg wi.heap.size (.slice na n nc) n us (.slice MD k MG)) (List.mem_of_getElem? jH)else if i=9 then gS.fU.row (w4.heap.size+3) wi PL yE.out wi.heap.size (Nat.le_refl _) 3 1 ml mx else if i=10 then gS.fU.N9 (w4.heap.size+3) wi PL 47 (fun W u=>u.oneCell'=true/\W.ownsRow wi.heap.size 3 1 u ml mx) HST.out else if i=11 then gS.fU.nH (w4.heap.size+3) wi PL (mkApp wi.heap.size (.slice ma n mc) n ms ml mx) (List.mem_of_getElem? mq)else RegG.aH.any _) ?_;intro C hC hne;have HC:=hid hC;have lB:∀ {x:Nat},x<wi.heap.size->(¬ ∃ q∈PL,q.v.ownBlock=some x)->∀ W: {W//C W},W.1.heap[x]? =wi.heap[x]? :=fun {x} h1 h2 W=>((hC W.1).1 W.2).keeps.keep x ⟨h1,h2⟩
     have t10:=fun W: {W//C W} =>((BI.out.same (lB BI.out.lt (sM.out w4.heap.size (by omega)) W)).ten).1
     have b0:=fun W: {W//C W} =>(t10 W).1
     have b1:=fun W: {W//C W} =>(t10 W).2.1
     have b2:=fun W: {W//C W} =>(t10 W).2.2.1
     have b3:=fun W: {W//C W} =>(t10 W).2.2.2.1
     have b4:=fun W: {W//C W} =>(t10 W).2.2.2.2.1
     have b5:=fun W: {W//C W} =>(t10 W).2.2.2.2.2.1
     have b6:=fun W: {W//C W} =>(t10 W).2.2.2.2.2.2.1
     have b7:=fun W: {W//C W} =>(t10 W).2.2.2.2.2.2.2.1
     have b8:=fun W: {W//C W} =>(t10 W).2.2.2.2.2.2.2.2.1
     have b9:=fun W: {W//C W} =>(t10 W).2.2.2.2.2.2.2.2.2
     have pp0:∀ W: {W//C W},W.1.cell? ⟨wo.heap.size,0,none⟩=some (.int .i64 p.1):=fun W=>(PB.out.same (lB PB.out.lt (sM.out _ (by omega)) W)).cell 0
     have pp1:∀ W: {W//C W},W.1.cell? ⟨wo.heap.size,1,none⟩=some (.int .i64 p.2):=fun W=>(PB.out.same (lB PB.out.lt (sM.out _ (by omega)) W)).cell 1
     have o1:∀ W: {W//C W},W.1.cell? ⟨w4.heap.size+1,1,none⟩=some (.slice na n nc):=fun W=>(BOI.out.same (lB BOI.out.lt (sM.out _ (by omega)) W)).cell 1
     have o2:∀ W: {W//C W},W.1.cell? ⟨w4.heap.size+1,2,none⟩=some (.slice ma n mc):=fun W=>(BOI.out.same (lB BOI.out.lt (sM.out _ (by omega)) W)).cell 2
     clear hC lB t10
     repeat (refine RegG.ae (fun K hK=>?_);first | (refine RegG.aR rfl ?_;try go_simp;refine hK _ _ ?_;clear hK K) | (refine RegG.aO rfl rfl ?_;unfold ai;go_simp;refine hK _ _ ?_;clear hK K))
     refine RegG.ae (fun K hK=>?_);refine RegG.bg rfl rfl (gS.fU.pK (w4.heap.size+3) wi PL 1 #[.slice MD k MG] 47) rfl (fun W hW hN=>?_) (fun v hv=>?_)
     ·have hM:=(HC.out W).1 hW
      clear hW hK K
      (go_simp;exact⟨.below ((Ext.refl _).alloc _).below,⟨_,rfl⟩,fun b hb=>by cases hb;exact⟨ah.new _ _ _,yE.out.fresh hM.size⟩⟩)
     obtain⟨x3,rfl⟩:=hv;go_simp;refine hK _ _ ?_;clear hK K;refine RegG.ae (fun K hK=>?_);refine RegG.bg rfl rfl (gS.fU.app (w4.heap.size+3) wi PL (gg wi.heap.size (.slice na n nc) n us (.slice MD k MG)) (List.mem_of_getElem? jH)) rfl (fun W hW hN=>?_) (fun v hv=>?_)
     ·have hM:=(HC.out W).1 hW
      clear hW hK K;refine gS.cI (w0:=wi) (PL:=PL) (p:=(gg wi.heap.size (.slice na n nc) n us (.slice MD k MG))) (.tmp 111) (.tmp 113) 26 rfl iL (.slice none 0 0) 24 Tryz.underlying26 Gk oM oN oO rfl (show(0:Nat)<1 from by decide) yE.out jH rfl (hM.old _ (List.mem_of_getElem? jH) U2.out) ⟨x3,0,none⟩ 1 rfl [.slice MD k MG] rfl rfl (bU (hN.at 0 rfl (by kernel_rfl) x3 rfl).1) (by intro u hu;simp at hu;rw[hu];rfl) (by show n+1<=maxLen;unfold maxLen;omega) (by show(n+1)*24<=_;omega) (Nat.le_trans (by omega) hM.size) (show(0:Nat)<1 from by decide) hM.size (fun v W2 g1 g2 g3 _=>⟨g1,g2,g3⟩)
     obtain⟨rC,rD,hv2⟩:=hv;replace hv2:v=.slice rC (n+1) rD:=hv2;subst hv2;go_simp;refine hK _ _ ?_;clear hK K
     repeat (refine RegG.ae (fun K hK=>?_);first | (refine RegG.aR rfl ?_;try go_simp;refine hK _ _ ?_;clear hK K) | (refine RegG.aO rfl rfl ?_;unfold ai;go_simp;refine hK _ _ ?_;clear hK K))
     refine RegG.ae (fun K hK=>?_);refine RegG.bg rfl rfl (gS.fU.row (w4.heap.size+3) wi PL yE.out wi.heap.size (Nat.le_refl _) 3 1 ml mx) rfl (fun W hW hN=>?_) (fun v hv=>?_)
     ·have hM:=(HC.out W).1 hW
      clear hW hK K
      (go_simp;refine aB ((Mx.out W _ _ (IB.out.below (pW.out _ hM))).mono ?_);rintro e w2 ⟨um,rfl,ho,hx⟩;exact⟨_,rfl,.below hx,ownsRow_form ho,aA ho hM.size⟩)
     obtain⟨a9,c9,rfl⟩:=hv;go_simp;refine hK _ _ ?_;clear hK K;refine RegG.ae (fun K hK=>?_);refine RegG.bg rfl rfl (gS.fU.N9 (w4.heap.size+3) wi PL 47 (fun W u=>u.oneCell'=true/\W.ownsRow wi.heap.size 3 1 u ml mx) HST.out) rfl (fun W hW hN=>?_) (fun v hv=>?_)
     ·have hM:=(HC.out W).1 hW
      clear hW hK K
      (go_simp;exact⟨.below ((Ext.refl _).alloc _).below,⟨_,rfl⟩,fun b hb=>by cases hb;exact⟨⟨_,ah.new _ _ _,rfl,(show W.ownsRow wi.heap.size 3 1 (.slice a9 ml c9) ml mx from hN.at 0 rfl (by kernel_rfl)).alloc _⟩,yE.out.fresh hM.size⟩⟩)
     obtain⟨RI,rfl⟩:=hv;go_simp;refine hK _ _ ?_;clear hK K;refine RegG.ae (fun K hK=>?_);refine RegG.bg rfl rfl (gS.fU.nH (w4.heap.size+3) wi PL (mkApp wi.heap.size (.slice ma n mc) n ms ml mx) (List.mem_of_getElem? mq)) rfl (fun W hW hN=>?_) (fun v hv=>?_)
     ·have hM:=(HC.out W).1 hW
      have hq:gS.After (w4.heap.size+3) wi (gg wi.heap.size (.slice na n nc) n us (.slice MD k MG)) W (.slice rC (n+1) rD):=hN.at 2 rfl (by kernel_rfl);obtain⟨⟨ub,hb1,hb2,hb3⟩,_⟩:=hN.at 0 rfl (by kernel_rfl) RI rfl;clear hW hK K;refine gS.cI (w0:=wi) (PL:=PL) (p:=(mkApp wi.heap.size (.slice ma n mc) n ms ml mx)) (.tmp 116) (.tmp 120) 26 rfl iL (.slice none 0 0) 24 Tryz.underlying26 Gk oM oN oO rfl (show(0:Nat)<1 from by decide) yE.out mq rfl (hM.old _ (List.mem_of_getElem? mq) M2.out) ⟨RI,0,none⟩ 1 rfl [ub] ⟨ub,rfl,hb2,hb3⟩ rfl (bU hb1) (by intro u hu;simp at hu;rw[hu];exact hb2) (by show n+1<=maxLen;unfold maxLen;omega) (by show(n+1)*24<=_;omega) (Nat.le_trans (by omega) hM.size) (show(0:Nat)<1 from by decide) hM.size (fun v W2 g1 g2 g3 g4=>⟨g1,g2,g3,?_⟩);rcases g4 with g4 | g4
      ·exact .inl g4
      ·refine .inr (.inr fun e=>?_)
       rw[g4]at e;obtain⟨⟨ns,h5,_⟩,_⟩:=hq;have:=(h5.lt _ e.symm).2;omega
     obtain⟨Ao,sO,hv2⟩:=hv;replace hv2:v=.slice Ao (n+1) sO:=hv2;subst hv2;go_simp;refine hK _ _ ?_;clear hK K
     repeat (refine RegG.ae (fun K hK=>?_);first | (refine RegG.aR rfl ?_;try go_simp;refine hK _ _ ?_;clear hK K) | (refine RegG.aO rfl rfl ?_;unfold ai;go_simp;refine hK _ _ ?_;clear hK K))
     refine RegG.bh (fun W7 hW hH=>?_);have hM:=(HC.out W7).1 hW;have Q0:Hid (gS.After (w4.heap.size+3) wi (gg wi.heap.size (.slice na n nc) n us (.slice MD k MG)) W7 (.slice rC (n+1) rD)):=hid (hH _ (List.mem_of_getElem? (show _=some _ from rfl:_[3]? =some _)));have Q1:Hid (gS.After (w4.heap.size+3) wi (mkApp wi.heap.size (.slice ma n mc) n ms ml mx) W7 (.slice Ao (n+1) sO)/\((Value.slice Ao (n+1) sO).ownBlock=(Value.slice ma n mc).ownBlock\/mH (.slice Ao (n+1) sO) (.slice rC (n+1) rD))):=hid (hH _ (List.mem_of_getElem? (show _=some _ from rfl:_[0]? =some _)));have K7:Hid (aa (fun x=>x<wi.heap.size/\¬ ∃ q∈PL,q.v.ownBlock=some x) wi W7):=hid hM.keeps
     have KR:Hid (∀ (e:TypeId) (bs sz m:Nat) (u:Value) (ys:List Value),e≠47->wi.ownsRow bs e sz u m ys->W7.ownsRow bs e sz u m ys):=hid (by
      intro e bs sz m u ys he ho;refine aj ho K7.out fun x hx=>⟨(ho.lt x hx).2,?_⟩
      rintro⟨q,hq,Am⟩;rcases wX.out q hq with rfl | rfl
      ·rcases ownBlock_ne he ho U2.out with h5 | h5
       ·rw[h5]at hx;cases hx
       ·exact h5 (hx.trans Am.symm)
      ·rcases ownBlock_ne he ho M2.out with h5 | h5
       ·rw[h5]at hx;cases hx
       ·exact h5 (hx.trans Am.symm))
     have B7:=hid (BOI.out.keeps K7.out ⟨BOI.out.lt,sM.out _ (.inl (by omega))⟩);have BT:=hid (BI.out.keeps K7.out ⟨BI.out.lt,sM.out _ (.inl (by omega))⟩);have X7:=hid (pW.out W7 hM);have NU7:=hid (NUI.out.keeps K7.out ⟨NUI.out.lt,sM.out _ (.inl (by omega))⟩);have T7:Hid (W7.ownsRow (w4.heap.size+3) 79 2 (.slice NY M NZ) M (mK r.1)):=hid (KR.out _ _ _ _ _ _ (by decide) TI.out);have QE:r.2.length=k:=RO.out.len
     have O7:Hid (aW (w4.heap.size+3) W7 (.slice rC (n+1) rD) ((st.2.map fun r=>r.map Int.ofNat)++ [r.2.map Int.ofNat])):=hid (by
      obtain⟨⟨ns,h5,h6⟩,_⟩:=Q0.out;have h6:ns=[.slice MD k MG]:=h6;subst h6;refine aW.more U1.out Yw.out h5 (fun i u l hu hl=>KR.out _ _ _ _ _ _ (by decide) (U3.out i u l hu hl)) ?_;rw[show(r.2.map Int.ofNat).length=k by simp[QE]]
      exact aA (KR.out _ _ _ _ _ _ (by decide) NI.out) (by omega))
     have eH:r.1.take (n+1)=st.1.take n++ [p]:=by obtain⟨ys,NK⟩:=RO.out.pre;have h5:=(List.getElem?_eq_some_iff.1 HP.out).1;rw[<-NK,List.take_append_of_le_length (by omega),List.take_add_one,HP.out];rfl
     have P7:Hid (aW (w4.heap.size+3) W7 (.slice Ao (n+1) sO) ((r.1.take (n+1)).map (bX a b op))):=hid (by
      obtain⟨⟨⟨ns,h5,u,h6,_,h7⟩,_⟩,_⟩:=Q1.out;have h6:ns=[u]:=h6;subst h6;rw[eH,List.map_append];refine aW.more M1.out Qo.out h5 (fun i u l hu hl=>KR.out _ _ _ _ _ _ (by decide) (M3.out i u l hu hl)) ?_;rw[<-AW.out, <-MH.out]
      exact aA h7 (by omega))
     have FR:Hid (mH (.slice rC (n+1) rD) (.slice Ao (n+1) sO)):=hid (by
      rcases Q1.out.2 with h | h
      ·rcases Q0.out.2 with h' | h'
       ·rcases Qm.out with h3 | h3
        ·exact .inl (h'.trans h3)
        ·exact .inr (by rw[h',h];exact h3)
       ·by_cases e:(Value.slice rC (n+1) rD).ownBlock=none
        ·exact .inl e
        ·right
         intro e2;rw[h]at e2;cases e3:(Value.slice ma n mc).ownBlock with
         | none=>rw[e3]at e2;exact e e2
         | some x=>rw[e3]at e2;have:=h' x e2;have:=(L2.out x e3).1;omega
      ·exact h.symm)
     have hML:M=r.1.length:=HM.out;have hle:n+1<=r.1.length:=by obtain⟨ys,NK⟩:=RO.out.pre;have h5:=(List.getElem?_eq_some_iff.1 HP.out).1;rw[<-NK,List.length_append];omega
     clear hM hW hH HC b0 b1 b2 b3 b4 b5 b6 b7 b8 b9 pp0 pp1 o1 o2 jH mq yE wX sM pW HST K7 KR BOI BI NUI TI NI PB Q0 Q1 L1 L2 U1 U2 U3 M1 M2 M3 Yw Qo AW MH Mx eH;obtain⟨⟨k0,k1,k2⟩,z0,z1,z2⟩:=B7.out.three;go_wp2;go_roundw;case rel=>
      have kg:aa (· ≠w4.heap.size+1) W7 ((W7.setCell ⟨w4.heap.size+1,1,none⟩ (.slice rC (n+1) rD)).setCell ⟨w4.heap.size+1,2,none⟩ (.slice Ao (n+1) sO)):=
       ((aa.refl _ _).setCell (p:=⟨w4.heap.size+1,1,none⟩) (fun h=>h rfl) _).setCell (p:=⟨w4.heap.size+1,2,none⟩) (fun h=>h rfl) _
      refine⟨rfl,n+1,(r.1,st.2++ [r.2]),_,_,gY.out,hle,?_,BT.out.keeps kg (by omega),(B7.out.set 1 _).set 2 _,?_,P7.out.keeps kg (fun x h1 _ e=>by omega),FR.out,NU7.out.keeps kg (by omega),X7.out.trans (kg.mono fun x hx e=>by have:x<w4.heap.size:=hx;omega:aa (· <w4.heap.size) W7 _).below⟩
      ·rw[<-hML]
       exact aQ T7.out kg fun x h1 _ e=>by omega
      ·rw[List.map_append]
       exact O7.out.keeps kg (fun x h1 _ e=>by omega)
     case measure=>
      rw[Hk (HBO.out.cell 1),Hk (((B7.out.set 1 _).set 2 _).cell 1)];omega
  ·obtain rfl:n=L:=by omega
   have hst:=ST.out;have Sa:=ES.out n st ST.out (by rw[<-HL.out];exact Nat.le_refl _) hLf;have eH:st.1.take n=st.1:=by rw[HL.out];exact List.take_length
   have E8o:=hid (E8.out.keeps (aa.ag HX.out fun _ h=>h:aa (· <w4.heap.size) w4 wo) aeh);have CLo:=hid (aj I5.out (aa.ag HX.out fun _ h=>h:aa (· <w4.heap.size) w4 wo) fun x e=>(I5.out.lt x e).2);have MK2:=Ws;rw[eH]at MK2;have Gg:=I5.out.lt;clear hst eH j1;obtain⟨⟨k0,k1,k2⟩,_⟩:=HBO.out.three;obtain⟨_,z0,z1,z2⟩:=E8o.out.three;obtain⟨⟨y0x,y1x,y2x⟩,_⟩:=E8o.out.three;go_wp2;refine bB ?_;intro W9 dK;have E9:Hid (ah W9 (w.heap.size+2) #[.slice ca K cc,.slice na n nc,.slice ma n mc] 28/\aa (· ≠w.heap.size+2) wo W9):=by rw[dK];exact hid ⟨E8o.out.rW,((((aa.refl _ _).setCell (p:=⟨w.heap.size+2,0,none⟩) (fun h=>h rfl) _).setCell (p:=⟨w.heap.size+2,1,none⟩) (fun h=>h rfl) _).setCell (p:=⟨w.heap.size+2,2,none⟩) (fun h=>h rfl) _)⟩
   clear dK;obtain⟨⟨m0,m1,m2⟩,_⟩:=E9.out.1.three;refine bodyPost_ret (v:=.tuple #[.agg #[.slice ca K cc,.slice na n nc,.slice ma n mc],.int .i64 0]) (by simp[results,Tryz.results12,go_sem,m0,m1,m2]) rfl ?_;rw[Sa];refine⟨_,rfl,⟨_,_,_,rfl,?_,?_,?_⟩,(X4.out.trans (HX.out.mono X4.out.size)).trans (E9.out.2.mono fun x hx e=>by have:x<w.heap.size:=hx;omega:aa (· <w.heap.size) wo W9).below⟩
   ·show W9.ownsRow w.heap.size 59 4 _ (partsOf (a.cl++b.cl)).length _
    rw[<-HK.out];exact aA (aj CLo.out E9.out.2 fun x e=>by have:=(Gg x e).1;show x≠w.heap.size+2;omega) (by omega)
   ·exact(Ql.out.keeps E9.out.2 fun x h1 _=>by show x≠w.heap.size+2;omega).base (by omega)
   ·exact(MK2.out.keeps E9.out.2 fun x h1 _=>by show x≠w.heap.size+2;omega).base (by omega)
end Go.Proofs.YtalombmiochpmaaGreatDoor
