/- The law DfaTrims. Printed by wip/gen/o18.py. -/
import Derived.Test.YtbiboekhakbnpaaGreatDoorOFsTrm
import Derived.Test.YtbiboekhakbnpaaGreatDoorOFsTrb
set_option maxRecDepth 100000
set_option maxHeartbeats 16000000
open Go.Lib (hid)
namespace Go.Proofs.YtbiboekhakbnpaaGreatDoor
open Go Go.RowKit Go.Shelf Go.Maps
attribute [local go_sem] encS
theorem Gd (y W s:Nat) (hy:y<65536) (hW:W<=10000) (hs:s<W) (B1 B2:Nat) (w:World) (h1:ak w B1 #[.int .u16 y] 62) (h2:ak w B2 #[.int .i64 W] 3): Calls Tryz.prog 30 #[.int .i64 s,.pointer (some ⟨B1,0,none⟩),.pointer (some ⟨B2,0,none⟩)] w fun e w'=>e=.returned (.int .i64 (fO y W s))/\w'=w:=by
 have k1:=h1.cell 0;have k2:=h2.cell 0;replace k1:w.cell? ⟨B1,0,none⟩=some (.int .u16 y):=k1;replace k2:w.cell? ⟨B2,0,none⟩=some (.int .i64 W):=k2;clear h1 h2;by_cases h0:s=0
 ·subst h0
  have hn:fO y W 0=0:=rfl;rw[hn];clear hn k1 k2;go_enter Tryz.func30,Tryz.ntmps30;go_wp2;go_ret;exact⟨rfl,rfl⟩
 ·obtain⟨z,hz⟩:∃ z,z=fO y W s:=⟨_,rfl⟩
  rw[<-hz];have hz2:z=1+(s-1+y)% (W-1):=by rw[hz];unfold fO;rw[if_neg h0]
  clear hz;have hm:=Nat.mod_lt (s-1+y) (show 0<W-1 by omega);obtain⟨r,hr⟩:∃ r,r=(s-1+y)% (W-1):=⟨_,rfl⟩;rw[<-hr]at hz2 hm;obtain⟨p,hp⟩:∃ p,p=s-1:=⟨_,rfl⟩;obtain⟨q,hq⟩:∃ q,q=s-1+y:=⟨_,rfl⟩;obtain⟨m,s5⟩:∃ m,m=W-1:=⟨_,rfl⟩;rw[<-hq, <-s5]at hr;have e1:IntKind.i64.wrap ((s:Int)-1)=(p:Int):=by rw[IntWalk.i64_in _ (by omega)];omega
  have e2:IntKind.i64.wrap (y:Int)=(y:Int):=IntWalk.i64_in _ (by omega);have e3:IntKind.i64.wrap ((p:Int)+(y:Int))=(q:Int):=by rw[IntWalk.i64_in _ (by omega)];omega
  have e4:IntKind.i64.wrap ((W:Int)-1)=(m:Int):=by rw[IntWalk.i64_in _ (by omega)];omega
  have e5:((q:Int)).tmod (m:Int)=(r:Int):=by rw[hr];exact(Int.ofNat_tmod q m).symm
  have e6:IntKind.i64.wrap (1+(r:Int))=(z:Int):=by rw[IntWalk.i64_in _ (by omega)];omega
  have e7:¬ ((m:Int)=0):=by omega
  have e8:¬ ((s:Int)=0):=by omega
  clear hr hq s5 hp hz2;go_enter Tryz.func30,Tryz.ntmps30;go_wp2;go_ret;exact⟨rfl,rfl⟩
theorem xS (n:Nat):(madeCells (Value.slice none 0 0).cells (n*1)).toList=List.replicate n (Value.slice none 0 0):=by unfold madeCells;rw[Nat.mul_one];apply List.ext_getElem?;intro i;by_cases h:i<n<;>simp[h,Value.cells,Nat.mod_one]
theorem aC.zeros {base n:Nat} {w:World} {v:Value} (h:w.ownsRow base 37 1 v n (List.replicate n (Value.slice none 0 0))):aC base w v (List.replicate n []):=
 ⟨List.replicate n (Value.slice none 0 0),by rw[List.length_replicate,List.length_replicate],by rw[List.length_replicate];exact h,fun i u l hu hl=>by
  obtain⟨_,rfl⟩:=List.getElem?_eq_some_iff.1 hu;obtain⟨_,rfl⟩:=List.getElem?_eq_some_iff.1 hl;rw[List.getElem_replicate,List.getElem_replicate]
  exact World.ownsRow_nil _ _ _ _⟩
theorem aC.put {base g n c:Nat} {w:World} {L:List (List Int)} (h:aC base w (.slice (some ⟨g,0,none⟩) n c) L) (s:Nat) {u:Value} {row:List Int} (hu:w.ownsRow base 3 1 u row.length (row.map aF)): aC base (w.setCell ⟨g,s,none⟩ u) (.slice (some ⟨g,0,none⟩) n c) (L.set s row):=by
 obtain⟨us,h1,h2,h3⟩:=h;have hn:us.length=n:=by
  obtain⟨a,c',e⟩:=ownsRow_form h2;injection e with _ e _
  exact e.symm
 rw[hn]at h2;have key:∀ {x:Value} {m:Nat} {xs:List Value},w.ownsRow base 3 1 x m xs->(w.setCell ⟨g,s,none⟩ u).ownsRow base 3 1 x m xs:=fun hx=>
  ae hx ((aa.refl (· ≠g) _).setCell (p:=⟨g,s,none⟩) (fun h=>h rfl) _) fun k hk e=>by
   rcases ownBlock_ne (show(3:Nat)≠37 by decide) hx h2 with h5 | h5
   ·rw[h5]at hk;cases hk
   ·exact h5 (by rw[hk,e];rfl)
 refine⟨us.set s u,by rw[List.length_set,List.length_set,h1],?_,fun i x l hx hl=>?_⟩
 ·rw[List.length_set,hn]
  exact(h2.stored s u).1
 ·rw[List.getElem?_set]at hx hl
  by_cases e:s=i
  ·rw[if_pos e]at hx hl
   split at hx
   ·rw[if_pos (by rw[<-h1];assumption)]at hl
    cases hx;cases hl
    exact key hu
   ·cases hx
  ·rw[if_neg e]at hx hl
   exact key (h3 i x l hx hl)
theorem aC.at {base n c:Nat} {a:Option Addr} {W:World} {L:List (List Int)} (h:aC base W (.slice a n c) L) (hn:0<n):∃ g,a=some ⟨g,0,none⟩/\base<=g/\g<W.heap.size:=by
 obtain⟨us,h1,h2,_⟩:=h;have hl:us.length=n:=by
  obtain⟨_,_,e⟩:=ownsRow_form h2;injection e with _ e _
  exact e.symm
 rw[hl]at h2;obtain⟨g,u,e,h3,h4,_⟩:=eH h2 hn;exact⟨g,e,h3,h4⟩
theorem aC.cellAt {base n c g:Nat} {W:World} {L:List (List Int)} (h:aC base W (.slice (some ⟨g,0,none⟩) n c) L) {i:Nat} (hi:i<n):∃ u,W.cell? ⟨g,i,none⟩=some u/\W.frozen? ⟨g,i,none⟩=false:=by
 obtain⟨us,h1,h2,_⟩:=h;have hl:us.length=n:=by
  obtain⟨_,_,e⟩:=ownsRow_form h2;injection e with _ e _
  exact e.symm
 rw[hl]at h2;obtain⟨g',u,e,h3,h4,_,h5,h6⟩:=eH h2 hi;cases e;exact⟨u,h5,h6⟩
theorem kU.slices {g g' n n' c c':Nat} (h:g≠g'):kU (.slice (some ⟨g,0,none⟩) n c) (.slice (some ⟨g',0,none⟩) n' c'):=.inr fun e=>by
 have e2:some g=some g':=e;injection e2 with e2
 exact h e2
def rowP (d:DF) (y W s k:Nat):List Int:=(List.range k).map fun k=>((fO y W (Hj d s k):Nat):Int)
theorem xT (d:DF) (y W s k:Nat):(rowP d y W s (k+1)).map aF=(rowP d y W s k).map aF++ [jr (fO y W (Hj d s k))]:=by unfold rowP;rw[List.range_succ,List.map_append,List.map_append];rfl
theorem Ge (n:Nat):(List.range n).map jr=((List.range n).map Int.ofNat).map aF:=by rw[List.map_map];rfl
theorem Oh (n:Nat):((List.range n).map Int.ofNat).Pairwise (· < ·):=List.pairwise_map.2 (List.pairwise_lt_range.imp fun h=>Int.ofNat_lt.2 h)
theorem rX (v bv:Value) (l:List (List (Nat×Nat×Nat)×Bool×Nat)) (gv:l.length<=1000000000000000) (ub:Nat) (hub:ub<65536) (um:Nat) (_:um<256) (b:List Nat) (hb:∀ c∈b,c<256) (w:World) (h:jQ w v l) (nz:bg en w bv b) (hT:∀ W,Below w.heap.size w W->gO W): Calls Tryz.prog 7 #[v,.int .u16 ub,.int .u8 um,bv] w fun e w'=>e=.returned (.bool true)/\Below w.heap.size w w':=by
 have HT:=hid hT;have PK:=oq h;have CM:Hid (∀ W,Below w.heap.size w W->Calls Tryz.prog 10 #[v] W fun e w'=>∃ u,e=.returned (.tuple #[u,.bool true])/\bP W.heap.size w' u (cy l)/\Below W.heap.size W w'):=hid fun W hW=>n4 v l gv W (h.below hW)
 obtain⟨sa,sc,rfl⟩:=h.form;have Oi:(cy l).length<=4:=by rw[jl];omega
 obtain⟨P,hP⟩:∃ P,P=cy l:=⟨_,rfl⟩;rw[<-hP]at PK CM Oi;generalize l.length=sn at*;clear h hP hT;obtain⟨d,code,Hk⟩:∃ d code,fJ P 300=(d,code):=⟨_,_,rfl⟩;have two:=zq PK (f:=300) (by decide) (by decide);rw[Hk]at two;obtain⟨n0,cN⟩:∃ n,n=d.cl.length:=⟨_,rfl⟩;obtain⟨n1,fL⟩:∃ n,n=d.nx.length:=⟨_,rfl⟩;obtain⟨n2,jc⟩:∃ n,n=d.mr.length:=⟨_,rfl⟩;have TT:Hid (∀ A,Below w.heap.size w A->∀ V,Below A.heap.size A V->gO V):=hid fun A hA V hV=>HT.out V (hA.trans (hV.mono hA.size))
 have CO:Hid (∀ W u,Below w.heap.size w W->dh W u P->Calls Tryz.prog 11 #[u,.int .i64 300] W (Rm n0 n1 n2 code d W)):=hid fun W u hW hu=>jT PK Hk cN fL jc W u hu (TT.out W hW)
 have Rs:=hid PK;have JH:=hid Hk;have j8:=hid cN;have gS:=hid fL;have kI:=hid jc;obtain⟨pm,tk⟩:∃ m,m=P.length:=⟨_,rfl⟩;have aal:pm<=4:=by rw[tk];exact Oi
 have Ph:=hid tk;have EM:=hid hb;have Nl:=hid nz;obtain⟨ba,bc,rfl⟩:=nz.form;obtain⟨bn,y8⟩:∃ n,n=b.length:=⟨_,rfl⟩;obtain⟨bm,hbm⟩:∃ m,m=min bn 40:=⟨_,rfl⟩;have jy:min (bn:Int) 40=(bm:Int):=by omega
 have Oj:bm<=bn:=by omega
 have aam:bm<=40:=by omega
 rw[<-y8]at Nl nz ⊢;have ae4:bm<=bc:=Nat.le_trans Oj nz.cap;obtain⟨bb,Ru⟩:∃ x,x=b.take bm:=⟨_,rfl⟩;have jW:Hid (∀ W,Below w.heap.size w W->bg en W (.slice ba bm bc) bb):=hid fun W hW=>by rw[Ru];exact((Nl.out.below hW).take bm Oj)
 have eB:Hid (∀ c∈bb,c<256):=hid fun c hc=>by rw[Ru]at hc;exact EM.out c (List.mem_of_mem_take hc)
 have HBM:Hid (bm=bb.length):=hid (by rw[Ru,List.length_take];omega);clear PK Hk cN fL jc tk Oi hb nz y8 hbm Ru EM Nl;go_enter Tryz.func7,Tryz.ntmps7;go_upto_region 1 with fail
 refine au ?_;intro W0 hW0;have Y0:Hid (ak W0 w.heap.size #[.int .u16 ub] 62):=hid (by rw[hW0];exact ak.new w _ _);have X0:Hid (Below w.heap.size w W0):=hid (by rw[hW0];exact((Ext.refl w).alloc _).below);clear hW0;go_wp2_with fail
 refine(lY W0 (fun V hV=>HT.out V (X0.out.trans (hV.mono X0.out.size)))).mono ?_;rintro e w1 ⟨rfl,hx⟩;have X1:=hid (X0.out.trans (hx.mono X0.out.size));have Y1:=hid (Y0.out.below hx Y0.out.lt);clear hx Y0 X0;go_wp2_with fail
 refine(CM.out w1 X1.out).mono ?_;rintro e w2 ⟨u,rfl,ho,hx⟩;obtain⟨pa,pc,rfl⟩:=ho.form;have OP:=hid (show bP w1.heap.size w2 (.slice pa pm pc) P by rw[Ph.out];exact ho);have X2:=hid (X1.out.trans (hx.mono X1.out.size));rw[<-Ph.out];have Y2:=hid (Y1.out.below hx Y1.out.lt);clear ho hx CM;go_wp2_with fail
 refine(CO.out w2 _ X2.out OP.out.Ul).mono ?_;rintro e w3 ⟨a0,c0,a1,c1,a2,c2,rfl,hd,hx⟩;have X3:=hid (X2.out.trans (hx.mono X2.out.size));have OD:=hid hd;have VJ:=hid (OP.out.below hx);have aao:=X1.out.size;have Ol:=hx.size;have Y3:=hid (Y2.out.below hx Y2.out.lt);clear hd hx CO;rcases two with h0 | h0
 case inr=>
  replace h0:code=181:=h0;subst h0;go_wp2;go_ret;exact⟨rfl,X3.out.trans ((((Ext.refl _).alloc _).below).mono X3.out.size)⟩
 case inl=>
 replace h0:code=0:=h0;subst h0;have RT:Hid (Rt d):=hid (gi JH.out);have SD:Hid (Sm d):=hid RT.out.Ui;obtain⟨iI,GN,pE,pF,pG⟩:=info_parts Tryz.qW;obtain⟨iL,wW,kQ,kR,kS⟩:=info_parts Tryz.oZ;have Gf:n1=n2:=by rw[kI.out,gS.out];exact RT.out.mr.symm
 subst Gf;have aap:1<=n1/\n1<=300:=by
  obtain⟨st,_,_,f3,f4⟩:=uS JH.out;have h1:=ji f3;have h2:d.mr.length=st.1.length:=by rw[f4];simp[gy]
  have h3:(300:Int).toNat=300:=rfl;rw[kI.out.symm]at h2;omega
 have TR:Hid (l4 d=d):=hid (Dp JH.out).1;have RC:Hid (cB d=List.range n1):=hid (by rw[gS.out];exact(Dp JH.out).2);have cN:n0<=256:=by rw[j8.out];exact RT.out.Ey
 go_upto_region 5 with fail
 refine au ?_;intro V hV;have BD:Hid (ak V w3.heap.size #[.slice a0 n0 c0,.slice a1 n1 c1,.slice a2 n1 c2] 31):=hid (by rw[hV];exact ak.new w3 _ _);have XV:Hid (Below w3.heap.size w3 V):=hid (by rw[hV];exact((Ext.refl w3).alloc _).below);clear hV;have Pj:=hid (OD.out.below XV.out);have Y4:=hid (Y3.out.below XV.out Y3.out.lt);have X4:=hid (X3.out.trans (XV.out.mono X3.out.size));clear OD OP VJ XV X3 Y3;obtain⟨b0,b1,b2⟩:=aP.mN BD.out;go_wp2_with fail
 refine(Dq _ d RT.out SD.out V Pj.out.df).mono ?_;rintro e w4 ⟨u,rfl,ho,hx⟩;rw[TR.out]at ho;obtain⟨e0,g0,e1,g1,e2,g2,rfl⟩:=ho.form;rw[<-j8.out, <-gS.out, <-kI.out]at ho ⊢;have OT:=hid ho;have XA:=hid hx;clear ho hx b0 b1 b2;go_upto_region 8 with fail
 refine au ?_;intro V5 GZ;have BT:Hid (ak V5 w4.heap.size #[.slice e0 n0 g0,.slice e1 n1 g1,.slice e2 n1 g2] 31):=hid (by rw[GZ];exact ak.new w4 _ _);have XB:Hid (Below w4.heap.size w4 V5):=hid (by rw[GZ];exact((Ext.refl w4).alloc _).below);clear GZ;have X5:Hid (Below V.heap.size V V5):=hid (XA.out.trans (XB.out.mono XA.out.size));have OT5:=hid (OT.out.below XB.out);clear XA XB OT;obtain⟨b0,b1,b2⟩:=aP.mN (BD.out.below X5.out BD.out.lt);go_wp2_with fail
 refine(rJ _ d RT.out SD.out V5 (Pj.out.below X5.out).df).mono ?_;rintro e w6 ⟨u,rfl,ho,hx⟩;rw[RC.out,List.length_range]at ho;obtain⟨ra,rc,rfl⟩:=ownsRow_form ho;have RO:=hid ho;have X6:=hid (X5.out.trans (hx.mono X5.out.size));have OT6:=hid (OT5.out.below hx);have Xa:=hid (BT.out.below hx BT.out.lt);clear ho hx b0 b1 b2 OT5 BT X5;obtain⟨b0,b1,b2⟩:=aP.mN (BD.out.below X6.out BD.out.lt);obtain⟨d0,d1,d2⟩:=aP.mN Xa.out;go_wp2_with fail
 refine(eX _ _ d d w6 OT6.out.df.e (Pj.out.below X6.out).df.e SD.out).mono ?_;rintro e w7 ⟨rfl,hx⟩;rw[mO.2 rfl];have X7:=hid (X6.out.trans (hx.mono X6.out.size))
 have RO7:Hid (bg aF w7 (.slice ra n1 rc) ((List.range n1).map Int.ofNat)):=hid (by
  have:=ag RO.out hx;rw[Ge]at this
  exact cH this (by simp))
 clear hx b0 b1 b2 d0 d1 d2 RO OT6 Xa X6;obtain⟨b0,b1,b2⟩:=aP.mN (BD.out.below X7.out BD.out.lt);go_wp2_with fail
 refine(yn _ _ w7 RO7.out (by simp;omega) (Oh n1)).mono ?_;rintro e w8 ⟨rfl,hx⟩;have X8:=hid (X7.out.trans (hx.below.mono X7.out.size));clear hx b0 b1 b2 RO7 X7;obtain⟨b0,b1,b2⟩:=aP.mN (BD.out.below X8.out BD.out.lt);obtain⟨r,hr⟩:∃ r,r=um%5:=⟨_,rfl⟩;obtain⟨wn,hwn⟩:∃ x,x=n1+r:=⟨_,rfl⟩;have hr5:r<5:=by rw[hr];exact Nat.mod_lt _ (by decide)
 have q1:(um:Int).tmod 5=(r:Int):=by rw[hr];exact(Int.ofNat_tmod um 5).symm
 have q2:IntKind.i64.wrap (r:Int)=(r:Int):=IntWalk.i64_in _ (by omega);have q3:IntKind.i64.wrap ((n1:Int)+(r:Int))=(wn:Int):=by rw[IntWalk.i64_in _ (by omega)];omega
 have VK:n1<=wn/\wn<=304:=by omega
 have aas:0<wn:=by omega
 clear hr hwn;go_upto_region 13 with fail
 refine au ?_;intro V9 Om;have BW:Hid (ak V9 w8.heap.size #[.int .i64 wn] 3):=hid (by rw[Om];exact ak.new w8 _ _);have XB:Hid (Below w8.heap.size w8 V9):=hid (by rw[Om];exact((Ext.refl w8).alloc _).below);clear Om;have X9:Hid (Below V.heap.size V V9):=hid (X8.out.trans (XB.out.mono X8.out.size));have VL:=hid (Pj.out.below X9.out);have Y9:=hid (Y4.out.below X9.out Y4.out.lt);have JI:=hid (BD.out.below X9.out BD.out.lt);have Rv:Hid (Below w.heap.size w V9):=hid (X4.out.trans (X9.out.mono X4.out.size));have hbd:w3.heap.size<V9.heap.size:=JI.out.lt;have CN:Hid (∀ A,Below V9.heap.size V9 A->∀ t,t<wn->Calls Tryz.prog 30 #[.int .i64 t,.pointer (some ⟨w.heap.size,0,none⟩),.pointer (some ⟨w8.heap.size,0,none⟩)] A fun e w'=>e=.returned (.int .i64 (fO ub wn t))/\w'=A):=hid fun A hA t ht=>
  Gd ub wn t hub (by omega) ht _ _ A (Y9.out.below hA Y9.out.lt) (BW.out.below hA BW.out.lt)
 have CS:Hid (∀ A,Below V9.heap.size V9 A->Calls Tryz.prog 31 #[.slice a0 n0 c0] A fun e w'=>∃ u,e=.returned u/\w'.ownsRow A.heap.size 70 4 u n0 (aD d.cl)/\Below A.heap.size A w'):=hid fun A hA=>by
  obtain⟨v0,v1,v2,e,h0,_⟩:=(VL.out.below hA).df;cases e;have:=ju _ d.cl A h0 SD.out.cl;rw[<-j8.out]at this;exact this
 have eE:Hid (∀ A,Below V9.heap.size V9 A->∀ s,s<n1->∀ k,k<n0->∃ (x:Nat) (off:Nat) (ad:Option Addr) (cp:Nat) (x':Nat) (off':Nat),a1=some ⟨x,off,none⟩/\A.cell? ⟨x,off+s,none⟩=some (.slice ad n0 cp)/\ad=some ⟨x',off',none⟩/\A.cell? ⟨x',off'+k,none⟩=some (.int .i64 (Hj d s k:Nat))/\Hj d s k<n1):=hid fun A hA s hs k hk=>by
  obtain⟨v0,v1,v2,e,h0,h1,h2⟩:=(VL.out.below hA).df;cases e;have hs':s<d.nx.length:=by rw[<-gS.out];exact hs
  have hrow:d.nx[s]? =some (d.nx.getD s []):=bh [] hs';obtain⟨x,off,ad,cp,e1,e2,e3,e4⟩:=h1.elem hrow;rw[RT.out.len s hs', <-j8.out]at e3 e4;have G5:=Gg RT.out hs' (k:=k) (by rw[<-j8.out];exact hk);have htb:Hj d s k=rb d s k:=by unfold Hj;rw[if_pos hs']
  obtain⟨x',off',e5,_,e6⟩:=e4.elem G5.2.2;exact⟨x,off,ad,cp,x',off',e1,e3,e5,by rw[htb];exact e6,by rw[htb,gS.out];exact G5.1⟩
 have ae5:Hid (∀ A,Below V9.heap.size V9 A->∀ s,s<n1->∃ (x:Nat) (off:Nat) (ad:Option Addr) (cp:Nat),a2=some ⟨x,off,none⟩/\A.cell? ⟨x,off+s,none⟩=some (.slice ad (d.mr.getD s []).length cp)/\bg aF A (.slice ad (d.mr.getD s []).length cp) (d.mr.getD s [])/\x<A.heap.size):=hid fun A hA s hs=>by
  obtain⟨v0,v1,v2,e,h0,h1,h2⟩:=(VL.out.below hA).df;cases e;have hrow:d.mr[s]? =some (d.mr.getD s []):=bh [] (by rw[<-kI.out];exact hs);obtain⟨x,off,ad,cp,e1,e2,e3,e4⟩:=h2.elem hrow;exact⟨x,off,ad,cp,e1,e3,e4,e2⟩
 clear b0 b1 b2 q1 q2 q3 X8 XB BD Pj Y4 X4 X9;obtain⟨b0,b1,b2⟩:=aP.mN JI.out;have k0:V9.cell? ⟨w8.heap.size,0,none⟩=some (.int .i64 wn):=BW.out.cell 0;go_upto_region 14 with fail
 refine RegF.r8 (fun _=>False) (by kernel_rfl) 9 [0,1,3,0,8,0,32,127,0,511] (fun i=>i==2 || i==4 || i==6 || i==8 || i==9) (by kernel_rfl) [4,6] (by kernel_rfl) (fun i=>if i=2 then aO.row V9.heap.size 70 4 n0 (aD d.cl)else if i=4 then aO.GC V9.heap.size wn (List.replicate wn [])else if i=6 then aO.GC V9.heap.size wn (List.replicate wn [])else if i=8 then aO.Iq V9.heap.size #[.slice none 0 0,.slice none 0 0,.slice none 0 0] 31 else aO.any _) ?_;intro C hC hne;have HC:=hid hC;have f0:=ay hC (p:=⟨w3.heap.size,0,none⟩) JI.out.lt (fun h=>h) b0;have f1:=ay hC (p:=⟨w8.heap.size,0,none⟩) BW.out.lt (fun h=>h) k0;clear hC b0 b1 b2 k0
 repeat (refine RegF.ai (fun K hK=>?_);first | (refine RegF.br rfl ?_;try go_simp;refine hK _ _ ?_;clear hK K) | (refine RegF.aZ rfl rfl ?_;unfold ar;go_simp;refine hK _ _ ?_;clear hK K))
 refine RegF.ai (fun K hK=>?_);refine RegF.bA rfl rfl rfl (aO.row V9.heap.size 70 4 n0 (aD d.cl)) rfl (fun W hW hN=>?_) (fun v hv=>?_)
 ·have hM:=(HC.out W).1 hW
  clear hW;go_simp;refine aT ((CS.out W hM.below).mono ?_);rintro e w2 ⟨u,rfl,ho,hx⟩;exact⟨_,rfl,Move.ah hx,ownsRow_form ho,ax ho hM.size⟩
 obtain⟨a3,c3,rfl⟩:=hv;go_simp;refine hK _ _ ?_;clear hK K
 repeat (refine RegF.ai (fun K hK=>?_);first | (refine RegF.br rfl ?_;try go_simp;refine hK _ _ ?_;clear hK K) | (refine RegF.aZ rfl rfl ?_;unfold ar;go_simp;refine hK _ _ ?_;clear hK K))
 refine RegF.ai (fun K hK=>?_);refine RegF.aat rfl rfl rfl (aO.GC V9.heap.size wn (List.replicate wn [])) rfl (fun W hW hN=>?_) (fun v hv=>?_)
 ·have hM:=(HC.out W).1 hW
  clear hW hK K
  (refine xU (.tmp 106) (.tmp 106) 29 rfl 37 iL (.slice none 0 0) 1 Tryz.underlying29 wW kQ kR .i64 .i64 _ _ wn rfl rfl rfl rfl (by rw[kS];omega) (by unfold maxLen;omega) (fun w' hr hg=>?_);rw[xS]at hr;exact⟨⟨_,rfl,Nat.le_refl _,(hr.lt _ rfl).2⟩,Move.ah (aa.aW hg fun x hx=>⟨hx,fun e=>by cases e⟩:aa (· <W.heap.size) W w').below,⟨_,_,rfl⟩,(aC.zeros hr).base hM.size⟩)
 obtain⟨a4,c4,rfl⟩:=hv;go_simp;refine hK _ _ ?_;clear hK K
 repeat (refine RegF.ai (fun K hK=>?_);first | (refine RegF.br rfl ?_;try go_simp;refine hK _ _ ?_;clear hK K) | (refine RegF.aZ rfl rfl ?_;unfold ar;go_simp;refine hK _ _ ?_;clear hK K))
 refine RegF.ai (fun K hK=>?_);refine RegF.aat rfl rfl rfl (aO.GC V9.heap.size wn (List.replicate wn [])) rfl (fun W hW hN=>?_) (fun v hv=>?_)
 ·have hM:=(HC.out W).1 hW
  clear hW hK K
  (refine xU (.tmp 108) (.tmp 108) 29 rfl 37 iL (.slice none 0 0) 1 Tryz.underlying29 wW kQ kR .i64 .i64 _ _ wn rfl rfl rfl rfl (by rw[kS];omega) (by unfold maxLen;omega) (fun w' hr hg=>?_);rw[xS]at hr;exact⟨⟨_,rfl,Nat.le_refl _,(hr.lt _ rfl).2⟩,Move.ah (aa.aW hg fun x hx=>⟨hx,fun e=>by cases e⟩:aa (· <W.heap.size) W w').below,⟨_,_,rfl⟩,(aC.zeros hr).base hM.size⟩)
 obtain⟨a5,c5,rfl⟩:=hv;go_simp;refine hK _ _ ?_;clear hK K
 repeat (refine RegF.ai (fun K hK=>?_);first | (refine RegF.br rfl ?_;try go_simp;refine hK _ _ ?_;clear hK K) | (refine RegF.aZ rfl rfl ?_;unfold ar;go_simp;refine hK _ _ ?_;clear hK K))
 refine RegF.ai (fun K0 hK=>?_);refine RegF.bA rfl rfl rfl (aO.Iq V9.heap.size #[.slice none 0 0,.slice none 0 0,.slice none 0 0] 31) rfl (fun W hW hN=>?_) (fun v hv=>?_)
 ·have hM:=(HC.out W).1 hW
  have vU:=hM.size;clear hW hN hK K0;go_simp;exact⟨Move.ah ((Ext.refl _).alloc _).below,⟨_,rfl⟩,fun b hb=>by cases hb;exact⟨ak.new _ _ _,vU⟩⟩
 obtain⟨bx,rfl⟩:=hv;go_simp;refine hK _ _ ?_;clear hK K0;refine RegF.aY (fun W hW hH hap=>?_);have hM:=(HC.out W).1 hW;have aau:eM.Hv (.slice a4 wn c4)≠eM.Hv (.slice a5 wn c5):=hap.ne 4 6 107 109 rfl rfl (by decide) rfl rfl rfl rfl;have UK:(aO.Iq V9.heap.size #[.slice none 0 0,.slice none 0 0,.slice none 0 0] 31).H (.pointer (some ⟨bx,0,none⟩)) W:=hH _ (List.mem_of_getElem? (show _=some _ from rfl:_[0]? =some _));have L6:aC V9.heap.size W (.slice a5 wn c5) (List.replicate wn []):=hH _ (List.mem_of_getElem? (show _=some _ from rfl:_[1]? =some _));have L4:aC V9.heap.size W (.slice a4 wn c4) (List.replicate wn []):=hH _ (List.mem_of_getElem? (show _=some _ from rfl:_[2]? =some _));have LC:W.ownsRow V9.heap.size 70 4 (.slice a3 n0 c3) n0 (aD d.cl):=hH _ (List.mem_of_getElem? (show _=some _ from rfl:_[3]? =some _));obtain⟨h4,rfl,h4a,h4b⟩:=L4.at aas;obtain⟨h6,rfl,h6a,h6b⟩:=L6.at aas;have h46:h4≠h6:=fun e=>aau (by rw[e];rfl)
 have BX:=hid (UK bx rfl);have XW:=hid hM.below;have L4H:=hid L4;have L6H:=hid L6;have LCH:=hid LC;clear hM hW hH HC hne f0 f1 UK L4 L6 LC hap aau;obtain⟨⟨x0,x1,x2⟩,z0,z1,z2⟩:=BX.out.1.three;have D2:=((BX.out.1.set 0 (.slice a3 n0 c3)).set 1 (.slice (some ⟨h4,0,none⟩) wn c4)).set 2 (.slice (some ⟨h6,0,none⟩) wn c5);have HD2:=hid D2;clear D2;go_upto_region 15 with fail
 refine au ?_;intro W2 hW2;have B2:Hid (ak W2 bx #[.slice a3 n0 c3,.slice (some ⟨h4,0,none⟩) wn c4,.slice (some ⟨h6,0,none⟩) wn c5] 31):=hid (by rw[hW2];exact HD2.out);have K2:aa (· ≠bx) W W2:=by rw[hW2];exact kC _ _ _ _ _
 clear hW2 x0 x1 x2 z0 z1 z2 HD2;have al0:V9.heap.size<=bx:=BX.out.2;have N2:=hid (aC.past BX.out.1 L4H.out (by decide) (by decide) K2);have M2:=hid (aC.past BX.out.1 L6H.out (by decide) (by decide) K2);have C2:=hid (ae LCH.out K2 (bI BX.out.1 LCH.out (by decide)));have X2':Hid (Below V9.heap.size V9 W2):=hid (XW.out.trans (K2.mono fun x (hx:x<V9.heap.size)=>by show x≠bx;omega:aa (· <V9.heap.size) W W2).below);have h4x:bx≠h4:=fun e=>by
  obtain⟨us,_,u2,_⟩:=N2.out;exact bI B2.out u2 (by decide) h4 rfl e.symm
 have h6x:bx≠h6:=fun e=>by
  obtain⟨us,_,u2,_⟩:=M2.out;exact bI B2.out u2 (by decide) h6 rfl e.symm
 have h4W:h4<W2.heap.size:=Nat.lt_of_lt_of_le h4b K2.size;have h6W:h6<W2.heap.size:=Nat.lt_of_lt_of_le h6b K2.size;clear K2 L4H L6H LCH BX XW;have k0:W2.cell? ⟨w8.heap.size,0,none⟩=some (.int .i64 wn):=(BW.out.below X2'.out BW.out.lt).cell 0;go_wp2;clear k0;go_loopw [112] (fun sv wr=>∃ s:Nat,s<=wn/\sv=.int .i64 s/\aC V9.heap.size wr (.slice (some ⟨h4,0,none⟩) wn c4) (jU (fO ub wn) (wy d ub wn) wn s)/\aC V9.heap.size wr (.slice (some ⟨h6,0,none⟩) wn c5) (jU (fO ub wn) (Hl d) wn s)/\aa (fun x=>x<W2.heap.size/\x≠h4/\x≠h6) W2 wr) (fun sv _=>wn-(intOf sv).toNat);case atStart=>exact⟨0,Nat.zero_le _,rfl,N2.out,M2.out,aa.refl _ _⟩
 case round=>
  obtain⟨s,hs,rfl,G5,jx,hx⟩:=hrel;obtain⟨wo,rfl⟩:∃ wo:World,wo=wr:=⟨_,rfl⟩;have NX:=hid G5;have MK:=hid jx;have HX:=hid hx;have XO:Hid (Below V9.heap.size V9 wo):=hid (X2'.out.trans (hx.mono fun x (hx:x<V9.heap.size)=>⟨Nat.lt_of_lt_of_le hx X2'.out.size,by omega,by omega⟩:aa (· <V9.heap.size) W2 wo).below);have BO:=hid (B2.out.keeps hx ⟨B2.out.lt,h4x,h6x⟩)
  have CO:=hid (ae C2.out hx fun x e=>⟨(C2.out.lt x e).2,fun e2=>by
   obtain⟨us,_,u2,_⟩:=N2.out;rcases ownBlock_ne (show(70:Nat)≠37 by decide) C2.out u2 with h5 | h5
   ·rw[h5]at e;cases e
   ·exact h5 (by rw[e,e2];rfl),fun e2=>by
   obtain⟨us,_,u2,_⟩:=M2.out;rcases ownBlock_ne (show(70:Nat)≠37 by decide) C2.out u2 with h5 | h5
   ·rw[h5]at e;cases e
   ·exact h5 (by rw[e,e2];rfl)⟩)
  have aav:W2.heap.size<=wo.heap.size:=hx.size;have h9o:V9.heap.size<=wo.heap.size:=XO.out.size;clear G5 jx hx;obtain⟨b0,b1,b2⟩:=aP.mN (JI.out.below XO.out JI.out.lt);by_cases hlt:s<wn
  ·have JP:(s:Int)<wn:=by omega
   go_wp2;clear b0 b1 b2;go_loopw [22,118] (fun tv kv wr=>∃ k:Nat,k<=n0/\kv=.int .i64 k/\wr.ownsRow wo.heap.size 3 1 tv k ((rowP d ub wn s k).map aF)/\aa (· <wo.heap.size) wo wr) (fun _ kv _=>n0-(intOf kv).toNat);case atStart=>exact⟨0,Nat.zero_le _,rfl,World.ownsRow_nil _ _ _ _,aa.refl _ _⟩
   case round=>
    obtain⟨k,hk,rfl,ht,hx⟩:=hrel;obtain⟨wi,rfl⟩:∃ wi:World,wi=wr:=⟨_,rfl⟩;have HT:=hid ht;have KI:=hid hx;have XI:Hid (Below V9.heap.size V9 wi):=hid (XO.out.trans (hx.mono fun x (hx:x<V9.heap.size)=>by show x<wo.heap.size;omega:aa (· <V9.heap.size) wo wi).below);have hoi:wo.heap.size<=wi.heap.size:=hx.size;clear ht hx;obtain⟨ta,tc,rfl⟩:=ownsRow_form HT.out;obtain⟨b0,b1,b2⟩:=aP.mN (JI.out.below XI.out JI.out.lt);by_cases vr:k<n0
    ·have ed:(k:Int)<n0:=by omega
     obtain⟨z,hz⟩:∃ z,z=s+k:=⟨_,rfl⟩;obtain⟨zm,hzm⟩:∃ x,x=z%n1:=⟨_,rfl⟩;have q4:IntKind.i64.wrap ((s:Int)+(k:Int))=(z:Int):=by rw[IntWalk.i64_in _ (by omega)];omega
     have q5:(z:Int).tmod (n1:Int)=(zm:Int):=by rw[hzm];exact(Int.ofNat_tmod z n1).symm
     have q6:¬ ((n1:Int)=0):=by omega
     obtain⟨zt,VM⟩:∃ x,x=Hj d s k:=⟨_,rfl⟩;have hzl:=Oo RT.out (s:=s) (k:=k) (by rw[<-j8.out];exact vr);rw[<-gS.out, <-VM]at hzl;have aaw:zt<wn:=by omega
     obtain⟨pn,Bh⟩:∃ x,x=fO ub wn zt:=⟨_,rfl⟩;have DR:=hid Bh;clear Bh;by_cases pV:s<n1
     ·have ae8:(s:Int)<n1:=by omega
      obtain⟨x,off,ad,cp,x',off',rfl,hc1,rfl,hc2,_⟩:=eE.out wi XI.out s pV k vr;rw[<-VM]at hc2;have q7:¬ ((zt:Int)<0):=by omega
      have q8:(zt:Int)<n1:=by omega
      clear hz hzm;have VN:=xT d ub wn s k;rw[<-VM]at VN;have Wv:=hid VN;have hwz:wi.heap.size<=wi.heap.size:=Nat.le_refl _;clear VN VM;go_wp2_with fail
      refine(CN.out wi XI.out zt aaw).mono ?_;rintro e w' ⟨rfl,hw⟩;replace hw:=hw.symm;subst hw;rw[<-DR.out];go_wp2_with (at_builtin;refine wpList_append_own_at _ rfl (.tmp 168) (.tmp 172) 37 rfl wo.heap.size 3 iI (.int .i64 0) 1 8 Tryz.underlying37 GN pE pF pG rfl (by decide) _ _ _ rfl (HT.out.alloc _) ⟨wi.heap.size,0,none⟩ 1 1 [jr pn] rfl rfl (dV _ _ _) (by simp[Value.oneCell',jr]) (by unfold maxLen;omega) (by omega) (by simp;omega) ?_;intro v' w6 hown' hgrow hh hat;have jq:=hid hown';have HG:=hid hgrow;clear hown' hgrow hh hat);go_roundw;case rel=>
       have vq:∀ x,(Value.slice ta k tc).ownBlock=some x->wo.heap.size<=x:=fun x hx=>(HT.out.lt x hx).1
       refine⟨k+1,by omega,by go_num,by rw[Wv.out, <-DR.out];exact jq.out,?_⟩;exact(KI.out.tr (aa.ah ((Ext.refl _).alloc _).below fun x (hx:x<wo.heap.size)=>by show x<wi.heap.size;omega)).tr (aa.aW HG.out fun x (hx:x<wo.heap.size)=>⟨by simp;omega,fun e=>by have:=vq x e.symm;omega⟩)
      case measure=>simp[intOf];omega
     ·have ae8:¬ ((s:Int)<n1):=by omega
      have hzz:zt=zm:=by rw[VM,hzm,hz];unfold Hj;rw[if_neg (by rw[<-gS.out];exact pV), <-gS.out]
      clear hz hzm;subst hzz;have VN:=xT d ub wn s k;rw[<-VM]at VN;have Wv:=hid VN;have hwz:wi.heap.size<=wi.heap.size:=Nat.le_refl _;clear VN VM;go_wp2_with fail
      refine(CN.out wi XI.out zt aaw).mono ?_;rintro e w' ⟨rfl,hw⟩;replace hw:=hw.symm;subst hw;rw[<-DR.out];go_wp2_with (at_builtin;refine wpList_append_own_at _ rfl (.tmp 168) (.tmp 172) 37 rfl wo.heap.size 3 iI (.int .i64 0) 1 8 Tryz.underlying37 GN pE pF pG rfl (by decide) _ _ _ rfl (HT.out.alloc _) ⟨wi.heap.size,0,none⟩ 1 1 [jr pn] rfl rfl (dV _ _ _) (by simp[Value.oneCell',jr]) (by unfold maxLen;omega) (by omega) (by simp;omega) ?_;intro v' w6 hown' hgrow hh hat;have jq:=hid hown';have HG:=hid hgrow;clear hown' hgrow hh hat);go_roundw;case rel=>
       have vq:∀ x,(Value.slice ta k tc).ownBlock=some x->wo.heap.size<=x:=fun x hx=>(HT.out.lt x hx).1
       refine⟨k+1,by omega,by go_num,by rw[Wv.out, <-DR.out];exact jq.out,?_⟩;exact(KI.out.tr (aa.ah ((Ext.refl _).alloc _).below fun x (hx:x<wo.heap.size)=>by show x<wi.heap.size;omega)).tr (aa.aW HG.out fun x (hx:x<wo.heap.size)=>⟨by simp;omega,fun e=>by have:=vq x e.symm;omega⟩)
      case measure=>simp[intOf];omega
    ·obtain rfl:k=n0:=by omega
     have ed:¬ ((k:Int)<k):=by omega
     obtain⟨p,hp⟩:∃ p,p=fO ub wn s:=⟨_,rfl⟩;have Yt:p<wn:=by rw[hp];exact sF hlt
     have hpi:(p:Int)<wn:=by omega
     have HP:=hid hp
     have TV:Hid (wi.ownsRow wo.heap.size 3 1 (.slice ta k tc) (wy d ub wn s).length ((wy d ub wn s).map aF)):=hid (by
      have e:wy d ub wn s=rowP d ub wn s k:=by rw[j8.out];rfl
      rw[e,show(rowP d ub wn s k).length=k by simp[rowP]]
      exact HT.out)
     have NXI:=hid (NX.out.keeps KI.out fun x _ h2=>h2);have MKI:=hid (MK.out.keeps KI.out fun x _ h2=>h2);have BI:=hid (BO.out.keeps KI.out BO.out.lt);have CI:=hid (ae CO.out KI.out fun x e=>(CO.out.lt x e).2);have XWI:Hid (aa (fun x=>x<W2.heap.size/\x≠h4/\x≠h6) W2 wi):=hid (HX.out.tr (KI.out.mono fun x hx=>Nat.lt_of_lt_of_le hx.1 aav));have CP:Hid (∀ A,Below V9.heap.size V9 A->Calls Tryz.prog 30 #[.int .i64 s,.pointer (some ⟨w.heap.size,0,none⟩),.pointer (some ⟨w8.heap.size,0,none⟩)] A fun e w'=>e=.returned (.int .i64 p)/\w'=A):=hid fun A hA=>by rw[hp];exact CN.out A hA s hlt
     clear hp NX MK BO CO HT HX b0 b1 b2;obtain⟨⟨i0,i1,i2⟩,_⟩:=BI.out.three;go_upto_region 29 with fail
     refine aA false (fun _=>False) (by kernel_rfl) 6 [0,1,0,0,12,0,63,127] (fun i=>i==4 || i==7) (by kernel_rfl) (fun i=>if i=4 then aO.vo _ (.int .i64 p)else aO.any _) ?_;intro C hC hne;have HC:=hid hC;have f1:=ay hC (p:=⟨bx,1,none⟩) BI.out.lt (fun h=>h) i1;clear hC i0 i1 i2
     repeat (refine ai (fun K hK=>?_);first | (refine br rfl ?_;try go_simp;refine hK _ _ ?_;clear hK K) | (refine aZ rfl rfl ?_;unfold ar;go_simp;refine hK _ _ ?_;clear hK K))
     refine ai (fun K hK=>?_);refine bA rfl rfl (aO.vo _ (.int .i64 p)) rfl (fun W hW hN=>?_) (fun v hv=>?_)
     ·have hM:=(HC.out W).1 hW
      clear hW;go_simp;refine aT ((CP.out W (XI.out.trans (hM.below.mono XI.out.size))).mono ?_);rintro e w2 ⟨rfl,rfl⟩;exact⟨_,rfl,Move.ah (Below.refl _ _),rfl,trivial⟩
     replace hv:v=_:=hv;subst hv;go_simp;refine hK _ _ ?_;clear hK K
     repeat (refine ai (fun K hK=>?_);first | (refine br rfl ?_;try go_simp;refine hK _ _ ?_;clear hK K) | (refine aZ rfl rfl ?_;unfold ar;go_simp;refine hK _ _ ?_;clear hK K))
     refine aY (fun W hW hH=>?_);have hM:=(HC.out W).1 hW;have XW:=hid hM.below;have NXW:=hid (NXI.out.below hM.below);have MKW:=hid (MKI.out.below hM.below);have BWX:=hid (BI.out.below hM.below BI.out.lt);have CW:=hid (ag CI.out hM.below);have TW:=hid (ag TV.out hM.below);have KW:Hid (aa (fun x=>x<W2.heap.size/\x≠h4/\x≠h6) W2 W):=hid (XWI.out.tr (aa.ah hM.below fun x hx=>Nat.lt_of_lt_of_le hx.1 (Nat.le_trans aav hoi)));have hiW:wi.heap.size<=W.heap.size:=hM.size;obtain⟨uo,hu1,hu2⟩:=NXW.out.cellAt Yt;clear hM hW hH HC hne f1 NXI MKI BI CI TV XWI;go_upto_region 30 with fail
     refine au ?_;intro W5 J3;have N5:Hid (aC V9.heap.size W5 (.slice (some ⟨h4,0,none⟩) wn c4) ((jU (fO ub wn) (wy d ub wn) wn s).set p (wy d ub wn s))):=hid (by rw[J3];exact NXW.out.put p (ax TW.out h9o));have K5:aa (· ≠h4) W W5:=by rw[J3];exact(aa.refl _ _).setCell (p:=⟨h4,p,none⟩) (fun h=>h rfl) _
     have M5:Hid (aC V9.heap.size W5 (.slice (some ⟨h6,0,none⟩) wn c5) (jU (fO ub wn) (Hl d) wn s)):=hid (by
      obtain⟨us,_,u2,_⟩:=NXW.out
      exact MKW.out.Lu (kU.slices h46.symm) u2 (K5.mono fun x hx=>fun e=>hx.2 (by rw[e];rfl)))
     clear J3 hu1 hu2;have B5:=hid (BWX.out.keeps K5 h4x)
     have C5:=hid (ae CW.out K5 fun x e e2=>by
      obtain⟨us,_,u2,_⟩:=NXW.out;rcases ownBlock_ne (show(70:Nat)≠37 by decide) CW.out u2 with h5 | h5
      ·rw[h5]at e;cases e
      ·exact h5 (by rw[e,e2];rfl))
     have Xb:Hid (Below V9.heap.size V9 W5):=hid ((XI.out.trans (XW.out.mono XI.out.size)).trans (K5.mono fun x (hx:x<V9.heap.size)=>by show x≠h4;omega:aa (· <V9.heap.size) W W5).below);have KW5:Hid (aa (fun x=>x<W2.heap.size/\x≠h4/\x≠h6) W2 W5):=hid (KW.out.tr (K5.mono fun x hx=>hx.2.1));have afa:W2.heap.size<=W5.heap.size:=KW5.out.size;clear K5 NXW MKW BWX CW TW KW XW;obtain⟨⟨i0,i1,i2⟩,_⟩:=B5.out.three;obtain⟨b0,b1,b2⟩:=aP.mN (JI.out.below Xb.out JI.out.lt);obtain⟨sm,hsm⟩:∃ x,x=s%n1:=⟨_,rfl⟩;have aay:sm<n1:=by rw[hsm];exact Nat.mod_lt _ (by omega)
     have q4:(s:Int).tmod (n1:Int)=(sm:Int):=by rw[hsm];exact(Int.ofNat_tmod s n1).symm
     have q6:¬ (n1=0):=by omega
     have al4:(sm:Int)<n1:=by omega
     obtain⟨xb,off,ad,cp,rfl,hc1,hc2,hc3⟩:=ae5.out W5 Xb.out sm aay;have hrow:d.mr.getD sm []=Hl d s:=by rw[hsm];unfold Hl;rw[gS.out]
     rw[hrow]at hc1 hc2;obtain⟨ml,rM⟩:∃ x,x=(Hl d s).length:=⟨_,rfl⟩;have aaz:(Hl d s).length<=1000000:=by
      rw[<-hrow];exact SD.out.PS _ (List.mem_of_getElem? (bh (l:=d.mr) [] (by rw[<-kI.out];exact aay)))
     have Jf:Hid (∀ A,Below W5.heap.size W5 A->Calls Tryz.prog 32 #[.slice ad ml cp] A fun e w'=>∃ u,e=.returned u/\w'.ownsRow A.heap.size 3 1 u ml ((Hl d s).map aF)/\Below A.heap.size A w'):=hid fun A hA=>by
      rw[rM];exact jw _ (Hl d s) A (hc2.below hA) aaz
     rw[<-rM]at hc1;have xy:=hid rM;clear rM aaz hc2 hrow hsm;refine aA false (fun _=>False) (by kernel_rfl) 13 [0,1,0,0,12,0,32,0,0,384,992,2016,4092,8191,16383] (fun i=>i==4 || i==12 || i==14) (by kernel_rfl) (fun i=>if i=4 then aO.vo _ (.int .i64 p)else if i=12 then aO.row W5.heap.size 3 1 ml ((Hl d s).map aF)else aO.any _) ?_;intro C hC hne;have HC:=hid hC;have f0:=ay hC (p:=⟨bx,2,none⟩) B5.out.lt (fun h=>h) i2;have f1:=ay hC (p:=⟨w3.heap.size,2,none⟩) (Nat.lt_of_lt_of_le hbd Xb.out.size) (fun h=>h) b2;have f2:=ay hC (p:=⟨xb,off+sm,none⟩) hc3 (fun h=>h) hc1;clear hC i0 i1 i2 b0 b1 b2 hc1
     repeat (refine ai (fun K hK=>?_);first | (refine br rfl ?_;try go_simp;refine hK _ _ ?_;clear hK K) | (refine aZ rfl rfl ?_;unfold ar;go_simp;refine hK _ _ ?_;clear hK K))
     refine ai (fun K hK=>?_);refine bA rfl rfl (aO.vo _ (.int .i64 p)) rfl (fun W hW hN=>?_) (fun v hv=>?_)
     ·have hM:=(HC.out W).1 hW
      clear hW;go_simp;refine aT ((CP.out W (Xb.out.trans (hM.below.mono Xb.out.size))).mono ?_);rintro e w2 ⟨rfl,rfl⟩;exact⟨_,rfl,Move.ah (Below.refl _ _),rfl,trivial⟩
     replace hv:v=_:=hv;subst hv;go_simp;refine hK _ _ ?_;clear hK K
     repeat (refine ai (fun K hK=>?_);first | (refine br rfl ?_;try go_simp;refine hK _ _ ?_;clear hK K) | (refine aZ rfl rfl ?_;unfold ar;go_simp;refine hK _ _ ?_;clear hK K))
     refine ai (fun K hK=>?_);refine bA rfl rfl (aO.row W5.heap.size 3 1 ml ((Hl d s).map aF)) rfl (fun W hW hN=>?_) (fun v hv=>?_)
     ·have hM:=(HC.out W).1 hW
      clear hW;go_simp;refine aT ((Jf.out W hM.below).mono ?_);rintro e w2 ⟨u,rfl,ho,hx⟩;exact⟨_,rfl,Move.ah hx,ownsRow_form ho,ax ho hM.size⟩
     obtain⟨ma,mc,rfl⟩:=hv;go_simp;refine hK _ _ ?_;clear hK K;refine aY (fun W hW hH=>?_);have hM:=(HC.out W).1 hW;have TW:Hid (W.ownsRow W5.heap.size 3 1 (.slice ma ml mc) ml ((Hl d s).map aF)):=hid (hH _ (List.mem_of_getElem? (show _=some _ from rfl:_[0]? =some _)));have XW:=hid hM.below;have N6:=hid (N5.out.below hM.below);have M6:=hid (M5.out.below hM.below);have afb:V9.heap.size<=W5.heap.size:=Xb.out.size;have KW6:Hid (aa (fun x=>x<W2.heap.size/\x≠h4/\x≠h6) W2 W):=hid (KW5.out.tr (aa.ah hM.below fun x hx=>Nat.lt_of_lt_of_le hx.1 afa));obtain⟨uo,hu1,hu2⟩:=M6.out.cellAt Yt;clear hM hW hH HC hne f0 f1 f2 N5 M5 KW5;go_wp2;go_roundw;case rel=>
      have K6:aa (· ≠h6) W (W.setCell ⟨h6,p,none⟩ (.slice ma ml mc)):=(aa.refl _ _).setCell (p:=⟨h6,p,none⟩) (fun h=>h rfl) _;refine⟨s+1,by omega,by go_num,?_,?_,KW6.out.tr (K6.mono fun x hx=>hx.2.2)⟩
      ·rw[jU, <-HP.out]
       obtain⟨us,_,u2,_⟩:=M6.out;exact N6.out.Lu (kU.slices h46) u2 (K6.mono fun x hx=>fun e=>hx.2 (by rw[e];rfl))
      ·rw[jU, <-HP.out]
       exact M6.out.put p (by rw[<-xy.out];exact ax TW.out afb)
     case measure=>simp[intOf];omega
  ·obtain rfl:s=wn:=by omega
   have JP:¬ ((s:Int)<s):=by omega
   have OB:Hid (aP V9.heap.size wo (.agg #[.slice a3 n0 c3,.slice (some ⟨h4,0,none⟩) s c4,.slice (some ⟨h6,0,none⟩) s c5]) (gV d ub s)):=hid ⟨_,_,_,rfl,by rw[j8.out]at CO;exact j8.out▸CO.out,NX.out,MK.out⟩;have RB:Hid (Rt (gV d ub s)):=hid (Rw RT.out (by rw[<-gS.out];exact VK.1) (by omega));have SB:Hid (Sm (gV d ub s)):=hid RB.out.Ui;have TB:Hid (l4 (gV d ub s)=d):=hid (JK RT.out TR.out (by rw[<-gS.out];exact VK.1));have MB:Hid ((gV d ub s).mr.getD (cA (gV d ub s) 0 bb) []=d.mr.getD (cA d 0 bb) []):=hid (Gh RT.out (by rw[<-gS.out];exact VK.1) bb eB.out);clear NX MK HX CO b0 b1 b2;obtain⟨⟨i0,i1,i2⟩,_⟩:=BO.out.three;go_wp2_with fail
   refine(Dq _ _ RB.out SB.out wo OB.out.df).mono ?_;rintro e w4 ⟨u,rfl,ho,hx⟩;rw[TB.out]at ho;obtain⟨e0,g0,e1,g1,e2,g2,rfl⟩:=ho.form;rw[<-j8.out, <-gS.out, <-kI.out]at ho ⊢;have OT:=hid ho;have XA:=hid hx;clear ho hx i0 i1 i2;go_upto_region 33 with fail
   refine au ?_;intro V5 GZ;have BT:Hid (ak V5 w4.heap.size #[.slice e0 n0 g0,.slice e1 n1 g1,.slice e2 n1 g2] 31):=hid (by rw[GZ];exact ak.new w4 _ _);have XB:Hid (Below w4.heap.size w4 V5):=hid (by rw[GZ];exact((Ext.refl w4).alloc _).below);clear GZ;have X5:Hid (Below wo.heap.size wo V5):=hid (XA.out.trans (XB.out.mono XA.out.size));have OT5:=hid (OT.out.below XB.out);have Z5:Hid (Below V9.heap.size V9 V5):=hid (XO.out.trans (X5.out.mono XO.out.size));clear XA XB OT;obtain⟨b0,b1,b2⟩:=aP.mN (JI.out.below Z5.out JI.out.lt);go_wp2_with fail
   refine(fI _ _ d RT.out SD.out bb eB.out (by rw[<-HBM.out];omega) V5 (VL.out.below Z5.out).df (jW.out V5 (Rv.out.trans (Z5.out.mono Rv.out.size)))).mono ?_;rintro e zT ⟨um1,rfl,ho,hx⟩;obtain⟨mg,VO⟩:∃ m,m=d.mr.getD (cA d 0 bb) []:=⟨_,rfl⟩;rw[<-VO]at ho;obtain⟨gn,VP⟩:∃ n,n=mg.length:=⟨_,rfl⟩;rw[<-VP]at ho;obtain⟨ga,gc,rfl⟩:=ownsRow_form ho;have GOT:=hid ho;have HMG:=hid VO;have VQ:=hid VP;have Z6:=hid (Z5.out.trans (hx.mono Z5.out.size));have X6:=hid (X5.out.trans (hx.mono X5.out.size));have OT6:=hid (OT5.out.below hx);have Xa:=hid (BT.out.below hx BT.out.lt);clear ho VO VP hx b0 b1 b2 X5 Z5 OT5 BT;obtain⟨⟨i0,i1,i2⟩,_⟩:=(BO.out.below X6.out BO.out.lt).three;go_wp2_with fail
   refine(fI _ _ (gV d ub s) RB.out SB.out bb eB.out (by rw[<-HBM.out];omega) zT (OB.out.below X6.out).df (jW.out zT (Rv.out.trans (Z6.out.mono Rv.out.size)))).mono ?_;rintro e gQ ⟨um1,rfl,ho,hx⟩;rw[MB.out, <-HMG.out, <-VQ.out]at ho;obtain⟨ha,hc,rfl⟩:=ownsRow_form ho;have Rx:=hid ho;have Ry:=hid (ag GOT.out hx);have Z7:=hid (Z6.out.trans (hx.mono Z6.out.size));have OT7:=hid (OT6.out.below hx);have BT7:=hid (Xa.out.below hx Xa.out.lt);have VR:mg.length<=1000000:=by
    rw[HMG.out,List.getD_eq_getElem?_getD];cases h:d.mr[cA d 0 bb]? with
    | none=>simp
    | some l=>exact SD.out.PS l (List.mem_of_getElem? h)
   clear ho hx i0 i1 i2 Z6 X6 OT6 Xa GOT;obtain⟨b0,b1,b2⟩:=aP.mN (JI.out.below Z7.out JI.out.lt);obtain⟨d0,d1,d2⟩:=aP.mN BT7.out;go_wp2_with fail
   refine(eX _ _ d d gQ OT7.out.df.e (VL.out.below Z7.out).df.e SD.out).mono ?_;rintro e w12 ⟨rfl,hx⟩;rw[mO.2 rfl];have Z8:=hid (Z7.out.trans (hx.mono Z7.out.size));have G1:=hid (ag Ry.out hx);have G2:=hid (ag Rx.out hx);clear hx b0 b1 b2 d0 d1 d2 Z7 OT7 BT7 Ry Rx;go_wp2_with fail
   refine(jg _ _ mg mg w12 (cH G1.out VQ.out) (cH G2.out VQ.out) VR).mono ?_;rintro e wC ⟨rfl,hx⟩;rw[beq_self_eq_true];have ZC:=hid (Z8.out.trans (hx.below.mono Z8.out.size));clear hx;go_wp2;go_ret;exact⟨rfl,Rv.out.trans (ZC.out.mono Rv.out.size)⟩
end Go.Proofs.YtbiboekhakbnpaaGreatDoor
