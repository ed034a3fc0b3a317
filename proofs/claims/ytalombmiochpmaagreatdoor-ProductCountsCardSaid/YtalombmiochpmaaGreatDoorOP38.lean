/- Counts in plain words: so many strings of a length are accepted, or the limit. -/
import Derived.Test.YtalombmiochpmaaGreatDoorOP37
set_option maxRecDepth 100000
set_option maxHeartbeats 16000000
open Go.Lib (hid)
namespace Go.Proofs.YtalombmiochpmaaGreatDoor
open Go Go.RowKit Go.Shelf Go.Maps
attribute [local go_sem] encS
theorem bJ.Dl {w:World} {v:Value} {d:DF} (h:bJ w v d):∃ a0 n0 c0 a1 n1 c1 a2 n2 c2,v=.agg #[.slice a0 n0 c0,.slice a1 n1 c1,.slice a2 n2 c2]:=by obtain⟨v0,v1,v2,rfl,h0,h1,h2⟩:=h;obtain⟨a0,c0,rfl⟩:=h0.1.form;obtain⟨a1,c1,rfl⟩:=h1.form;obtain⟨a2,c2,rfl⟩:=h2.form;exact⟨_,_,_,_,_,_,_,_,_,rfl⟩
theorem Hf {W:World} {base n:Nat} {a:Option Addr} {c:Nat} (hn:n=1) (h:W.ownsRow base 5 1 (.slice a n c) 1 [cF 97]):(convert 23 9 (.slice a n c)).run Tryz.prog W=.ok (.string ⟨#[97]⟩) W:=by
 subst hn;obtain⟨g,u,rfl,_,_,hu,cu,_⟩:=cZ h (show 0<1 by decide);cases hu
 exact Lib.run_convert_whole W 23 5 9 Tryz.underlying23 Tryz.underlying5 Tryz.underlying9 g 0 ⟨#[97]⟩ (fun i hi=>by
  obtain rfl:i=0:=by have:i<1:=hi;omega
  exact cu) c
theorem Dm {w:World} {o:Obj} {b:Nat} (e:w.heap.size=b):(w.alloc o).heap[b]? =some o:=e▸World.alloc_heap_new w o
theorem VX (w:World) (o:Obj) (C:Array Value) (n c:Nat):(convert 23 23 (.slice (some ⟨w.heap.size+1,0,none⟩) n c)).run Tryz.prog ((w.alloc o).alloc (.cells C 5))=.ok (.slice (some ⟨w.heap.size+1,0,none⟩) n c) ((w.alloc o).alloc (.cells C 5 (C.size,C.size+1))):=by
 have h:=Lib.run_convert_bytes_const (P:=Tryz.prog) (w.alloc o) 23 5 C n c Tryz.underlying23 Tryz.underlying5;have e:(w.alloc o).heap.size=w.heap.size+1:=by simp
 rw[e]at h;exact h
def Tn (e:Ending) (w':World) (d:DF):Prop:=∃ a0 n0 c0 a1 n1 c1 a2 n2 c2,e=.returned (.agg #[.slice a0 n0 c0,.slice a1 n1 c1,.slice a2 n2 c2])/\bJ w' (.agg #[.slice a0 n0 c0,.slice a1 n1 c1,.slice a2 n2 c2]) d
def Ge (e:Ending) (w':World) (d:DF):Prop:=∃ a0 n0 c0 a1 n1 c1 a2 n2 c2,e=.returned (.tuple #[.agg #[.slice a0 n0 c0,.slice a1 n1 c1,.slice a2 n2 c2],.int .i64 0])/\bJ w' (.agg #[.slice a0 n0 c0,.slice a1 n1 c1,.slice a2 n2 c2]) d
def ot (base:Nat) (e:Ending) (w':World) (l:List Nat) (b:Bool):Prop:=∃ a c,e=.returned (.tuple #[.slice a l.length c,.bool b,.int .i64 0])/\w'.ownsRow base 5 1 (.slice a l.length c) l.length (l.map cF)
theorem pV (u:Value) (d:DF) (rt:d.right=true) (sm:Sm d) (l:List Nat) (h:bU d=some l) (W:World) (hd:bJ W u d):Calls Tryz.prog 21 #[u] W fun e w'=>ot W.heap.size e w' l true/\Below W.heap.size W w':=by refine(ui u d sm W hd).mono ?_;rintro e w' ⟨v,rfl,ho,hx⟩;rw[show j9 d=(l,true,0) by unfold j9;rw[rt,h];rfl]at ho ⊢;obtain⟨a,c,rfl⟩:=ownsRow_form ho;exact⟨⟨a,c,rfl,ho⟩,hx⟩
theorem vJ (f:Nat) (u u':Value) (a b:DF) (op:Int) (l:List Nat) (bo:Bool) (hp:bE a b op 99=(l,bo,0)) (W:World) (h:Calls Tryz.prog f #[u,u',.int .i64 99] W fun e w'=>∃ u,e=.returned (.tuple #[u,.bool (bE a b op 99).2.1,.int .i64 (bE a b op 99).2.2])/\w'.ownsRow W.heap.size 5 1 u (bE a b op 99).1.length ((bE a b op 99).1.map cF)/\Below W.heap.size W w'): Calls Tryz.prog f #[u,u',.int .i64 99] W fun e w'=>ot W.heap.size e w' l bo/\Below W.heap.size W w':=by refine h.mono ?_;rintro e w' ⟨v,rfl,ho,hx⟩;rw[hp]at ho ⊢;obtain⟨a,c,rfl⟩:=ownsRow_form ho;exact⟨⟨a,c,rfl,ho⟩,hx⟩
theorem Ov:Sm JV:=⟨by decide,by decide,by decide,by decide,by decide⟩
theorem Ow:Sm vH:=⟨by decide,by decide,by decide,by decide,by decide⟩
theorem RH:Sm yw:=⟨by decide,by decide,by decide,by decide,by decide⟩
theorem VY:Sm (dR (bg 1)):=(Dk ((aS _).1 iK)).2
theorem Gf (w:World):Calls Tryz.prog 9 #[] w fun e w'=>e=.returned (.bool true)/\Below w.heap.size w w':=by
 have s1:=yx 1 (by decide);have s2:=yx 2 (by decide);obtain⟨D1,Tp⟩:∃ d,d=bg 1:=⟨_,rfl⟩;obtain⟨D2,Xb⟩:∃ d,d=bg 2:=⟨_,rfl⟩;obtain⟨DA,hDA⟩:∃ d,d=vH:=⟨_,rfl⟩;obtain⟨DL,hDL⟩:∃ d,d=yw:=⟨_,rfl⟩;obtain⟨DN,hDN⟩:∃ d,d=dR (bg 1):=⟨_,rfl⟩;have R1:Hid (∀ W,Calls Tryz.prog 27 #[.int .i64 1] W fun e w'=>Tn e w' D1/\Below W.heap.size W w'):=hid fun W=>(vE 1 (by decide) (by decide) W).mono fun e w' ⟨u,he,hd,hx⟩=>by
  obtain⟨a0,n0,c0,a1,n1,c1,a2,n2,c2,rfl⟩:=hd.Dl;rw[Tp];exact⟨⟨_,_,_,_,_,_,_,_,_,he,hd⟩,hx⟩
 have R2:Hid (∀ W,Calls Tryz.prog 27 #[.int .i64 2] W fun e w'=>Tn e w' D2/\Below W.heap.size W w'):=hid fun W=>(vE 2 (by decide) (by decide) W).mono fun e w' ⟨u,he,hd,hx⟩=>by
  obtain⟨a0,n0,c0,a1,n1,c1,a2,n2,c2,rfl⟩:=hd.Dl;rw[Xb];exact⟨⟨_,_,_,_,_,_,_,_,_,he,hd⟩,hx⟩
 have CA:Hid (∀ W u u',bJ W u D1->bJ W u' D2->Calls Tryz.prog 12 #[u,u',.int .u8 1,.int .i64 99] W fun e w'=>Ge e w' DA/\Below W.heap.size W w'):=hid fun W u u' h h'=>by
  rw[Tp]at h;rw[Xb]at h';refine(pC u u' _ _ s1 s2 1 99 W h h').mono fun e w' ⟨u,he,hd,hx⟩=>?_
  rw[show bI (bg 1) (bg 2) ((1:Nat):Int) 99=(vH,0) from VU]at he hd;obtain⟨a0,n0,c0,a1,n1,c1,a2,n2,c2,rfl⟩:=hd.df.Dl;rw[hDA];exact⟨⟨_,_,_,_,_,_,_,_,_,he,hd.df⟩,hx⟩
 have CL:Hid (∀ W u u',bJ W u D1->bJ W u' D2->Calls Tryz.prog 12 #[u,u',.int .u8 3,.int .i64 99] W fun e w'=>Ge e w' DL/\Below W.heap.size W w'):=hid fun W u u' h h'=>by
  rw[Tp]at h;rw[Xb]at h';refine(pC u u' _ _ s1 s2 3 99 W h h').mono fun e w' ⟨u,he,hd,hx⟩=>?_
  rw[show bI (bg 1) (bg 2) ((3:Nat):Int) 99=(yw,0) from Hd]at he hd;obtain⟨a0,n0,c0,a1,n1,c1,a2,n2,c2,rfl⟩:=hd.df.Dl;rw[hDL];exact⟨⟨_,_,_,_,_,_,_,_,_,he,hd.df⟩,hx⟩
 have CM:Hid (∀ W u b,bJ W u DA->cr cF W b [97,97]->Calls Tryz.prog 28 #[u,b] W fun e w'=>(∃ a c,e=.returned (.tuple #[.slice a 1 c,.int .i64 0]))/\Below W.heap.size W w'):=hid fun W u b h hb=>by
  rw[hDA]at h;refine(pT u b vH ((aS _).1 vI) Ow [97,97] (by decide) (by decide) W h hb).mono fun e w' ⟨v,he,ho,hx⟩=>?_
  rw[VW]at ho;obtain⟨a,c,rfl⟩:=ownsRow_form ho;exact⟨⟨a,c,he⟩,hx⟩
 have CN:Hid (∀ W u b,bJ W u DA->cr cF W b [97]->Calls Tryz.prog 28 #[u,b] W fun e w'=>(∃ a c,e=.returned (.tuple #[.slice a 0 c,.int .i64 0]))/\Below W.heap.size W w'):=hid fun W u b h hb=>by
  rw[hDA]at h;refine(pT u b vH ((aS _).1 vI) Ow [97] (by decide) (by decide) W h hb).mono fun e w' ⟨v,he,ho,hx⟩=>?_
  rw[aap]at ho;obtain⟨a,c,rfl⟩:=ownsRow_form ho;exact⟨⟨a,c,he⟩,hx⟩
 have CF:Hid (∀ W u,bJ W u DL->Calls Tryz.prog 21 #[u] W fun e w'=>ot W.heap.size e w' [97] true/\Below W.heap.size W w'):=hid fun W u h=>by
  rw[hDL]at h;exact pV u _ Dh RH [97] Di W h
 have CW:Hid (∀ W u u',bJ W u D2->bJ W u' D1->Calls Tryz.prog 22 #[u,u',.int .i64 99] W fun e w'=>ot W.heap.size e w' [] true/\Below W.heap.size W w'):=hid fun W u u' h h'=>by
  rw[Xb]at h;rw[Tp]at h';exact vJ _ u u' _ _ 3 [] true aaq W (sf u u' _ _ s2 s1 99 W h h')
 have CV:Hid (∀ W u u',bJ W u D1->bJ W u' D2->Calls Tryz.prog 22 #[u,u',.int .i64 99] W fun e w'=>ot W.heap.size e w' [97] false/\Below W.heap.size W w'):=hid fun W u u' h h'=>by
  rw[Tp]at h;rw[Xb]at h';exact vJ _ u u' _ _ 3 [97] false JW W (sf u u' _ _ s1 s2 99 W h h')
 have CE:Hid (∀ W u u',bJ W u D1->bJ W u' D1->Calls Tryz.prog 17 #[u,u',.int .i64 99] W fun e w'=>ot W.heap.size e w' [] true/\Below W.heap.size W w'):=hid fun W u u' h h'=>by
  rw[Tp]at h h';exact vJ _ u u' _ _ 4 [] true Ou W (Gb u u' _ _ s1 s1 99 W h h')
 have CT:Hid (∀ W u,bJ W u D1->Calls Tryz.prog 14 #[u] W fun e w'=>Ge e w' DN/\Below W.heap.size W w'):=hid fun W u h=>by
  rw[Tp]at h;have h5:=Bj u _ s1 W h;rw[iK]at h5;refine h5.mono fun e w' ⟨u,he,hd,hx⟩=>?_
  obtain⟨a0,n0,c0,a1,n1,c1,a2,n2,c2,rfl⟩:=hd.df.Dl;rw[hDN];exact⟨⟨_,_,_,_,_,_,_,_,_,he,hd.df⟩,hx⟩
 have CG:Hid (∀ W u,bJ W u DN->Calls Tryz.prog 21 #[u] W fun e w'=>ot W.heap.size e w' [0] true/\Below W.heap.size W w'):=hid fun W u h=>by
  rw[hDN]at h;exact pV u _ zP VY [0] VV W h
 have CB:Hid (∀ W u u',cr cF W u [0]->cr cF W u' [0]->Calls Tryz.prog 29 #[u,u'] W fun e w'=>e=.returned (.bool true)/\w'=W):=hid fun W u u' h h'=>AQ u u' [0] [0] W h h' (by decide) (by decide)
 obtain⟨Tq,RI⟩:∃ s,s=Df [97,98]:=⟨_,rfl⟩;obtain⟨tab,Fi⟩:∃ s,s= ~~~Tq:=⟨_,rfl⟩;obtain⟨DY,hDY⟩:∃ d,d=JV:=⟨_,rfl⟩;have aar:DY=⟨[tab,Tq],[[1,0],[1,1]],[[0],[]]⟩:=by rw[hDY,Fi,RI];rfl
 have CX:Hid (∀ W,Calls Tryz.prog 30 #[.string ⟨#[97,98]⟩] W fun e w'=>e=.returned (.agg (encS tab))/\Below W.heap.size W w'):=hid fun W=>by rw[Fi,RI];exact vD ⟨#[97,98]⟩ [97,98] rfl (by decide) W
 have CY:Hid (∀ W,Calls Tryz.prog 31 #[.string ⟨#[97,98]⟩] W fun e w'=>e=.returned (.agg (encS Tq))/\Below W.heap.size W w'):=hid fun W=>by rw[RI];exact oq ⟨#[97,98]⟩ [97,98] rfl (by decide) W
 have CC:Hid (∀ W u,bJ W u DY->Calls Tryz.prog 18 #[u,.int .i64 3,.int .i64 100] W fun e w'=>e=.returned (.tuple #[.int .i64 8,.int .i64 0])/\Below W.heap.size W w'):=hid fun W u h=>by
  rw[hDY]at h;have h5:=kA u _ Ov 3 100 W h;rwa[Dj 100 (.inl rfl)]at h5
 have CD:Hid (∀ W u,bJ W u DY->Calls Tryz.prog 18 #[u,.int .i64 3,.int .i64 5] W fun e w'=>e=.returned (.tuple #[.int .i64 5,.int .i64 0])/\Below W.heap.size W w'):=hid fun W u h=>by
  rw[hDY]at h;have h5:=kA u _ Ov 3 5 W h;rwa[Dj 5 (.inr rfl)]at h5
 have CZ:Hid (∀ W,Calls Tryz.prog 19 #[.int .u8 3] W fun e w'=>e=.returned (.string ⟨#[108,101,115,115]⟩)/\Ext W w'):=hid fun W=>LG 3 (by decide) W
 have HDY:=hid aar;have kc:=fun (w:World) (C:Array Value) (n c:Nat)=>Lib.run_convert_bytes_const (P:=Tryz.prog) w 23 5 C n c Tryz.underlying23 Tryz.underlying5
 have kc1:=fun (w:World) (o:Obj) (C:Array Value) (n c:Nat)=>VX w o C n c
 clear s1 s2 Tp Xb hDA hDL hDN RI Fi hDY aar;go_enter Tryz.func9,Tryz.ntmps9;go_wp2_with fail
 refine(R1.out w).mono ?_;rintro e w1 ⟨⟨pa0,pn0,pc0,pa1,pn1,pc1,pa2,pn2,pc2,rfl,hd⟩,hx⟩;have jS:=hid hd;have X:=hid hx;clear hd hx R1;go_wp2_with fail
 refine(R2.out w1).mono ?_;rintro e w2 ⟨⟨qa0,qn0,qc0,qa1,qn1,qc1,qa2,qn2,qc2,rfl,hd⟩,hx⟩;replace jS:=hid (jS.out.below hx);replace X:=hid (X.out.trans (hx.mono X.out.size));have qY:=hid hd;clear hd hx R2;go_wp2_with fail
 refine ay ?_;intro V1 hV1;have hb:Below w2.heap.size w2 V1:=by rw[hV1];exact(((Ext.refl w2).alloc _).alloc _).below
 have B1:Hid (ah V1 w2.heap.size #[.slice pa0 pn0 pc0,.slice pa1 pn1 pc1,.slice pa2 pn2 pc2] 28):=hid (by rw[hV1];exact(ah.new _ _ _).alloc _);have B2:Hid (ah V1 (w2.heap.size+1) #[.slice qa0 qn0 qc0,.slice qa1 qn1 qc1,.slice qa2 qn2 qc2] 28):=hid (by rw[hV1];exact(ah.new _ _ _).at (by simp));replace jS:=hid (jS.out.below hb);replace X:=hid (X.out.trans (hb.mono X.out.size));replace qY:=hid (qY.out.below hb);clear hb hV1;refine(CA.out V1 _ _ jS.out qY.out).mono ?_;rintro e w3 ⟨⟨ra0,rn0,rc0,ra1,rn1,rc1,ra2,rn2,rc2,rfl,hd⟩,hx⟩;replace jS:=hid (jS.out.below hx);replace X:=hid (X.out.trans (hx.mono X.out.size));replace qY:=hid (qY.out.below hx);replace B1:=hid (B1.out.below hx B1.out.lt);replace B2:=hid (B2.out.below hx B2.out.lt);have Gg:=hid hd;clear hd hx CA;have i0:∀ o0,(w3.alloc o0).cell? ⟨w2.heap.size,0,none⟩=some (.slice pa0 pn0 pc0):=fun o0=>((B1.out.alloc o0).three).1.1
 have i1:∀ o0,(w3.alloc o0).cell? ⟨w2.heap.size,1,none⟩=some (.slice pa1 pn1 pc1):=fun o0=>((B1.out.alloc o0).three).1.2.1
 have i2:∀ o0,(w3.alloc o0).cell? ⟨w2.heap.size,2,none⟩=some (.slice pa2 pn2 pc2):=fun o0=>((B1.out.alloc o0).three).1.2.2
 have j0:∀ o0,(w3.alloc o0).cell? ⟨w2.heap.size+1,0,none⟩=some (.slice qa0 qn0 qc0):=fun o0=>((B2.out.alloc o0).three).1.1
 have j1:∀ o0,(w3.alloc o0).cell? ⟨w2.heap.size+1,1,none⟩=some (.slice qa1 qn1 qc1):=fun o0=>((B2.out.alloc o0).three).1.2.1
 have j2:∀ o0,(w3.alloc o0).cell? ⟨w2.heap.size+1,2,none⟩=some (.slice qa2 qn2 qc2):=fun o0=>((B2.out.alloc o0).three).1.2.2
 go_wp2_with fail
 refine ay ?_;intro V2 hV2;have hb:Below w3.heap.size w3 V2:=by rw[hV2];exact((Ext.refl w3).alloc _).below
 have B3:Hid (ah V2 w3.heap.size #[.slice ra0 rn0 rc0,.slice ra1 rn1 rc1,.slice ra2 rn2 rc2] 28):=hid (by rw[hV2];exact ah.new _ _ _);replace jS:=hid (jS.out.below hb);replace X:=hid (X.out.trans (hb.mono X.out.size));replace qY:=hid (qY.out.below hb);replace B1:=hid (B1.out.below hb B1.out.lt);replace B2:=hid (B2.out.below hb B2.out.lt);replace Gg:=hid (Gg.out.below hb);clear hb hV2 i0 i1 i2 j0 j1 j2;refine(CL.out V2 _ _ jS.out qY.out).mono ?_;rintro e w4 ⟨⟨sa0,sn0,sc0,sa1,sn1,sc1,VD,sn2,Td,rfl,hd⟩,hx⟩;replace jS:=hid (jS.out.below hx);replace X:=hid (X.out.trans (hx.mono X.out.size));replace qY:=hid (qY.out.below hx);replace B1:=hid (B1.out.below hx B1.out.lt);replace B2:=hid (B2.out.below hx B2.out.lt);replace Gg:=hid (Gg.out.below hx);replace B3:=hid (B3.out.below hx B3.out.lt);have Kg:=hid hd;clear hd hx CL;have i0:∀ o0,(w4.alloc o0).cell? ⟨w3.heap.size,0,none⟩=some (.slice ra0 rn0 rc0):=fun o0=>((B3.out.alloc o0).three).1.1
 have i1:∀ o0,(w4.alloc o0).cell? ⟨w3.heap.size,1,none⟩=some (.slice ra1 rn1 rc1):=fun o0=>((B3.out.alloc o0).three).1.2.1
 have i2:∀ o0,(w4.alloc o0).cell? ⟨w3.heap.size,2,none⟩=some (.slice ra2 rn2 rc2):=fun o0=>((B3.out.alloc o0).three).1.2.2
 go_wp2_with fail
 refine ay ?_;intro V3 cD;have hb:Below w4.heap.size w4 V3:=by rw[cD];exact(((Ext.refl w4).alloc _).alloc _).below
 have B5:Hid (ah V3 w4.heap.size #[.slice sa0 sn0 sc0,.slice sa1 sn1 sc1,.slice VD sn2 Td] 28):=hid (by rw[cD];exact(ah.new _ _ _).alloc _);have fk:cr cF V3 (.slice (some ⟨w4.heap.size+1,0,none⟩) 2 2) [97,97]:=by rw[cD];exact lG [97,97] (Dm (by simp)) rfl rfl (by decide)
 replace jS:=hid (jS.out.below hb);replace X:=hid (X.out.trans (hb.mono X.out.size));replace qY:=hid (qY.out.below hb);replace B1:=hid (B1.out.below hb B1.out.lt);replace B2:=hid (B2.out.below hb B2.out.lt);replace Gg:=hid (Gg.out.below hb);replace B3:=hid (B3.out.below hb B3.out.lt);replace Kg:=hid (Kg.out.below hb);clear hb cD i0 i1 i2;refine(CM.out V3 _ _ Gg.out fk).mono ?_;rintro e w5 ⟨⟨ma,mc,rfl⟩,hx⟩;replace jS:=hid (jS.out.below hx);replace X:=hid (X.out.trans (hx.mono X.out.size));replace qY:=hid (qY.out.below hx);replace B1:=hid (B1.out.below hx B1.out.lt);replace B2:=hid (B2.out.below hx B2.out.lt);replace Gg:=hid (Gg.out.below hx);replace B3:=hid (B3.out.below hx B3.out.lt);replace Kg:=hid (Kg.out.below hx);replace B5:=hid (B5.out.below hx B5.out.lt);clear fk hx CM;obtain⟨⟨i0,i1,i2⟩,_⟩:=B3.out.three;go_wp2_with fail
 refine ay ?_;intro V4 hV4;have hb:Below w5.heap.size w5 V4:=by rw[hV4];exact((Ext.refl w5).alloc _).below
 have fk:cr cF V4 (.slice (some ⟨w5.heap.size,0,none⟩) 1 1) [97]:=by rw[hV4];exact lG [97] (World.alloc_heap_new _ _) rfl rfl (by decide)
 replace jS:=hid (jS.out.below hb);replace X:=hid (X.out.trans (hb.mono X.out.size));replace qY:=hid (qY.out.below hb);replace B1:=hid (B1.out.below hb B1.out.lt);replace B2:=hid (B2.out.below hb B2.out.lt);replace Gg:=hid (Gg.out.below hb);replace B3:=hid (B3.out.below hb B3.out.lt);replace Kg:=hid (Kg.out.below hb);replace B5:=hid (B5.out.below hb B5.out.lt);clear hb hV4 i0 i1 i2;refine(CN.out V4 _ _ Gg.out fk).mono ?_;rintro e w6 ⟨⟨na,nc,rfl⟩,hx⟩;replace jS:=hid (jS.out.below hx);replace X:=hid (X.out.trans (hx.mono X.out.size));replace qY:=hid (qY.out.below hx);replace B1:=hid (B1.out.below hx B1.out.lt);replace B2:=hid (B2.out.below hx B2.out.lt);replace Gg:=hid (Gg.out.below hx);replace B3:=hid (B3.out.below hx B3.out.lt);replace Kg:=hid (Kg.out.below hx);replace B5:=hid (B5.out.below hx B5.out.lt);clear fk hx CN;clear B3 Gg;obtain⟨⟨i0,i1,i2⟩,_⟩:=B5.out.three;go_wp2_with fail
 refine(CF.out w6 _ Kg.out).mono ?_;rintro e w7 ⟨⟨fa,fc,rfl,ho⟩,hx⟩;replace jS:=hid (jS.out.below hx);replace X:=hid (X.out.trans (hx.mono X.out.size));replace qY:=hid (qY.out.below hx);replace B1:=hid (B1.out.below hx B1.out.lt);replace B2:=hid (B2.out.below hx B2.out.lt);replace Kg:=hid (Kg.out.below hx);replace B5:=hid (B5.out.below hx B5.out.lt);have hst:=Hf rfl ho;have hse:((⟨#[97]⟩:ByteArray) != ⟨#[97]⟩)=false:=by kernel_rfl
 clear hx ho i0 i1 i2 CF;clear B5 Kg;obtain⟨⟨i0,i1,i2⟩,_⟩:=B1.out.three;obtain⟨⟨j0,j1,j2⟩,_⟩:=B2.out.three;go_wp2_with fail
 refine(CW.out w7 _ _ qY.out jS.out).mono ?_;rintro e w8 ⟨⟨ga,gc,rfl,_⟩,hx⟩;replace jS:=hid (jS.out.below hx);replace X:=hid (X.out.trans (hx.mono X.out.size));replace qY:=hid (qY.out.below hx);replace B1:=hid (B1.out.below hx B1.out.lt);replace B2:=hid (B2.out.below hx B2.out.lt);clear hx i0 i1 i2 j0 j1 j2 CW hst;obtain⟨⟨i0,i1,i2⟩,_⟩:=B1.out.three;obtain⟨⟨j0,j1,j2⟩,_⟩:=B2.out.three;go_wp2_with fail
 refine(CV.out w8 _ _ jS.out qY.out).mono ?_;rintro e w9 ⟨⟨ha,hc,rfl,ho⟩,hx⟩;replace jS:=hid (jS.out.below hx);replace X:=hid (X.out.trans (hx.mono X.out.size));replace qY:=hid (qY.out.below hx);replace B1:=hid (B1.out.below hx B1.out.lt);replace B2:=hid (B2.out.below hx B2.out.lt);have TS:=hid ho;clear hx ho i0 i1 i2 j0 j1 j2 CV qY B2;obtain⟨⟨i0,i1,i2⟩,_⟩:=B1.out.three;go_wp2_with fail
 refine(CT.out w9 _ jS.out).mono ?_;rintro e w10 ⟨⟨ta0,tn0,tc0,ta1,tn1,tc1,Ij,tn2,Ik,rfl,hd⟩,hx⟩;replace jS:=hid (jS.out.below hx);replace X:=hid (X.out.trans (hx.mono X.out.size));replace B1:=hid (B1.out.below hx B1.out.lt);replace TS:=hid (ak TS.out hx);have Xc:=hid hd;clear hx hd i0 i1 i2 CT;go_wp2_with fail
 refine ay ?_;intro V5 WN;have hb:Below w10.heap.size w10 V5:=by rw[WN];exact((Ext.refl w10).alloc _).below
 replace jS:=hid (jS.out.below hb);replace X:=hid (X.out.trans (hb.mono X.out.size));replace B1:=hid (B1.out.below hb B1.out.lt);replace TS:=hid (ak TS.out hb);replace Xc:=hid (Xc.out.below hb);clear hb WN;refine(CG.out V5 _ Xc.out).mono ?_;rintro e w11 ⟨⟨ka,kd,rfl,ho⟩,hx⟩;replace jS:=hid (jS.out.below hx);replace X:=hid (X.out.trans (hx.mono X.out.size));replace B1:=hid (B1.out.below hx B1.out.lt);replace TS:=hid (ak TS.out hx);replace Xc:=hid (Xc.out.below hx);have US:=hid ho;clear hx ho CG Xc;obtain⟨⟨i0,i1,i2⟩,_⟩:=B1.out.three;go_wp2_with fail
 refine(CE.out w11 _ _ jS.out jS.out).mono ?_;rintro e w12 ⟨⟨la,lc,rfl,_⟩,hx⟩;replace jS:=hid (jS.out.below hx);replace X:=hid (X.out.trans (hx.mono X.out.size));replace B1:=hid (B1.out.below hx B1.out.lt);replace TS:=hid (ak TS.out hx);replace US:=hid (ak US.out hx);have hst:=Hf rfl TS.out;clear hx i0 i1 i2 CE jS B1 TS;go_wp2_with fail
 refine ay ?_;intro V6 ZF;have hb:Below w12.heap.size w12 V6:=by rw[ZF];exact((Ext.refl w12).alloc _).below
 have fk:cr cF V6 (.slice (some ⟨w12.heap.size,0,none⟩) 1 1) [0]:=by rw[ZF];exact lG [0] (World.alloc_heap_new _ _) rfl rfl (by decide)
 replace X:=hid (X.out.trans (hb.mono X.out.size));replace US:=hid (ak US.out hb);clear hb ZF hst;refine(CB.out V6 _ _ (dX (l:=[0]) US.out rfl) fk).mono ?_;rintro e w13 ⟨rfl,hw⟩;replace hw:=hw.symm;subst hw;clear CB US fk hse;go_wp2_with fail
 refine(CX.out _).mono ?_;rintro e w14 ⟨rfl,hx⟩;replace X:=hid (X.out.trans (hx.mono X.out.size));clear hx CX;go_wp2_with fail
 refine(CY.out _).mono ?_;rintro e vS ⟨rfl,hx⟩;replace X:=hid (X.out.trans (hx.mono X.out.size));clear hx CY;go_wp2_with fail
 refine ay ?_;intro V7 JA;have hb:Below vS.heap.size vS V7:=by rw[JA];exact((((((((Ext.refl vS).alloc _).alloc _).alloc _).alloc _).alloc _).alloc _).alloc _).below
 have k0:ah V7 (vS.heap.size) #[.int .u64 (wd tab 0).toNat,.int .u64 (wd tab 1).toNat,.int .u64 (wd tab 2).toNat,.int .u64 (wd tab 3).toNat,.int .u64 (wd Tq 0).toNat,.int .u64 (wd Tq 1).toNat,.int .u64 (wd Tq 2).toNat,.int .u64 (wd Tq 3).toNat] 59:=by rw[JA];exact(((((((ah.new _ _ _).at (by simp)).alloc _).alloc _).alloc _).alloc _).alloc _).alloc _
 have k1:ah V7 (vS.heap.size+1) #[.int .i64 1,.int .i64 0] 3:=by rw[JA];exact((((((ah.new _ _ _).at (by simp)).alloc _).alloc _).alloc _).alloc _).alloc _
 have k2:ah V7 (vS.heap.size+1+1) #[.int .i64 1,.int .i64 1] 3:=by rw[JA];exact(((((ah.new _ _ _).at (by simp)).alloc _).alloc _).alloc _).alloc _
 have k3:ah V7 (vS.heap.size+1+1+1) #[.slice (some ⟨vS.heap.size+1,0,none⟩) 2 2,.slice (some ⟨vS.heap.size+1+1,0,none⟩) 2 2] 47:=by rw[JA];exact((((ah.new _ _ _).at (by simp)).alloc _).alloc _).alloc _
 have k4:ah V7 (vS.heap.size+1+1+1+1) #[.int .i64 0] 3:=by rw[JA];exact(((ah.new _ _ _).at (by simp)).alloc _).alloc _
 have k5:ah V7 (vS.heap.size+1+1+1+1+1) #[.slice (some ⟨vS.heap.size+1+1+1+1,0,none⟩) 1 1,.slice none 0 0] 47:=by rw[JA];exact((ah.new _ _ _).at (by simp)).alloc _
 have k6:ah V7 (vS.heap.size+1+1+1+1+1+1) #[.slice (some ⟨vS.heap.size,0,none⟩) 2 2,.slice (some ⟨vS.heap.size+1+1+1,0,none⟩) 2 2,.slice (some ⟨vS.heap.size+1+1+1+1+1,0,none⟩) 2 2] 28:=by rw[JA];exact(ah.new _ _ _).at (by simp)
 have hdf:bJ V7 (.agg #[.slice (some ⟨vS.heap.size,0,none⟩) 2 2,.slice (some ⟨vS.heap.size+1+1+1,0,none⟩) 2 2,.slice (some ⟨vS.heap.size+1+1+1+1+1,0,none⟩) 2 2]) DY:=by rw[HDY.out];exact⟨_,_,_,rfl,Gc [tab,Tq] k0 rfl rfl,He [.slice (some ⟨vS.heap.size+1,0,none⟩) 2 2,.slice (some ⟨vS.heap.size+1+1,0,none⟩) 2 2] k3 rfl rfl ⟨Gd [1,0] k1 rfl rfl,Gd [1,1] k2 rfl rfl,trivial⟩,He [.slice (some ⟨vS.heap.size+1+1+1+1,0,none⟩) 1 1,.slice none 0 0] k5 rfl rfl ⟨Gd [0] k4 rfl rfl,RG,trivial⟩⟩
 replace X:=hid (X.out.trans (hb.mono X.out.size));have VZ:=hid hdf;have Tr:=hid k6;clear hb JA hdf k0 k1 k2 k3 k4 k5 k6 HDY;refine(CC.out V7 _ VZ.out).mono ?_;rintro e w16 ⟨rfl,hx⟩;replace X:=hid (X.out.trans (hx.mono X.out.size));replace VZ:=hid (VZ.out.below hx);replace Tr:=hid (Tr.out.below hx Tr.out.lt);clear hx CC;obtain⟨⟨i0,i1,i2⟩,_⟩:=Tr.out.three;go_wp2_with fail
 refine(CD.out w16 _ VZ.out).mono ?_;rintro e w17 ⟨rfl,hx⟩;replace X:=hid (X.out.trans (hx.mono X.out.size));replace VZ:=hid (VZ.out.below hx);replace Tr:=hid (Tr.out.below hx Tr.out.lt);clear hx CD VZ Tr i0 i1 i2;go_wp2_with fail
 refine(CZ.out w17).mono ?_;rintro e w18 ⟨rfl,hx⟩;have hs2:((⟨#[108,101,115,115]⟩:ByteArray)==⟨#[108,101,115,115]⟩)=true:=by kernel_rfl
 go_wp2;go_ret;exact⟨rfl,X.out.trans (hx.below.mono X.out.size)⟩
end Go.Proofs.YtalombmiochpmaaGreatDoor
namespace Go.Proofs.YtalombmiochpmaaGreatDoor
open Go Go.RowKit
def sumTo (f:Nat->Nat):Nat->Nat
 | 0=>0
 | n+1=>sumTo f n+f n
theorem eh {f g:Nat->Nat} :∀ n,(∀ c,c<n->f c=g c)->sumTo f n=sumTo g n
 | 0,_=>rfl
 | n+1,h=>by rw[sumTo,sumTo,eh n fun c hc=>h c (by omega),h n (by omega)]
theorem qZ (f g:Nat->Nat):∀ n,sumTo (fun c=>f c+g c) n=sumTo f n+sumTo g n
 | 0=>rfl
 | n+1=>by rw[sumTo,sumTo,sumTo,qZ f g n];omega
theorem vK:∀ n,sumTo (fun _=>0) n=0
 | 0=>rfl
 | n+1=>by rw[sumTo,vK n]
theorem sg (a:Nat):∀ n,sumTo (fun _=>a) n=n*a
 | 0=>by rw[sumTo,Nat.zero_mul]
 | n+1=>by rw[sumTo,sg a n,Nat.succ_mul]
theorem Dn (g:Nat->Nat) (j:Nat):∀ K,sumTo (fun k=>if j=k then g k else 0) K=if j<K then g j else 0
 | 0=>by rw[sumTo,if_neg (by omega)]
 | K+1=>by
  rw[sumTo,Dn g j K];by_cases e:j=K
  ·subst e;rw[if_neg (by omega),if_pos rfl,if_pos (by omega),Nat.zero_add]
  ·rw[if_neg e,Nat.add_zero]
   by_cases e2:j<K
   ·rw[if_pos e2,if_pos (by omega)]
   ·rw[if_neg e2,if_neg (by omega)]
theorem si (g κ:Nat->Nat) (K:Nat):∀ N,(∀ c,c<N->κ c<K)->sumTo (fun c=>g (κ c)) N=sumTo (fun k=>((List.range N).filter fun c=>κ c==k).length*g k) K
 | 0,_=>by
  rw[sumTo,eh K (g:=fun _=>0) fun k _=>by simp,vK]
 | N+1,h=>by
  rw[sumTo,si g κ K N fun c hc=>h c (by omega)];have e:∀ k,((List.range (N+1)).filter fun c=>κ c==k).length*g k=((List.range N).filter fun c=>κ c==k).length*g k+if κ N=k then g k else 0:=fun k=>by
   rw[List.range_succ,List.filter_append,List.length_append,Nat.add_mul];by_cases e:κ N=k
   ·rw[if_pos e];simp[e]
   ·rw[if_neg e];simp[e]
  rw[eh K fun k _=>e k,qZ,Dn g (κ N) K,if_pos (h N (by omega))]
def wU (d:DF):Nat->Nat->Nat
 | 0,s=>if acc d s then 1 else 0
 | n+1,s=>sumTo (fun c=>wU d n (eO d s (cls d.cl c))) 256
theorem JX {d:DF} (h:Rt d) {k:Nat} (hk:k<d.cl.length):kL (d.cl.getD k 0)=((List.range 256).filter fun c=>cls d.cl c==k).length:=by
 unfold kL aQ;refine congrArg List.length (List.filter_congr fun c hc=>?_);have hc:=List.mem_range.1 hc;have e:=h.part.QA (aI (l:=d.cl) 0 hk) hc;cases hb:(d.cl.getD k 0).getLsbD c with
 | true=>exact(beq_iff_eq.2 (e.1 hb)).symm
 | false=>
  refine(beq_eq_false_iff_ne.2 fun hk=>?_).symm;rw[e.2 hk]at hb;cases hb
theorem Ox {d:DF} (h:Rt d) (n s:Nat):wU d (n+1) s=sumTo (fun k=>kL (d.cl.getD k 0)*wU d n (eO d s k)) d.cl.length:=by show sumTo (fun c=>wU d n (eO d s (cls d.cl c))) 256=_;rw[si (fun k=>wU d n (eO d s k)) (cls d.cl) d.cl.length 256 fun c hc=>h.part.gF hc];exact eh _ fun k hk=>by rw[JX h hk]
theorem Oy {A S X:Nat} {M:Int} (hM:0<=M):min (min (A:Int) M+S*min (X:Int) M) M=min (((A+S*X:Nat)):Int) M:=by
 rw[Int.natCast_add,Int.natCast_mul];by_cases hx:(X:Int)<=M
 ·rw[show min (X:Int) M=X by omega]
  have:(0:Int)<=S*X:=Int.mul_nonneg (Int.natCast_nonneg _) (Int.natCast_nonneg _);omega
 ·rw[show min (X:Int) M=M by omega]
  cases S with
  | zero=>simp only[Int.natCast_zero,Int.zero_mul];omega
  | succ S=>
   have h1:(0:Int)<=S*M:=Int.mul_nonneg (Int.natCast_nonneg _) hM;have h2:(0:Int)<=S*X:=Int.mul_nonneg (Int.natCast_nonneg _) (Int.natCast_nonneg _);rw[Int.natCast_succ,Int.add_mul,Int.add_mul,Int.one_mul,Int.one_mul];omega
theorem Hg:(0:Int)<=dO:=by unfold dO;omega
theorem yy {d:DF} {many:List Int} {x:Nat->Nat} {s:Nat} :∀ k,(∀ j,j<k->many.getD (eO d s j) 0=min ((x (eO d s j):Nat):Int) dO)->eX d many s k=min ((sumTo (fun j=>kL (d.cl.getD j 0)*x (eO d s j)) k:Nat):Int) dO
 | 0,_=>by
  have:=Hg;unfold eX sumTo;omega
 | k+1,h=>by
  unfold eX;rw[yy k fun j hj=>h j (by omega),h k (by omega),Oy Hg];rfl
theorem Dp {d:DF} (h:Rt d):∀ n t,t<d.nx.length->(cS d n).getD t 0=min ((wU d n t:Nat):Int) dO
 | 0,t,ht=>by
  unfold cS wU;rw[fG,if_pos ht];have:(1:Int)<=dO:=by unfold dO;omega
  split<;>omega
 | n+1,t,ht=>by
  unfold cS;rw[fG,if_pos ht,yy (x:=wU d n) _ fun j hj=>Dp h n _ (h.gI ht hj),Ox h]
def ng (f:List Nat->Nat):Nat->Nat
 | 0=>f []
 | n+1=>sumTo (fun c=>ng (fun w=>f (c::w)) n) 256
theorem kB:∀ (n:Nat) {f g:List Nat->Nat},(∀ w,w.length=n->(∀ c∈w,c<256)->f w=g w)->ng f n=ng g n
 | 0,f,g,h=>h [] rfl fun _ hc=>by cases hc
 | n+1,f,g,h=>eh 256 fun c hc=>kB n fun w hw hb=>h (c::w) (by rw[List.length_cons,hw]) fun x hx=>by
  rcases List.mem_cons.1 hx with rfl | hx
  ·exact hc
  ·exact hb x hx
theorem mq:∀ (n:Nat) (f g:List Nat->Nat),ng (fun w=>f w+g w) n=ng f n+ng g n
 | 0,_,_=>rfl
 | n+1,f,g=>by
  show sumTo (fun c=>ng (fun w=>f (c::w)+g (c::w)) n) 256=sumTo (fun c=>ng (fun w=>f (c::w)) n) 256+sumTo (fun c=>ng (fun w=>g (c::w)) n) 256;rw[<-qZ];exact eh 256 fun c _=>mq n _ _
theorem ou (a:Nat):∀ n,ng (fun _=>a) n=256^n*a
 | 0=>by rw[ng,Nat.pow_zero,Nat.one_mul]
 | n+1=>by
  show sumTo (fun _=>ng (fun _=>a) n) 256=_;rw[sg,ou a n,Nat.pow_succ,Nat.mul_comm (256^n) 256,Nat.mul_assoc]
def ind (b:Bool):Nat:=if b then 1 else 0
def cnt (d:DF) (n:Nat):Nat:=ng (fun w=>ind (eF d w)) n
theorem Oz (d:DF):∀ n s,wU d n s=ng (fun w=>ind (acc d (dm d s w))) n
 | 0,_=>rfl
 | n+1,_=>eh 256 fun _ _=>Oz d n _
theorem OE (d:DF) (n:Nat):wU d n 0=cnt d n:=Oz d n 0
theorem OG {d:DF} (h:Rt d) {n most:Int} (hn:0<=n/\n<=64) (hm:0<=most/\most<=dO):jo d n most=(min (min (cnt d n.toNat:Int) dO) most,0):=by unfold jo;rw[if_neg (by omega),Dp h _ 0 h.pos,OE]
theorem OH {p q a o:DF} (n:Nat) (ha:∀ w:List Nat,(∀ c∈w,c<256)->eF a w=(eF p w&&eF q w)) (ho:∀ w:List Nat,(∀ c∈w,c<256)->eF o w=(eF p w || eF q w)):cnt p n+cnt q n=cnt a n+cnt o n:=by
 unfold cnt;rw[<-mq, <-mq];refine kB n fun w _ hw=>?_
 show ind (eF p w)+ind (eF q w)=ind (eF a w)+ind (eF o w);rw[ha w hw,ho w hw];cases eF p w<;>cases eF q w<;>rfl
theorem RJ {p t:DF} (n:Nat) (ht:∀ w:List Nat,(∀ c∈w,c<256)->eF t w= !eF p w):cnt p n+cnt t n=256^n:=by unfold cnt;rw[<-mq,kB n (g:=fun _=>1) fun w _ hw=>?_,ou,Nat.mul_one];show ind (eF p w)+ind (eF t w)=1;rw[ht w hw];cases eF p w<;>rfl
theorem V8 (p:DF) (n:Nat):cnt p n<=256^n:=by
 have h1:ng (fun w=>ind (eF p w)) n+ng (fun w=>ind (!eF p w)) n=256^n:=by rw[<-mq,kB n (g:=fun _=>1) fun w _ hw=>?_,ou,Nat.mul_one];show ind (eF p w)+ind (!eF p w)=1;cases eF p w<;>rfl
 unfold cnt;omega
theorem rh {d:DF} (h:Rt d) {n:Nat} (hn:n<=4) {most:Int} (hm:0<=most/\most<=dO):jo d n most=(min (cnt d n:Int) most,0)/\(cnt d n:Int)<dO:=by
 have h1:=V8 d n;have h2:256^n<=256^4:=Nat.pow_le_pow_right (by decide) hn;have h3:(256:Nat)^4=4294967296:=by decide
 have h4:(cnt d n:Int)<dO:=by unfold dO;omega
 refine⟨?_,h4⟩;rw[OG h (n:=n) (by omega) hm,Int.toNat_natCast];congr 1;omega
end Go.Proofs.YtalombmiochpmaaGreatDoor
