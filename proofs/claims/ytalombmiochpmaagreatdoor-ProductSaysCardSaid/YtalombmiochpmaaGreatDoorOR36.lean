/- The law's awake. -/
import Derived.Test.YtalombmiochpmaaGreatDoorOR35
set_option maxRecDepth 100000
set_option maxHeartbeats 16000000
open Go.Lib (hid)
namespace Go.Proofs.YtalombmiochpmaaGreatDoor
open Go Go.RowKit Go.Shelf Go.Maps
attribute [local go_sem] encS
theorem aT.Je {w:World} {v:Value} {d:DF} (h:aT w v d):∃ a0 n0 c0 a1 n1 c1 a2 n2 c2,v=.agg #[.slice a0 n0 c0,.slice a1 n1 c1,.slice a2 n2 c2]:=by obtain⟨v0,v1,v2,rfl,h0,h1,h2⟩:=h;obtain⟨a0,c0,rfl⟩:=h0.1.form;obtain⟨a1,c1,rfl⟩:=h1.form;obtain⟨a2,c2,rfl⟩:=h2.form;exact⟨_,_,_,_,_,_,_,_,_,rfl⟩
theorem Ng {W:World} {base n:Nat} {a:Option Addr} {c:Nat} (hn:n=1) (h:W.ownsRow base 5 1 (.slice a n c) 1 [bu 97]):(convert 23 9 (.slice a n c)).run Tryz.prog W=.ok (.string ⟨#[97]⟩) W:=by
 subst hn;obtain⟨g,u,rfl,_,_,hu,cu,_⟩:=fj h (show 0<1 by decide);cases hu
 exact Lib.run_convert_whole W 23 5 9 Tryz.underlying23 Tryz.underlying5 Tryz.underlying9 g 0 ⟨#[97]⟩ (fun i hi=>by
  obtain rfl:i=0:=by have:i<1:=hi;omega
  exact cu) c
theorem Jf {w:World} {o:Obj} {b:Nat} (e:w.heap.size=b):(w.alloc o).heap[b]? =some o:=e▸World.alloc_heap_new w o
theorem ab8 (w:World) (o:Obj) (C:Array Value) (n c:Nat):(convert 23 23 (.slice (some ⟨w.heap.size+1,0,none⟩) n c)).run Tryz.prog ((w.alloc o).alloc (.cells C 5))=.ok (.slice (some ⟨w.heap.size+1,0,none⟩) n c) ((w.alloc o).alloc (.cells C 5 (C.size,C.size+1))):=by
 have h:=Lib.run_convert_bytes_const (P:=Tryz.prog) (w.alloc o) 23 5 C n c Tryz.underlying23 Tryz.underlying5;have e:(w.alloc o).heap.size=w.heap.size+1:=by simp
 rw[e]at h;exact h
def Zi (e:Ending) (w':World) (d:DF):Prop:=∃ a0 n0 c0 a1 n1 c1 a2 n2 c2,e=.returned (.agg #[.slice a0 n0 c0,.slice a1 n1 c1,.slice a2 n2 c2])/\aT w' (.agg #[.slice a0 n0 c0,.slice a1 n1 c1,.slice a2 n2 c2]) d
def LU (e:Ending) (w':World) (d:DF):Prop:=∃ a0 n0 c0 a1 n1 c1 a2 n2 c2,e=.returned (.tuple #[.agg #[.slice a0 n0 c0,.slice a1 n1 c1,.slice a2 n2 c2],.int .i64 0])/\aT w' (.agg #[.slice a0 n0 c0,.slice a1 n1 c1,.slice a2 n2 c2]) d
def kW (base:Nat) (e:Ending) (w':World) (l:List Nat) (b:Bool):Prop:=∃ a c,e=.returned (.tuple #[.slice a l.length c,.bool b,.int .i64 0])/\w'.ownsRow base 5 1 (.slice a l.length c) l.length (l.map bu)
theorem tZ (u:Value) (d:DF) (rt:d.right=true) (sm:Sm d) (l:List Nat) (h:aJ d=some l) (W:World) (hd:aT W u d):Calls Tryz.prog 21 #[u] W fun e w'=>kW W.heap.size e w' l true/\Below W.heap.size W w':=by refine(ib u d sm W hd).mono ?_;rintro e w' ⟨v,rfl,ho,hx⟩;rw[show bH d=(l,true,0) by unfold bH;rw[rt,h];rfl]at ho ⊢;obtain⟨a,c,rfl⟩:=ownsRow_form ho;exact⟨⟨a,c,rfl,ho⟩,hx⟩
theorem zQ (f:Nat) (u u':Value) (a b:DF) (op:Int) (l:List Nat) (bo:Bool) (hp:aX a b op 99=(l,bo,0)) (W:World) (h:Calls Tryz.prog f #[u,u',.int .i64 99] W fun e w'=>∃ u,e=.returned (.tuple #[u,.bool (aX a b op 99).2.1,.int .i64 (aX a b op 99).2.2])/\w'.ownsRow W.heap.size 5 1 u (aX a b op 99).1.length ((aX a b op 99).1.map bu)/\Below W.heap.size W w'): Calls Tryz.prog f #[u,u',.int .i64 99] W fun e w'=>kW W.heap.size e w' l bo/\Below W.heap.size W w':=by refine h.mono ?_;rintro e w' ⟨v,rfl,ho,hx⟩;rw[hp]at ho ⊢;obtain⟨a,c,rfl⟩:=ownsRow_form ho;exact⟨⟨a,c,rfl,ho⟩,hx⟩
theorem Uz:Sm PS:=⟨by decide,by decide,by decide,by decide,by decide⟩
theorem UA:Sm zO:=⟨by decide,by decide,by decide,by decide,by decide⟩
theorem XD:Sm Dy:=⟨by decide,by decide,by decide,by decide,by decide⟩
theorem ab9:Sm (aK (bN 1)):=(Jd ((aC _).1 kV)).2
theorem kX (w:World):Calls Tryz.prog 9 #[] w fun e w'=>e=.returned (.bool true)/\Below w.heap.size w w':=by
 have s1:=Dz 1 (by decide);have s2:=Dz 2 (by decide);obtain⟨D1,Zj⟩:∃ d,d=bN 1:=⟨_,rfl⟩;obtain⟨D2,hD2⟩:∃ d,d=bN 2:=⟨_,rfl⟩;obtain⟨DA,hDA⟩:∃ d,d=zO:=⟨_,rfl⟩;obtain⟨DL,hDL⟩:∃ d,d=Dy:=⟨_,rfl⟩;obtain⟨DN,hDN⟩:∃ d,d=aK (bN 1):=⟨_,rfl⟩;have R1:Hid (∀ W,Calls Tryz.prog 27 #[.int .i64 1] W fun e w'=>Zi e w' D1/\Below W.heap.size W w'):=hid fun W=>(zL 1 (by decide) (by decide) W).mono fun e w' ⟨u,he,hd,hx⟩=>by
  obtain⟨a0,n0,c0,a1,n1,c1,a2,n2,c2,rfl⟩:=hd.Je;rw[Zj];exact⟨⟨_,_,_,_,_,_,_,_,_,he,hd⟩,hx⟩
 have R2:Hid (∀ W,Calls Tryz.prog 27 #[.int .i64 2] W fun e w'=>Zi e w' D2/\Below W.heap.size W w'):=hid fun W=>(zL 2 (by decide) (by decide) W).mono fun e w' ⟨u,he,hd,hx⟩=>by
  obtain⟨a0,n0,c0,a1,n1,c1,a2,n2,c2,rfl⟩:=hd.Je;rw[hD2];exact⟨⟨_,_,_,_,_,_,_,_,_,he,hd⟩,hx⟩
 have CA:Hid (∀ W u u',aT W u D1->aT W u' D2->Calls Tryz.prog 12 #[u,u',.int .u8 1,.int .i64 99] W fun e w'=>LU e w' DA/\Below W.heap.size W w'):=hid fun W u u' h h'=>by
  rw[Zj]at h;rw[hD2]at h';refine(kE u u' _ _ s1 s2 1 99 W h h').mono fun e w' ⟨u,he,hd,hx⟩=>?_
  rw[show aP (bN 1) (bN 2) ((1:Nat):Int) 99=(zO,0) from ab5]at he hd;obtain⟨a0,n0,c0,a1,n1,c1,a2,n2,c2,rfl⟩:=hd.df.Je;rw[hDA];exact⟨⟨_,_,_,_,_,_,_,_,_,he,hd.df⟩,hx⟩
 have CL:Hid (∀ W u u',aT W u D1->aT W u' D2->Calls Tryz.prog 12 #[u,u',.int .u8 3,.int .i64 99] W fun e w'=>LU e w' DL/\Below W.heap.size W w'):=hid fun W u u' h h'=>by
  rw[Zj]at h;rw[hD2]at h';refine(kE u u' _ _ s1 s2 3 99 W h h').mono fun e w' ⟨u,he,hd,hx⟩=>?_
  rw[show aP (bN 1) (bN 2) ((3:Nat):Int) 99=(Dy,0) from Nd]at he hd;obtain⟨a0,n0,c0,a1,n1,c1,a2,n2,c2,rfl⟩:=hd.df.Je;rw[hDL];exact⟨⟨_,_,_,_,_,_,_,_,_,he,hd.df⟩,hx⟩
 have CM:Hid (∀ W u b,aT W u DA->aZ bu W b [97,97]->Calls Tryz.prog 28 #[u,b] W fun e w'=>(∃ a c,e=.returned (.tuple #[.slice a 1 c,.int .i64 0]))/\Below W.heap.size W w'):=hid fun W u b h hb=>by
  rw[hDA]at h;refine(iY u b zO ((aC _).1 zP) UA [97,97] (by decide) (by decide) W h hb).mono fun e w' ⟨v,he,ho,hx⟩=>?_
  rw[ab7]at ho;obtain⟨a,c,rfl⟩:=ownsRow_form ho;exact⟨⟨a,c,he⟩,hx⟩
 have CN:Hid (∀ W u b,aT W u DA->aZ bu W b [97]->Calls Tryz.prog 28 #[u,b] W fun e w'=>(∃ a c,e=.returned (.tuple #[.slice a 0 c,.int .i64 0]))/\Below W.heap.size W w'):=hid fun W u b h hb=>by
  rw[hDA]at h;refine(iY u b zO ((aC _).1 zP) UA [97] (by decide) (by decide) W h hb).mono fun e w' ⟨v,he,ho,hx⟩=>?_
  rw[af0]at ho;obtain⟨a,c,rfl⟩:=ownsRow_form ho;exact⟨⟨a,c,he⟩,hx⟩
 have CF:Hid (∀ W u,aT W u DL->Calls Tryz.prog 21 #[u] W fun e w'=>kW W.heap.size e w' [97] true/\Below W.heap.size W w'):=hid fun W u h=>by
  rw[hDL]at h;exact tZ u _ Ja XD [97] Jb W h
 have CW:Hid (∀ W u u',aT W u D2->aT W u' D1->Calls Tryz.prog 22 #[u,u',.int .i64 99] W fun e w'=>kW W.heap.size e w' [] true/\Below W.heap.size W w'):=hid fun W u u' h h'=>by
  rw[hD2]at h;rw[Zj]at h';exact zQ _ u u' _ _ 3 [] true af1 W (lW u u' _ _ s2 s1 99 W h h')
 have CV:Hid (∀ W u u',aT W u D1->aT W u' D2->Calls Tryz.prog 22 #[u,u',.int .i64 99] W fun e w'=>kW W.heap.size e w' [97] false/\Below W.heap.size W w'):=hid fun W u u' h h'=>by
  rw[Zj]at h;rw[hD2]at h';exact zQ _ u u' _ _ 3 [97] false PU W (lW u u' _ _ s1 s2 99 W h h')
 have CE:Hid (∀ W u u',aT W u D1->aT W u' D1->Calls Tryz.prog 17 #[u,u',.int .i64 99] W fun e w'=>kW W.heap.size e w' [] true/\Below W.heap.size W w'):=hid fun W u u' h h'=>by
  rw[Zj]at h h';exact zQ _ u u' _ _ 4 [] true Uy W (nS u u' _ _ s1 s1 99 W h h')
 have CT:Hid (∀ W u,aT W u D1->Calls Tryz.prog 14 #[u] W fun e w'=>LU e w' DN/\Below W.heap.size W w'):=hid fun W u h=>by
  rw[Zj]at h;have h5:=mN u _ s1 W h;rw[kV]at h5;refine h5.mono fun e w' ⟨u,he,hd,hx⟩=>?_
  obtain⟨a0,n0,c0,a1,n1,c1,a2,n2,c2,rfl⟩:=hd.df.Je;rw[hDN];exact⟨⟨_,_,_,_,_,_,_,_,_,he,hd.df⟩,hx⟩
 have CG:Hid (∀ W u,aT W u DN->Calls Tryz.prog 21 #[u] W fun e w'=>kW W.heap.size e w' [0] true/\Below W.heap.size W w'):=hid fun W u h=>by
  rw[hDN]at h;exact tZ u _ Fy ab9 [0] ab6 W h
 have CB:Hid (∀ W u u',aZ bu W u [0]->aZ bu W u' [0]->Calls Tryz.prog 29 #[u,u'] W fun e w'=>e=.returned (.bool true)/\w'=W):=hid fun W u u' h h'=>Hb u u' [0] [0] W h h' (by decide) (by decide)
 obtain⟨Zk,XG⟩:∃ s,s=I8 [97,98]:=⟨_,rfl⟩;obtain⟨tab,KZ⟩:∃ s,s= ~~~Zk:=⟨_,rfl⟩;obtain⟨DY,hDY⟩:∃ d,d=PS:=⟨_,rfl⟩;have af2:DY=⟨[tab,Zk],[[1,0],[1,1]],[[0],[]]⟩:=by rw[hDY,KZ,XG];rfl
 have CX:Hid (∀ W,Calls Tryz.prog 30 #[.string ⟨#[97,98]⟩] W fun e w'=>e=.returned (.agg (encS tab))/\Below W.heap.size W w'):=hid fun W=>by rw[KZ,XG];exact zK ⟨#[97,98]⟩ [97,98] rfl (by decide) W
 have CY:Hid (∀ W,Calls Tryz.prog 31 #[.string ⟨#[97,98]⟩] W fun e w'=>e=.returned (.agg (encS Zk))/\Below W.heap.size W w'):=hid fun W=>by rw[XG];exact sF ⟨#[97,98]⟩ [97,98] rfl (by decide) W
 have CC:Hid (∀ W u,aT W u DY->Calls Tryz.prog 18 #[u,.int .i64 3,.int .i64 100] W fun e w'=>e=.returned (.tuple #[.int .i64 8,.int .i64 0])/\Below W.heap.size W w'):=hid fun W u h=>by
  rw[hDY]at h;have h5:=kU u _ Uz 3 100 W h;rwa[Jc 100 (.inl rfl)]at h5
 have CD:Hid (∀ W u,aT W u DY->Calls Tryz.prog 18 #[u,.int .i64 3,.int .i64 5] W fun e w'=>e=.returned (.tuple #[.int .i64 5,.int .i64 0])/\Below W.heap.size W w'):=hid fun W u h=>by
  rw[hDY]at h;have h5:=kU u _ Uz 3 5 W h;rwa[Jc 5 (.inr rfl)]at h5
 have CZ:Hid (∀ W,Calls Tryz.prog 19 #[.int .u8 3] W fun e w'=>e=.returned (.string ⟨#[108,101,115,115]⟩)/\Ext W w'):=hid fun W=>Hg 3 (by decide) W
 have HDY:=hid af2;have kc:=fun (w:World) (C:Array Value) (n c:Nat)=>Lib.run_convert_bytes_const (P:=Tryz.prog) w 23 5 C n c Tryz.underlying23 Tryz.underlying5
 have kc1:=fun (w:World) (o:Obj) (C:Array Value) (n c:Nat)=>ab8 w o C n c
 clear s1 s2 Zj hD2 hDA hDL hDN XG KZ hDY af2;go_enter Tryz.func9,Tryz.ntmps9;go_wp2_with fail
 refine(R1.out w).mono ?_;rintro e w1 ⟨⟨pa0,pn0,pc0,pa1,pn1,pc1,pa2,pn2,pc2,rfl,hd⟩,hx⟩;have ny:=hid hd;have X:=hid hx;clear hd hx R1;go_wp2_with fail
 refine(R2.out w1).mono ?_;rintro e w2 ⟨⟨qa0,qn0,qc0,qa1,qn1,qc1,qa2,qn2,qc2,rfl,hd⟩,hx⟩;replace ny:=hid (ny.out.below hx);replace X:=hid (X.out.trans (hx.mono X.out.size));have vz:=hid hd;clear hd hx R2;go_wp2_with fail
 refine az ?_;intro V1 hV1;have hb:Below w2.heap.size w2 V1:=by rw[hV1];exact(((Ext.refl w2).alloc _).alloc _).below
 have B1:Hid (ah V1 w2.heap.size #[.slice pa0 pn0 pc0,.slice pa1 pn1 pc1,.slice pa2 pn2 pc2] 28):=hid (by rw[hV1];exact(ah.new _ _ _).alloc _);have B2:Hid (ah V1 (w2.heap.size+1) #[.slice qa0 qn0 qc0,.slice qa1 qn1 qc1,.slice qa2 qn2 qc2] 28):=hid (by rw[hV1];exact(ah.new _ _ _).at (by simp));replace ny:=hid (ny.out.below hb);replace X:=hid (X.out.trans (hb.mono X.out.size));replace vz:=hid (vz.out.below hb);clear hb hV1;refine(CA.out V1 _ _ ny.out vz.out).mono ?_;rintro e w3 ⟨⟨ra0,rn0,rc0,ra1,rn1,rc1,ra2,rn2,rc2,rfl,hd⟩,hx⟩;replace ny:=hid (ny.out.below hx);replace X:=hid (X.out.trans (hx.mono X.out.size));replace vz:=hid (vz.out.below hx);replace B1:=hid (B1.out.below hx B1.out.lt);replace B2:=hid (B2.out.below hx B2.out.lt);have LV:=hid hd;clear hd hx CA;have i0:∀ o0,(w3.alloc o0).cell? ⟨w2.heap.size,0,none⟩=some (.slice pa0 pn0 pc0):=fun o0=>((B1.out.alloc o0).three).1.1
 have i1:∀ o0,(w3.alloc o0).cell? ⟨w2.heap.size,1,none⟩=some (.slice pa1 pn1 pc1):=fun o0=>((B1.out.alloc o0).three).1.2.1
 have i2:∀ o0,(w3.alloc o0).cell? ⟨w2.heap.size,2,none⟩=some (.slice pa2 pn2 pc2):=fun o0=>((B1.out.alloc o0).three).1.2.2
 have j0:∀ o0,(w3.alloc o0).cell? ⟨w2.heap.size+1,0,none⟩=some (.slice qa0 qn0 qc0):=fun o0=>((B2.out.alloc o0).three).1.1
 have j1:∀ o0,(w3.alloc o0).cell? ⟨w2.heap.size+1,1,none⟩=some (.slice qa1 qn1 qc1):=fun o0=>((B2.out.alloc o0).three).1.2.1
 have j2:∀ o0,(w3.alloc o0).cell? ⟨w2.heap.size+1,2,none⟩=some (.slice qa2 qn2 qc2):=fun o0=>((B2.out.alloc o0).three).1.2.2
 go_wp2_with fail
 refine az ?_;intro V2 hV2;have hb:Below w3.heap.size w3 V2:=by rw[hV2];exact((Ext.refl w3).alloc _).below
 have B3:Hid (ah V2 w3.heap.size #[.slice ra0 rn0 rc0,.slice ra1 rn1 rc1,.slice ra2 rn2 rc2] 28):=hid (by rw[hV2];exact ah.new _ _ _);replace ny:=hid (ny.out.below hb);replace X:=hid (X.out.trans (hb.mono X.out.size));replace vz:=hid (vz.out.below hb);replace B1:=hid (B1.out.below hb B1.out.lt);replace B2:=hid (B2.out.below hb B2.out.lt);replace LV:=hid (LV.out.below hb);clear hb hV2 i0 i1 i2 j0 j1 j2;refine(CL.out V2 _ _ ny.out vz.out).mono ?_;rintro e w4 ⟨⟨sa0,sn0,sc0,sa1,sn1,sc1,sa2,sn2,YZ,rfl,hd⟩,hx⟩;replace ny:=hid (ny.out.below hx);replace X:=hid (X.out.trans (hx.mono X.out.size));replace vz:=hid (vz.out.below hx);replace B1:=hid (B1.out.below hx B1.out.lt);replace B2:=hid (B2.out.below hx B2.out.lt);replace LV:=hid (LV.out.below hx);replace B3:=hid (B3.out.below hx B3.out.lt);have Qy:=hid hd;clear hd hx CL;have i0:∀ o0,(w4.alloc o0).cell? ⟨w3.heap.size,0,none⟩=some (.slice ra0 rn0 rc0):=fun o0=>((B3.out.alloc o0).three).1.1
 have i1:∀ o0,(w4.alloc o0).cell? ⟨w3.heap.size,1,none⟩=some (.slice ra1 rn1 rc1):=fun o0=>((B3.out.alloc o0).three).1.2.1
 have i2:∀ o0,(w4.alloc o0).cell? ⟨w3.heap.size,2,none⟩=some (.slice ra2 rn2 rc2):=fun o0=>((B3.out.alloc o0).three).1.2.2
 go_wp2_with fail
 refine az ?_;intro V3 di;have hb:Below w4.heap.size w4 V3:=by rw[di];exact(((Ext.refl w4).alloc _).alloc _).below
 have B5:Hid (ah V3 w4.heap.size #[.slice sa0 sn0 sc0,.slice sa1 sn1 sc1,.slice sa2 sn2 YZ] 28):=hid (by rw[di];exact(ah.new _ _ _).alloc _);have fy:aZ bu V3 (.slice (some ⟨w4.heap.size+1,0,none⟩) 2 2) [97,97]:=by rw[di];exact pG [97,97] (Jf (by simp)) rfl rfl (by decide)
 replace ny:=hid (ny.out.below hb);replace X:=hid (X.out.trans (hb.mono X.out.size));replace vz:=hid (vz.out.below hb);replace B1:=hid (B1.out.below hb B1.out.lt);replace B2:=hid (B2.out.below hb B2.out.lt);replace LV:=hid (LV.out.below hb);replace B3:=hid (B3.out.below hb B3.out.lt);replace Qy:=hid (Qy.out.below hb);clear hb di i0 i1 i2;refine(CM.out V3 _ _ LV.out fy).mono ?_;rintro e w5 ⟨⟨ma,mc,rfl⟩,hx⟩;replace ny:=hid (ny.out.below hx);replace X:=hid (X.out.trans (hx.mono X.out.size));replace vz:=hid (vz.out.below hx);replace B1:=hid (B1.out.below hx B1.out.lt);replace B2:=hid (B2.out.below hx B2.out.lt);replace LV:=hid (LV.out.below hx);replace B3:=hid (B3.out.below hx B3.out.lt);replace Qy:=hid (Qy.out.below hx);replace B5:=hid (B5.out.below hx B5.out.lt);clear fy hx CM;obtain⟨⟨i0,i1,i2⟩,_⟩:=B3.out.three;go_wp2_with fail
 refine az ?_;intro V4 hV4;have hb:Below w5.heap.size w5 V4:=by rw[hV4];exact((Ext.refl w5).alloc _).below
 have fy:aZ bu V4 (.slice (some ⟨w5.heap.size,0,none⟩) 1 1) [97]:=by rw[hV4];exact pG [97] (World.alloc_heap_new _ _) rfl rfl (by decide)
 replace ny:=hid (ny.out.below hb);replace X:=hid (X.out.trans (hb.mono X.out.size));replace vz:=hid (vz.out.below hb);replace B1:=hid (B1.out.below hb B1.out.lt);replace B2:=hid (B2.out.below hb B2.out.lt);replace LV:=hid (LV.out.below hb);replace B3:=hid (B3.out.below hb B3.out.lt);replace Qy:=hid (Qy.out.below hb);replace B5:=hid (B5.out.below hb B5.out.lt);clear hb hV4 i0 i1 i2;refine(CN.out V4 _ _ LV.out fy).mono ?_;rintro e w6 ⟨⟨na,nc,rfl⟩,hx⟩;replace ny:=hid (ny.out.below hx);replace X:=hid (X.out.trans (hx.mono X.out.size));replace vz:=hid (vz.out.below hx);replace B1:=hid (B1.out.below hx B1.out.lt);replace B2:=hid (B2.out.below hx B2.out.lt);replace LV:=hid (LV.out.below hx);replace B3:=hid (B3.out.below hx B3.out.lt);replace Qy:=hid (Qy.out.below hx);replace B5:=hid (B5.out.below hx B5.out.lt);clear fy hx CN;clear B3 LV;obtain⟨⟨i0,i1,i2⟩,_⟩:=B5.out.three;go_wp2_with fail
 refine(CF.out w6 _ Qy.out).mono ?_;rintro e w7 ⟨⟨fa,fc,rfl,ho⟩,hx⟩;replace ny:=hid (ny.out.below hx);replace X:=hid (X.out.trans (hx.mono X.out.size));replace vz:=hid (vz.out.below hx);replace B1:=hid (B1.out.below hx B1.out.lt);replace B2:=hid (B2.out.below hx B2.out.lt);replace Qy:=hid (Qy.out.below hx);replace B5:=hid (B5.out.below hx B5.out.lt);have hst:=Ng rfl ho;have hse:((⟨#[97]⟩:ByteArray) != ⟨#[97]⟩)=false:=by kernel_rfl
 clear hx ho i0 i1 i2 CF;clear B5 Qy;obtain⟨⟨i0,i1,i2⟩,_⟩:=B1.out.three;obtain⟨⟨j0,j1,j2⟩,_⟩:=B2.out.three;go_wp2_with fail
 refine(CW.out w7 _ _ vz.out ny.out).mono ?_;rintro e w8 ⟨⟨ga,gc,rfl,_⟩,hx⟩;replace ny:=hid (ny.out.below hx);replace X:=hid (X.out.trans (hx.mono X.out.size));replace vz:=hid (vz.out.below hx);replace B1:=hid (B1.out.below hx B1.out.lt);replace B2:=hid (B2.out.below hx B2.out.lt);clear hx i0 i1 i2 j0 j1 j2 CW hst;obtain⟨⟨i0,i1,i2⟩,_⟩:=B1.out.three;obtain⟨⟨j0,j1,j2⟩,_⟩:=B2.out.three;go_wp2_with fail
 refine(CV.out w8 _ _ ny.out vz.out).mono ?_;rintro e w9 ⟨⟨ha,hc,rfl,ho⟩,hx⟩;replace ny:=hid (ny.out.below hx);replace X:=hid (X.out.trans (hx.mono X.out.size));replace vz:=hid (vz.out.below hx);replace B1:=hid (B1.out.below hx B1.out.lt);replace B2:=hid (B2.out.below hx B2.out.lt);have TS:=hid ho;clear hx ho i0 i1 i2 j0 j1 j2 CV vz B2;obtain⟨⟨i0,i1,i2⟩,_⟩:=B1.out.three;go_wp2_with fail
 refine(CT.out w9 _ ny.out).mono ?_;rintro e PW ⟨⟨ta0,tn0,tc0,ta1,tn1,tc1,NY,tn2,NZ,rfl,hd⟩,hx⟩;replace ny:=hid (ny.out.below hx);replace X:=hid (X.out.trans (hx.mono X.out.size));replace B1:=hid (B1.out.below hx B1.out.lt);replace TS:=hid (aq TS.out hx);have DNF:=hid hd;clear hx hd i0 i1 i2 CT;go_wp2_with fail
 refine az ?_;intro V5 hV5;have hb:Below PW.heap.size PW V5:=by rw[hV5];exact((Ext.refl PW).alloc _).below
 replace ny:=hid (ny.out.below hb);replace X:=hid (X.out.trans (hb.mono X.out.size));replace B1:=hid (B1.out.below hb B1.out.lt);replace TS:=hid (aq TS.out hb);replace DNF:=hid (DNF.out.below hb);clear hb hV5;refine(CG.out V5 _ DNF.out).mono ?_;rintro e w11 ⟨⟨ka,kd,rfl,ho⟩,hx⟩;replace ny:=hid (ny.out.below hx);replace X:=hid (X.out.trans (hx.mono X.out.size));replace B1:=hid (B1.out.below hx B1.out.lt);replace TS:=hid (aq TS.out hx);replace DNF:=hid (DNF.out.below hx);have US:=hid ho;clear hx ho CG DNF;obtain⟨⟨i0,i1,i2⟩,_⟩:=B1.out.three;go_wp2_with fail
 refine(CE.out w11 _ _ ny.out ny.out).mono ?_;rintro e w12 ⟨⟨la,lc,rfl,_⟩,hx⟩;replace ny:=hid (ny.out.below hx);replace X:=hid (X.out.trans (hx.mono X.out.size));replace B1:=hid (B1.out.below hx B1.out.lt);replace TS:=hid (aq TS.out hx);replace US:=hid (aq US.out hx);have hst:=Ng rfl TS.out;clear hx i0 i1 i2 CE ny B1 TS;go_wp2_with fail
 refine az ?_;intro V6 hV6;have hb:Below w12.heap.size w12 V6:=by rw[hV6];exact((Ext.refl w12).alloc _).below
 have fy:aZ bu V6 (.slice (some ⟨w12.heap.size,0,none⟩) 1 1) [0]:=by rw[hV6];exact pG [0] (World.alloc_heap_new _ _) rfl rfl (by decide)
 replace X:=hid (X.out.trans (hb.mono X.out.size));replace US:=hid (aq US.out hb);clear hb hV6 hst;refine(CB.out V6 _ _ (dp (l:=[0]) US.out rfl) fy).mono ?_;rintro e w13 ⟨rfl,hw⟩;replace hw:=hw.symm;subst hw;clear CB US fy hse;go_wp2_with fail
 refine(CX.out _).mono ?_;rintro e w14 ⟨rfl,hx⟩;replace X:=hid (X.out.trans (hx.mono X.out.size));clear hx CX;go_wp2_with fail
 refine(CY.out _).mono ?_;rintro e wJ ⟨rfl,hx⟩;replace X:=hid (X.out.trans (hx.mono X.out.size));clear hx CY;go_wp2_with fail
 refine az ?_;intro V7 Po;have hb:Below wJ.heap.size wJ V7:=by rw[Po];exact((((((((Ext.refl wJ).alloc _).alloc _).alloc _).alloc _).alloc _).alloc _).alloc _).below
 have k0:ah V7 (wJ.heap.size) #[.int .u64 (wd tab 0).toNat,.int .u64 (wd tab 1).toNat,.int .u64 (wd tab 2).toNat,.int .u64 (wd tab 3).toNat,.int .u64 (wd Zk 0).toNat,.int .u64 (wd Zk 1).toNat,.int .u64 (wd Zk 2).toNat,.int .u64 (wd Zk 3).toNat] 59:=by rw[Po];exact(((((((ah.new _ _ _).at (by simp)).alloc _).alloc _).alloc _).alloc _).alloc _).alloc _
 have k1:ah V7 (wJ.heap.size+1) #[.int .i64 1,.int .i64 0] 3:=by rw[Po];exact((((((ah.new _ _ _).at (by simp)).alloc _).alloc _).alloc _).alloc _).alloc _
 have k2:ah V7 (wJ.heap.size+1+1) #[.int .i64 1,.int .i64 1] 3:=by rw[Po];exact(((((ah.new _ _ _).at (by simp)).alloc _).alloc _).alloc _).alloc _
 have k3:ah V7 (wJ.heap.size+1+1+1) #[.slice (some ⟨wJ.heap.size+1,0,none⟩) 2 2,.slice (some ⟨wJ.heap.size+1+1,0,none⟩) 2 2] 47:=by rw[Po];exact((((ah.new _ _ _).at (by simp)).alloc _).alloc _).alloc _
 have k4:ah V7 (wJ.heap.size+1+1+1+1) #[.int .i64 0] 3:=by rw[Po];exact(((ah.new _ _ _).at (by simp)).alloc _).alloc _
 have k5:ah V7 (wJ.heap.size+1+1+1+1+1) #[.slice (some ⟨wJ.heap.size+1+1+1+1,0,none⟩) 1 1,.slice none 0 0] 47:=by rw[Po];exact((ah.new _ _ _).at (by simp)).alloc _
 have k6:ah V7 (wJ.heap.size+1+1+1+1+1+1) #[.slice (some ⟨wJ.heap.size,0,none⟩) 2 2,.slice (some ⟨wJ.heap.size+1+1+1,0,none⟩) 2 2,.slice (some ⟨wJ.heap.size+1+1+1+1+1,0,none⟩) 2 2] 28:=by rw[Po];exact(ah.new _ _ _).at (by simp)
 have hdf:aT V7 (.agg #[.slice (some ⟨wJ.heap.size,0,none⟩) 2 2,.slice (some ⟨wJ.heap.size+1+1+1,0,none⟩) 2 2,.slice (some ⟨wJ.heap.size+1+1+1+1+1,0,none⟩) 2 2]) DY:=by rw[HDY.out];exact⟨_,_,_,rfl,LQ [tab,Zk] k0 rfl rfl,Nf [.slice (some ⟨wJ.heap.size+1,0,none⟩) 2 2,.slice (some ⟨wJ.heap.size+1+1,0,none⟩) 2 2] k3 rfl rfl ⟨LR [1,0] k1 rfl rfl,LR [1,1] k2 rfl rfl,trivial⟩,Nf [.slice (some ⟨wJ.heap.size+1+1+1+1,0,none⟩) 1 1,.slice none 0 0] k5 rfl rfl ⟨LR [0] k4 rfl rfl,Xz,trivial⟩⟩
 replace X:=hid (X.out.trans (hb.mono X.out.size));have DYF:=hid hdf;have Zl:=hid k6;clear hb Po hdf k0 k1 k2 k3 k4 k5 k6 HDY;refine(CC.out V7 _ DYF.out).mono ?_;rintro e w16 ⟨rfl,hx⟩;replace X:=hid (X.out.trans (hx.mono X.out.size));replace DYF:=hid (DYF.out.below hx);replace Zl:=hid (Zl.out.below hx Zl.out.lt);clear hx CC;obtain⟨⟨i0,i1,i2⟩,_⟩:=Zl.out.three;go_wp2_with fail
 refine(CD.out w16 _ DYF.out).mono ?_;rintro e w17 ⟨rfl,hx⟩;replace X:=hid (X.out.trans (hx.mono X.out.size));replace DYF:=hid (DYF.out.below hx);replace Zl:=hid (Zl.out.below hx Zl.out.lt);clear hx CD DYF Zl i0 i1 i2;go_wp2_with fail
 refine(CZ.out w17).mono ?_;rintro e w18 ⟨rfl,hx⟩;have hs2:((⟨#[108,101,115,115]⟩:ByteArray)==⟨#[108,101,115,115]⟩)=true:=by kernel_rfl
 go_wp2;go_ret;exact⟨rfl,X.out.trans (hx.below.mono X.out.size)⟩
end Go.Proofs.YtalombmiochpmaaGreatDoor
