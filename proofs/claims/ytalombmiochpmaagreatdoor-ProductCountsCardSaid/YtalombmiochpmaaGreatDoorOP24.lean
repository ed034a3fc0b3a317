/- rx.nodes: the iterator over the nodes of a tree. -/
import Derived.Test.YtalombmiochpmaaGreatDoorOP23
set_option maxRecDepth 100000
set_option maxHeartbeats 16000000
open Go.Lib (hid)
namespace Go.Proofs.YtalombmiochpmaaGreatDoor
open Go Go.RowKit Go.Shelf Go.Maps
theorem Zt (n0 base M:Nat) (F:Nat->Prop) (m:GM) (k0:Nat) (s:BS) (mn:Int) (N:Nat) (t:RX) (l:List RX) (p:Option Addr) (n c:Nat) (w:World) (dp:n0<=base) (h:eJ base M F w m) (hr:aF (· <n0) w (.agg (ai k0 s mn (N:Int) (.slice p n c))) (.nd k0 s mn (N:Int) (t::l))) (ht:Fw n0 t) (hf:t.full=true) (ok:m.ok) (hm:m.bQ.length=m.aB.length) (hN:1<=N) (adE:N<=16) (hG:dZ mn (N:Int)=N) (hn:m.aB.length+N*t.cnt<=448): Calls Tryz.prog 133 #[.pointer (some ⟨M,0,none⟩),.agg (ai k0 s mn (N:Int) (.slice p n c))] w (iE base M F w (dz mn (N:Int) (fun m=>t.cN m) m N).1 (dz mn (N:Int) (fun m=>t.cN m) m N).2):=by
 have hlen:n=l.length+1:=by obtain⟨p2,c2,e⟩:=hr.form;simp[ai,RX.subs,RX.kind,RX.set,RX.mn,RX.mx]at e;exact e.2.1
 have ja:0<n:=by omega
 obtain⟨b,off,p',c',rfl,hb,sA,lH,⟨e0,e1,e2,e3,e4,e5,e6,e7⟩,hrt⟩:=hr.elem (i:=0) (t:=t) rfl;simp only[Nat.zero_mul,Nat.add_zero]at e0 e1 e2 e3 e4 e5 e6 e7;have HM:=hid h;have QQ:=hid hrt;have HT:=hid ht;have Pu:=hid hf;have kN:=hid ok;have HGG:=hid hG;have GR:=hid hm;have EE:=hid (And.intro e0 (And.intro e1 (And.intro e2 (And.intro e3 (And.intro e4 (And.intro e5 (And.intro e6 e7)))))));have SJ:M<w.heap.size:=(h.lt M h.fm).2;have Zm:n0<=w.heap.size:=by have:=(h.lt M h.fm).1;omega
 have uU:¬F b:=fun e=>by have:=(h.lt b e).1;omega
 obtain⟨st,hst⟩:∃ st,st=dz mn (N:Int) (fun m=>t.cN m) m N:=⟨_,rfl⟩;rw[<-hst];have HST:=hid hst;have HMU:=hid hn;clear h hr hrt ht hf ok hm hlen hst hG e0 e1 e2 e3 e4 e5 e6 e7 hn;have hmx:¬ ((N:Int)= -1):=by omega
 have ajW:((N:Int)== -1)=false:=by simp[hmx]
 unfold ai;go_enter Tryz.func133,Tryz.ntmps133;go_upto_region 5 with fail
 refine ax ?_;intro V hV;have N0:Hid (ah V w.heap.size #[.int .u8 k0,.int .u64 (wd s 0).toNat,.int .u64 (wd s 1).toNat,.int .u64 (wd s 2).toNat,.int .u64 (wd s 3).toNat,.int .i64 mn,.int .i64 (N:Int),.slice (some ⟨b,off,none⟩) n c] 62):=by rw[hV];exact hid (((ah.new _ _ _).alloc _).alloc _)
 have R0:Hid (ah V (w.heap.size+1) (zeroV false) 139):=by rw[hV];exact hid ((ah.at (ah.new _ _ _) (by simp)).alloc _)
 have O0:Hid (ah V (w.heap.size+1+1) (zeroV true) 139):=by rw[hV];exact hid (ah.at (ah.new _ _ _) (by simp))
 have E0:Hid (Ext w V):=by rw[hV];exact hid ((((Ext.refl w).alloc _).alloc _).alloc _)
 have jV:Hid (V.heap.size=w.heap.size+1+1+1):=hid (by rw[hV];simp);clear hV;have Bv:w.heap.size+1+1<V.heap.size:=by rw[jV.out];omega
 have MV:Hid (eJ base M F V m):=hid (HM.out.keeps E0.out.keeps fun x hx=>(HM.out.lt x hx).2);go_wp2;go_loopw [18] (fun iv W=>∃ k:Nat,k<=N/\iv=.int .i64 k/\QR base M F (dz mn (N:Int) (fun m=>t.cN m) m k) (w.heap.size+1+1) V W) (fun iv _=>N-(intOf iv).toNat);case atStart=>
  refine⟨0,by omega,rfl,?_⟩;exact⟨⟨F,MV.out,fun _ h=>h,fun _ h=>.inl h⟩,by show ah _ _ (aw ⟨0,0,true⟩) _;rw[fZ];exact O0.out,aa.refl _ _⟩
 case round=>
  obtain⟨k,hk,rfl,hI⟩:=hrel;obtain⟨wo,rfl⟩:∃ wo:World,wo=wr:=⟨_,rfl⟩;have HI:=hid hI;clear hI;by_cases hlt:k<N
  ·have eT:(k:Int)<N:=by omega
   obtain⟨⟨F',tV,Jq,hF2⟩,hO,Cm⟩:=HI.out;have bn:=Cn Pu.out kN.out mn (N:Int) k;have kK:=l4 t Pu.out _ bn.ok;have my:dz mn (N:Int) (fun m=>t.cN m) m (k+1)=zr mn (N:Int) k (dz mn (N:Int) (fun m=>t.cN m) m k).2 (t.cN (dz mn (N:Int) (fun m=>t.cN m) m k).1):=rfl;have hmul:(k+1)*t.cnt<=N*t.cnt:=Nat.mul_le_mul_right _ hlt;have Nl:(k+1)*t.cnt=k*t.cnt+t.cnt:=Nat.succ_mul _ _;have hmu:=HMU.out;obtain⟨sk,hsk⟩:∃ sk,sk=dz mn (N:Int) (fun m=>t.cN m) m k:=⟨_,rfl⟩;rw[<-hsk]at hO tV my bn kK;obtain⟨m2,p2,sB⟩:∃ m2 p2,t.cN sk.1=(m2,p2):=⟨_,_,rfl⟩;rw[sB]at my kK;have nG:=kK.len;have hl2:=bn.len;have DD:=kK.ok.len;have U9:=kK.gp;dsimp only at nG DD U9;have Dv:Hid (cO sk.2.ct m2.bQ.length):=hid (bn.gp.ct.mono (by omega));have HP2:Hid (cO p2.ct m2.bQ.length):=hid (U9.ct.mono (by omega));have QV:Hid (m2.bQ.length<=448):=hid (by omega);have CM:Hid (∀ W,eJ base M F' W sk.1->aF (· <n0) W (.agg (ai t.kind t.set t.mn t.mx (.slice p' t.subs.length c'))) t->Calls Tryz.prog 77 #[.pointer (some ⟨M,0,none⟩),.agg (ai t.kind t.set t.mn t.mx (.slice p' t.subs.length c'))] W (iE base M F' W m2 p2)):=hid fun W h1 h2=>by
    have:=HT.out base M F' sk.1 W _ dp h1 h2 bn.ok bn.ok.len (by omega);rw[sB]at this;exact this
   have QS:=hid my;have Nj:¬F' (w.heap.size+1+1):=fun e=>by rcases hF2 _ e with h | h;exact absurd (HM.out.lt _ h).2 (by omega);omega
   have Zn:¬F' w.heap.size:=fun e=>by rcases hF2 _ e with h | h;exact absurd (HM.out.lt _ h).2 (by omega);omega
   have KO:Hid (aa (fun x=>x<w.heap.size/\¬F x) w wo):=hid ((E0.out.keeps.mono fun x hx=>hx.1).tr (Cm.mono fun x hx=>⟨by have:=hx.1;omega,hx.2,by have:=hx.1;omega⟩));have Sc:=Cm.size;have NO:Hid (ah wo w.heap.size #[.int .u8 k0,.int .u64 (wd s 0).toNat,.int .u64 (wd s 1).toNat,.int .u64 (wd s 2).toNat,.int .u64 (wd s 3).toNat,.int .i64 mn,.int .i64 (N:Int),.slice (some ⟨b,off,none⟩) n c] 62):=hid (N0.out.keeps Cm ⟨by omega,fun e=>by have:=(HM.out.lt _ e).2;omega,by omega⟩);have O1:=hid hO;have M1:=hid tV;have R1:Hid (aF (· <n0) wo (.agg (ai t.kind t.set t.mn t.mx (.slice p' t.subs.length c'))) t):=hid (QQ.out.keeps KO.out fun x hx=>⟨by omega,fun e=>by have:=(HM.out.lt x e).1;omega⟩);have ec:∀ (o:Nat) (u:Value),w.cell? ⟨b,o,none⟩=some u->wo.cell? ⟨b,o,none⟩=some u:=fun o u h=>(KO.out.cell (p:=⟨b,o,none⟩) ⟨sA,uU⟩).trans h
   obtain⟨e0,e1,e2,e3,e4,e5,e6,e7⟩:=EE.out;replace e0:=ec _ _ e0;replace e1:=ec _ _ e1;replace e2:=ec _ _ e2;replace e3:=ec _ _ e3;replace e4:=ec _ _ e4;replace e5:=ec _ _ e5;replace e6:=ec _ _ e6;replace e7:=ec _ _ e7;have n5:wo.cell? ⟨w.heap.size,5,none⟩=some (.int .i64 mn):=NO.out.cell 5;have n6:wo.cell? ⟨w.heap.size,6,none⟩=some (.int .i64 (N:Int)):=NO.out.cell 6;have n7:wo.cell? ⟨w.heap.size,7,none⟩=some (.slice (some ⟨b,off,none⟩) n c):=NO.out.cell 7;have SQ:=hid Jq;have Dy:=hid hF2;have Jr:=hid Cm;have rX:=hid Nj;have qR:=hid Zn;have Gz:=hid (CM.out wo M1.out R1.out);clear my sB hsk hO tV Jq hF2 Cm Nj Zn HI bn kK nG hl2 DD U9 hmul Nl hmu ec CM M1 R1;go_wp2_with fail
   refine Gz.out.mono ?_;rintro e w2 ⟨rfl,hF'',hx,hsz⟩;have hOl:w.heap.size+1+1<wo.heap.size:=O1.out.lt;have O2:=hid (O1.out.keeps hx ⟨O1.out.lt,rX.out⟩);have N2:=hid (NO.out.keeps hx ⟨NO.out.lt,qR.out⟩);obtain⟨F2,g1,g2,g3⟩:=hF'';have kU:¬F2 (w.heap.size+1+1):=fun e=>by rcases g3 _ e with h | h;exact rX.out h;omega
   have Nn:¬F2 w.heap.size:=fun e=>by rcases g3 _ e with h | h;exact qR.out h;omega
   have M2:=hid g1;have G2:=hid g2;have G3:=hid g3;have pZ:=hid kU;have Zo:=hid Nn;have QT:=hid hx;have Va:=hid hsz;clear hx g1 g2 g3 kU Nn hsz Gz O1 NO e0 e1 e2 e3 e4 e5 e6 e7 n5 n6 n7;unfold aw;go_upto_region 9 with fail
   refine ax ?_;intro W3 hW3;have X3:Hid (ah W3 w2.heap.size (aw p2) 139):=by rw[hW3];exact hid (ah.new _ _ _)
   have E3:Hid (Ext w2 W3):=by rw[hW3];exact hid ((Ext.refl w2).alloc _)
   have O3:=hid (O2.out.ext E3.out);have N3:=hid (N2.out.ext E3.out);have M3:Hid (eJ base M F2 W3 m2):=hid (M2.out.keeps E3.out.keeps fun x hx=>(M2.out.lt x hx).2);have hx2:¬F2 w2.heap.size:=fun e=>by have:=(M2.out.lt _ e).2;omega
   have eM:=hid hx2;clear hW3 hx2 O2 N2;have n5:W3.cell? ⟨w.heap.size,5,none⟩=some (.int .i64 mn):=N3.out.cell 5;have n6:W3.cell? ⟨w.heap.size,6,none⟩=some (.int .i64 (N:Int)):=N3.out.cell 6;obtain⟨a0,a1,a2,a3,a4,a5,a6,a7,a8,a9,iQ,iR,a12,iT,gT⟩:=X3.out.part
   try dsimp only at a0 a1 a2 a3 a4 a5 a6 a7 a8 a9 iQ iR a12 iT gT
   obtain⟨m4,zY⟩:∃ m4,m4=m2:=⟨_,rfl⟩;obtain⟨W5,hW5⟩:∃ W5,W5=W3:=⟨_,rfl⟩;have K5:Hid (aa (fun x=>x<W3.heap.size/\¬F2 x) W3 W3):=hid (aa.refl _ _);have X5:=X3;have O5:=O3;have M5:Hid (eJ base M F2 W3 m4):=hid (by rw[zY];exact M3.out);have P5:Hid (cO sk.2.ct m4.bQ.length/\m4.bQ.length<=448):=hid (by rw[zY];exact⟨Dv.out,QV.out⟩);have Vb:=hid zY;clear zY W5 hW5;obtain⟨eb,Fx⟩:∃ eb,eb=p2.emp:=⟨_,rfl⟩;rw[<-Fx]at gT;have U6:=hid Fx;clear Fx;have Np:W3.frozen? ⟨w2.heap.size,14,none⟩=false:=X5.out.frozen 14;cases eb;all_goals
    go_upto_region 12 with fail
    refine ax ?_;intro W6 sQ;obtain⟨e6,Nq⟩:∃ e6,e6=(p2.emp || decide (mn<=(k:Int))):=⟨_,rfl⟩;obtain⟨p6,Nr⟩:∃ p6:GP,p6=⟨p2.fst,p2.ct,e6⟩:=⟨_,rfl⟩;have X6:Hid (ah W6 w2.heap.size (aw p6) 139):=by rw[Nr,sQ,Nq, <-U6.out];exact hid (X5.out.set 14 _)
    have K6:Hid (aa (· ≠w2.heap.size) W3 W6):=by rw[sQ];exact hid ((aa.refl (· ≠w2.heap.size) _).setCell (p:=⟨w2.heap.size,14,none⟩) (fun h=>h rfl) _)
    have O6:=hid (O5.out.keeps K6.out (by have:=O3.out.lt;have:=Va.out;omega));have M6:Hid (eJ base M F2 W6 m4):=hid (M5.out.keeps K6.out fun x hx e=>eM.out (e▸hx))
    try clear n6
    clear sQ n5 a0 a1 a2 a3 a4 a5 a6 a7 a8 a9 iQ iR a12 iT gT Np;have Zr:=hid Nq;clear Nq;have Zs:=hid Nr;clear Nr;have CT:Hid (Calls Tryz.prog 130 #[.pointer (some ⟨M,0,none⟩),.agg (aw sk.2),.agg (aw p6)] W6 fun e w'=>e=.returned (.agg (aw (bZ m4 sk.2 p6).2))/\eJ base M F2 w' (bZ m4 sk.2 p6).1/\aa (fun x=>x<W6.heap.size/\¬F2 x) W6 w'):=hid (mM base M F2 m4 sk.2 p6 W6 M6.out P5.out.1 P5.out.2);have oK:dz mn (N:Int) (fun m=>t.cN m) m (k+1)=bZ m4 sk.2 p6:=by
     rw[QS.out,Zs.out,Zr.out];unfold zr;rw[if_neg (fun h=>hmx h.1), <-Vb.out]
    have Co:=hid oK;clear oK;obtain⟨m7,p7,Cp⟩:∃ m7 p7,bZ m4 sk.2 p6=(m7,p7):=⟨_,_,rfl⟩;rw[Cp]at CT Co;dsimp only at CT;clear Cp;go_wp2_with (first | (refine aN rfl 139 (.tmp 6) rfl (w.heap.size+1+1) rfl (aw sk.2) _ O6.out.range Tryz.underlying139 rfl (aY _) ?_) | (refine aN rfl 139 (.tmp 8) rfl w2.heap.size rfl (aw p6) _ X6.out.range Tryz.underlying139 rfl (aY _) ?_));refine CT.out.mono ?_;rintro e w8 ⟨rfl,hF3,hx⟩;have O8:=hid (O6.out.keeps hx ⟨O6.out.lt,pZ.out⟩);have M8:=hid hF3;have U8:=hid hx;clear hx hF3 CT;go_wp2_with (refine wpList_store_row rfl 139 (.tmp 6) (.tmp 54) rfl (w.heap.size+1+1) (aw p7) rfl rfl 139 (aw sk.2) O8.out (aY _) rfl (dI _) ?_;refine Hid.out ?_);refine hid ?_;obtain⟨W9,cT⟩:∃ W,W=w8.setRow (w.heap.size+1+1) (aw p7):=⟨_,rfl⟩;rw[<-cT];have O9:Hid (ah W9 (w.heap.size+1+1) (aw p7) 139):=by rw[cT];exact hid O8.out.setRow
    have K9:Hid (aa (· ≠w.heap.size+1+1) w8 W9):=by rw[cT];exact hid (bh _ _ _)
    clear cT;go_wp2;go_roundw;case rel=>
     refine⟨k+1,by omega,by go_num,?_⟩;rw[Co.out];have h1:=Jr.out.size;have h2:=Va.out;have h3:=E3.out.size;have h4:=K6.out.size;have h5:=K5.out.size;refine⟨⟨F2,M8.out.keeps K9.out fun x hx e=>pZ.out (e▸hx),fun x h=>G2.out x (SQ.out x h),fun x h=>by rcases G3.out x h with h | h;exact Dy.out x h;exact .inr (by omega)⟩,O9.out,?_⟩;have hq:∀ x,x<V.heap.size->¬F x->¬F2 x:=fun x h h6 e=>by rcases G3.out x e with h7 | h7;(rcases Dy.out x h7 with h8 | h8;exact h6 h8;omega);omega
     have LI:∀ x,x<V.heap.size->¬F x->¬F' x:=fun x h h6 e=>hq x h h6 (G2.out x e)
     exact Jr.out.tr ((QT.out.mono fun x hx=>⟨by have:=hx.1;omega,LI x hx.1 hx.2.1⟩).tr ((E3.out.keeps.mono fun x hx=>by have:=hx.1;omega).tr ((K5.out.mono fun x hx=>⟨by have:=hx.1;omega,hq x hx.1 hx.2.1⟩).tr ((K6.out.mono fun x hx=>by have:=hx.1;omega).tr ((U8.out.mono fun x hx=>⟨by have:=hx.1;omega,hq x hx.1 hx.2.1⟩).tr (K9.out.mono fun x hx=>hx.2.2))))))
    case measure=>simp[intOf];omega
  ·obtain rfl:k=N:=by omega
   have GK:¬ ((k:Int)<k):=by omega
   obtain⟨hF',hO,hK⟩:=HI.out;rw[<-HST.out]at hF' hO;have Nf:=hid hF';have O3:=hid hO;have HK:=hid hK;have R3:Hid (ah wo (w.heap.size+1) (zeroV false) 139):=hid (R0.out.keeps hK ⟨R0.out.lt,fun e=>by have:=(HM.out.lt _ e).2;omega,by omega⟩);clear hF' hO hK HI;go_wp2_with (first | (refine aN rfl 139 (.tmp 6) rfl (w.heap.size+1+1) rfl (aw st.2) _ O3.out.range Tryz.underlying139 rfl (aY _) ?_) | (refine wpList_store_row rfl 139 (.tmp 4) (.tmp 56) rfl (w.heap.size+1) (aw st.2) rfl rfl 139 (zeroV false) R3.out (aY _) rfl (dI _) ?_;refine Hid.out ?_));refine hid ?_;obtain⟨V3,cD⟩:∃ W,W=wo.setRow (w.heap.size+1) (aw st.2):=⟨_,rfl⟩;rw[<-cD];have R9:Hid (ah V3 (w.heap.size+1) (aw st.2) 139):=by rw[cD];exact hid R3.out.setRow
   have K9:aa (· ≠w.heap.size+1) wo V3:=by rw[cD];exact bh _ _ _
   clear cD;go_wp2;obtain⟨m0,m1,m2,m3,m4,m5,m6,m7,m8,m9,m10,m11,m12,m13,m14⟩:=R9.out.part;refine bodyPost_ret (v:=.agg (aw st.2)) (by simp[results,Tryz.results133,aw,go_sem,m0,m1,m2,m3,m4,m5,m6,m7,m8,m9,m10,m11,m12,m13,m14]) rfl ⟨rfl,?_,?_,?_⟩
   ·obtain⟨F',h1,h2,h3⟩:=Nf.out
    exact⟨F',h1.keeps K9 fun x hx e=>by(rcases h3 x hx with h | h; · exact absurd (HM.out.lt x h).2 (by omega));omega,h2,fun x hx=>(h3 x hx).imp id fun h=>by omega⟩
   ·exact(E0.out.keeps.mono fun x hx=>hx.1).tr ((HK.out.mono fun x hx=>⟨by have:=hx.1;omega,hx.2,by have:=hx.1;omega⟩).tr (K9.mono fun x hx=>by have:=hx.1;omega))
   ·have:=K9.size;have:=HK.out.size;omega
def dQ (M X:Nat):Array Value:= #[.func (.func 125) #[] #[],.func (.func 126) #[] #[],.func (.func 127) #[] #[.pointer (some ⟨X,0,none⟩)],.func (.func 129) #[] #[.pointer (some ⟨X,0,none⟩)],
 .func (.func 131) #[] #[.pointer (some ⟨X,0,none⟩)],.func (.func 133) #[.pointer (some ⟨M,0,none⟩)] #[],.func (.func 134) #[] #[.pointer (some ⟨X,0,none⟩)]]
theorem Js (M:Nat) (w:World):Calls Tryz.prog 99 #[.pointer (some ⟨M,0,none⟩)] w fun e w'=>e=.returned (.agg (dQ M w.heap.size))/\Ext w w'/\w'.cell? ⟨w.heap.size,0,none⟩=some (.pointer (some ⟨M,0,none⟩)):=by
 go_enter Tryz.func99,Tryz.ntmps99
 go_wp2;refine aP ?_;intro V hV;have R1:Hid (ah V (w.heap.size+1) (dQ M w.heap.size) 165):=by
  rw[hV];exact hid (ah.at (ah.new _ _ _) (by simp))
 have B0:Hid (ah V w.heap.size #[.pointer (some ⟨M,0,none⟩)] 132):=by rw[hV];exact hid ((ah.new _ _ _).alloc _)
 have X1:Ext w V:=by rw[hV];exact((Ext.refl w).alloc _).alloc _
 clear hV;have m0:=R1.out.cell 0;have m1:=R1.out.cell 1;have m2:=R1.out.cell 2;have m3:=R1.out.cell 3;have m4:=R1.out.cell 4;have m5:=R1.out.cell 5;have m6:=R1.out.cell 6;simp only[dQ,List.getElem?_toArray,List.getElem?_cons_zero,List.getElem?_cons_succ]at m0 m1 m2 m3 m4 m5 m6;refine bodyPost_ret (v:=.agg (dQ M w.heap.size)) (by simp[results,Tryz.results99,dQ,go_sem,m0,m1,m2,m3,m4,m5,m6]) rfl ⟨rfl,X1,B0.out.cell 0⟩
def SS (base M:Nat) (F:Nat->Prop) (w:World) (m:GM) (p:GP) (e:Ending) (w':World):Prop:=
 e=.returned (.agg (aw p))/\(∃ F',eJ base M F' w' m/\(∀ x,F x->F' x)/\∀ x,F' x->F x\/w.heap.size<=x)/\aa (fun x=>x<w.heap.size/\¬F x) w w'
def kF (k:Nat):FuncId:=if k=1 then 126 else if k=2 then 127 else if k=3 then 129 else if k=4 then 131 else if k=5 then 133 else 134
def Zu (k M X:Nat) (v:Value):Array Value:=if k=1 then #[v]else if k=5 then #[.pointer (some ⟨M,0,none⟩),v]else #[v,.pointer (some ⟨X,0,none⟩)]
def Zv.tab (M n9:Nat):aR (Move false (fun _=>False)) where
 P:=fun v=>∃ X,v=.agg (dQ M X)/\n9<=X
 H:=fun v W=>∀ X,v=.agg (dQ M X)->X<W.heap.size/\W.cell? ⟨X,0,none⟩=some (.pointer (some ⟨M,0,none⟩))
 nH:=.agg (dQ M n9)
 pw:=⟨n9,rfl,Nat.le_refl _⟩
 st:=fun _ _ _ hm _ h X e=>⟨Nat.lt_of_lt_of_le (h X e).1 hm.size,((aa.aj hm.below fun _ h=>h:aa (· <_) _ _).cell (p:=⟨X,0,none⟩) (h X e).1).trans (h X e).2⟩
theorem Fy {M X Y:Nat} (h:Value.agg (dQ M X)=.agg (dQ M Y)):X=Y:=by
 injection h with h
 have:=congrArg (fun a:Array Value=>a[2]?) h;simp[dQ]at this;exact this
theorem jO (M X:Nat) (W:World): (Instr.index 165 (.agg (dQ M X)) (.int .u8 1)).run Tryz.prog W=.ok (.func (.func 126) #[] #[]) W/\ (Instr.index 165 (.agg (dQ M X)) (.int .u8 2)).run Tryz.prog W=.ok (.func (.func 127) #[] #[.pointer (some ⟨X,0,none⟩)]) W/\ (Instr.index 165 (.agg (dQ M X)) (.int .u8 3)).run Tryz.prog W=.ok (.func (.func 129) #[] #[.pointer (some ⟨X,0,none⟩)]) W/\ (Instr.index 165 (.agg (dQ M X)) (.int .u8 4)).run Tryz.prog W=.ok (.func (.func 131) #[] #[.pointer (some ⟨X,0,none⟩)]) W/\ (Instr.index 165 (.agg (dQ M X)) (.int .u8 5)).run Tryz.prog W=.ok (.func (.func 133) #[.pointer (some ⟨M,0,none⟩)] #[]) W/\ (Instr.index 165 (.agg (dQ M X)) (.int .u8 6)).run Tryz.prog W=.ok (.func (.func 134) #[] #[.pointer (some ⟨X,0,none⟩)]) W:=by refine⟨?_,?_,?_,?_,?_,?_⟩<;>simp[Instr.index,asIntOf,run_underlying Tryz.underlying165,part,Tryz.isAgg140,Tryz.sizeOf140,dQ,go_sem]
theorem Fz (n0 base M:Nat) (F:Nat->Prop) (m m2:GM) (p2:GP) (k:Nat) (s:BS) (mn mx:Int) (l:List RX) (p:Option Addr) (n c:Nat) (w:World) (dp:n0<=base) (h:eJ base M F w m) (hr:aF (· <n0) w (.agg (ai k s mn mx (.slice p n c))) (.nd k s mn mx l)) (h1:1<=k) (h6:k<=6) (HCl:∀ (W:World) (X:Nat),eJ base M F W m->aF (· <n0) W (.agg (ai k s mn mx (.slice p n c))) (.nd k s mn mx l)->W.cell? ⟨X,0,none⟩=some (.pointer (some ⟨M,0,none⟩))->¬F X->Calls Tryz.prog (kF k) (Zu k M X (.agg (ai k s mn mx (.slice p n c)))) W (SS base M F W m2 p2)): Calls Tryz.prog 77 #[.pointer (some ⟨M,0,none⟩),.agg (ai k s mn mx (.slice p n c))] w (iE base M F w m2 p2):=by
 have HM:=hid h;have HR:=hid hr;have QW:=hid HCl;have SJ:M<w.heap.size:=(h.lt M h.fm).2;have Zm:n0<=w.heap.size:=by have:=(h.lt M h.fm).1;omega
 clear h hr HCl;unfold ai;go_enter Tryz.func77,Tryz.ntmps77;go_upto_region 1 with fail
 refine ax ?_;intro V hV;have N0:Hid (ah V w.heap.size (ai k s mn mx (.slice p n c)) 62):=by rw[hV];exact hid ((ah.new _ _ _).alloc _)
 have R0:Hid (ah V (w.heap.size+1) (zeroV false) 139):=by rw[hV];exact hid (ah.at (ah.new _ _ _) (by simp))
 have E0:Hid (Ext w V):=by rw[hV];exact hid (((Ext.refl w).alloc _).alloc _)
 have jV:Hid (V.heap.size=w.heap.size+1+1):=hid (by rw[hV];simp);clear hV;have Bv:w.heap.size+1<V.heap.size:=by rw[jV.out];omega
 have e0:V.cell? ⟨w.heap.size,0,none⟩=some (.int .u8 k):=N0.out.cell 0;have e1:V.cell? ⟨w.heap.size,1,none⟩=some (.int .u64 (wd s 0).toNat):=N0.out.cell 1;have e2:V.cell? ⟨w.heap.size,2,none⟩=some (.int .u64 (wd s 1).toNat):=N0.out.cell 2;have e3:V.cell? ⟨w.heap.size,3,none⟩=some (.int .u64 (wd s 2).toNat):=N0.out.cell 3;have e4:V.cell? ⟨w.heap.size,4,none⟩=some (.int .u64 (wd s 3).toNat):=N0.out.cell 4;have e5:V.cell? ⟨w.heap.size,5,none⟩=some (.int .i64 mn):=N0.out.cell 5;have e6:V.cell? ⟨w.heap.size,6,none⟩=some (.int .i64 mx):=N0.out.cell 6;have e7:V.cell? ⟨w.heap.size,7,none⟩=some (.slice p n c):=N0.out.cell 7;have SU:w.heap.size<V.heap.size:=N0.out.lt;have hk:k=1\/k=2\/k=3\/k=4\/k=5\/k=6:=by omega
 clear h1 h6;rcases hk with rfl | rfl | rfl | rfl | rfl | rfl
 all_goals
  refine aA false (fun _=>False) (by kernel_rfl) 6 [0,1,0,4,15,0,63,127] (fun i=>i==1 || i==6 || i==7) (by kernel_rfl) (fun i=>if i=1 then Zv.tab M w.heap.size else aR.any _) ?_;intro C hC hne;have HC:=hid hC;have f0:=au hC (p:=⟨w.heap.size,0,none⟩) SU (fun h=>h) e0;have f1:=au hC (p:=⟨w.heap.size,1,none⟩) SU (fun h=>h) e1;have f2:=au hC (p:=⟨w.heap.size,2,none⟩) SU (fun h=>h) e2;have f3:=au hC (p:=⟨w.heap.size,3,none⟩) SU (fun h=>h) e3;have f4:=au hC (p:=⟨w.heap.size,4,none⟩) SU (fun h=>h) e4;have f5:=au hC (p:=⟨w.heap.size,5,none⟩) SU (fun h=>h) e5;have f6:=au hC (p:=⟨w.heap.size,6,none⟩) SU (fun h=>h) e6;have f7:=au hC (p:=⟨w.heap.size,7,none⟩) SU (fun h=>h) e7;clear hC e0 e1 e2 e3 e4 e5 e6 e7
  repeat (refine ae (fun K hK=>?_);first | (refine bp rfl ?_;try go_simp;refine hK _ _ ?_;clear hK K) | (refine aX rfl rfl ?_;unfold aq;go_simp;refine hK _ _ ?_;clear hK K))
  refine ae (fun K hK=>?_);refine bH rfl rfl (Zv.tab M w.heap.size) rfl (fun W hW hN=>?_) (fun v hv=>?_)
  ·have hM:=(HC.out W).1 hW
   clear hW hN hK K;go_simp;refine bC ((Js M W).mono ?_);rintro e w' ⟨rfl,hx,hc⟩;have hz:=hM.size;exact⟨_,rfl,Move.ext hx,⟨_,rfl,by omega⟩,fun Y hY=>by have:=Fy hY;subst this;exact⟨World.block_lt_of_cell? _ _ hc,hc⟩⟩
  obtain⟨X,rfl,hXn⟩:=hv;have ix1:=fun W=>(jO M X W).1
  have ix2:=fun W=>(jO M X W).2.1
  have ix3:=fun W=>(jO M X W).2.2.1
  have ix4:=fun W=>(jO M X W).2.2.2.1
  have ix5:=fun W=>(jO M X W).2.2.2.2.1
  have ix6:=fun W=>(jO M X W).2.2.2.2.2
  go_simp;refine hK _ _ ?_;clear hK K
  repeat (refine ae (fun K hK=>?_);first | (refine bp rfl ?_;try go_simp;refine hK _ _ ?_;clear hK K) | (refine aX rfl rfl ?_;unfold aq;go_simp;refine hK _ _ ?_;clear hK K))
  refine aV (fun W hW hH=>?_);have iU:=(HC.out W).1 hW;obtain⟨hXl,hXc⟩:X<W.heap.size/\W.cell? ⟨X,0,none⟩=some (.pointer (some ⟨M,0,none⟩)):=(hH _ (List.mem_of_getElem? (show _=some _ from rfl:_[0]? =some _))) X rfl;have MW:Hid (eJ base M F W m):=hid ((HM.out.keeps E0.out.keeps fun x hx=>(HM.out.lt x hx).2).keeps (aa.aj iU.below fun _ h=>h:aa (· <V.heap.size) V W) fun x hx=>by have:=(HM.out.lt x hx).2;omega);have IW:=hid ((HR.out.keeps E0.out.keeps fun x hx=>by omega).keeps (aa.aj iU.below fun _ h=>h:aa (· <V.heap.size) V W) fun x hx=>by omega);have RW:=hid (R0.out.below iU.below R0.out.lt);have KW:Hid (aa (· <w.heap.size) w W):=hid (E0.out.keeps.tr (aa.aj iU.below fun x hx=>by omega:aa (· <w.heap.size) V W));have DC:w.heap.size+1<W.heap.size:=by have:=iU.size;omega
  have hnX:¬F X:=fun e=>by have:=(HM.out.lt X e).2;omega
  have CC:=hid (QW.out W X MW.out IW.out hXc hnX);clear iU hW hH HC hne f0 f1 f2 f3 f4 f5 f6 f7 MW IW QW hXc ix1 ix2 ix3 ix4 ix5 ix6;go_wp2_with fail
  refine CC.out.mono ?_;rintro e w3 ⟨rfl,hF',hx⟩;have mK:∀ k,w.heap.size<=k->¬F k:=fun k hk e=>by have:=(HM.out.lt k e).2;omega
  have R3:Hid (ah w3 (w.heap.size+1) (zeroV false) 139):=hid (RW.out.keeps hx ⟨by omega,mK _ (by omega)⟩);have Nf:=hid hF';have HK:=hid hx;have hs3:=hx.size;clear hx hF' CC;go_wp2_with (refine wpList_store_row rfl 139 (.tmp 4) (.tmp 11) rfl (w.heap.size+1) (aw p2) rfl rfl 139 (zeroV false) R3.out (aY _) rfl (dI _) ?_;refine Hid.out ?_);refine hid ?_;obtain⟨V3,cD⟩:∃ W,W=w3.setRow (w.heap.size+1) (aw p2):=⟨_,rfl⟩;rw[<-cD];have R9:Hid (ah V3 (w.heap.size+1) (aw p2) 139):=by rw[cD];exact hid R3.out.setRow
  have K9:aa (· ≠w.heap.size+1) w3 V3:=by rw[cD];exact bh _ _ _
  clear cD;go_wp2;obtain⟨m0,m1,m2,m3,m4,m5,m6,m7,m8,m9,m10,m11,m12,m13,m14⟩:=R9.out.part;refine bodyPost_ret (v:=.agg (aw p2)) (by simp[results,Tryz.results77,aw,go_sem,m0,m1,m2,m3,m4,m5,m6,m7,m8,m9,m10,m11,m12,m13,m14]) rfl ⟨rfl,?_,?_,?_⟩
  ·obtain⟨F',h1,h2,h3⟩:=Nf.out
   refine⟨F',h1.keeps K9 fun x hx e=>by(rcases h3 x hx with h | h;exact mK _ (by omega) h;omega),h2,fun x hx=>(h3 x hx).imp id fun h=>by omega⟩
  ·exact(KW.out.mono fun x hx=>hx.1).tr ((HK.out.mono fun x hx=>⟨by have:=hx.1;omega,hx.2⟩).tr (K9.mono fun x hx=>by have:=hx.1;omega))
  ·have:=K9.size;omega
theorem iE.Zw {base M:Nat} {F:Nat->Prop} {w:World} {m:GM} {p:GP} {e:Ending} {w':World} (h:iE base M F w m p e w'):SS base M F w m p e w':=⟨h.1,h.2.1,h.2.2.1⟩
theorem mN {l:List RX} :∀ {t:RX},t∈l->t.size<=RX.sizes l:=by
 induction l with
 | nil=>intro t h;cases h
 | cons x l ih=>
  intro t h;rw[RX.sizes];rcases List.mem_cons.1 h with rfl | h
  ·omega
  ·have:=ih h;omega
theorem uV:∀ (l:List RX),l.length<=RX.sizes l
 | []=>Nat.zero_le _
 | t::l=>by rw[RX.sizes,List.length_cons];have:=size_pos t;have:=uV l;omega
theorem Ns (n0:Nat) (t:RX):t.fine->t.size<=10000->Fw n0 t:=by
 induction t using RX.ind with
 | h k s mn mx l ih=>
  intro hf hs;obtain⟨hr,hl⟩:=ko.1 hf;obtain⟨_,q2,q3,q4,q5,q6,_⟩:=qM hr;rw[RX.size]at hs;have hlen:=uV l;have ih:∀ t∈l,Fw n0 t:=fun t ht=>ih t ht (hl t ht) (by have:=mN ht;omega)
  have uW:∀ t∈l,t.full=true:=fun t ht=>nS t (hl t ht)
  intro base M F m w v dp hm hv ok tk Zx;obtain⟨p,c,rfl⟩:=hv.form;simp only[RX.kind,RX.set,RX.mn,RX.mx,RX.subs]at hv ⊢;refine Fz n0 base M F m _ _ k s mn mx l p _ c w dp hm hv (by omega) q4 fun W X hW Zy hX Ci=>?_
  have hk:k=1\/k=2\/k=3\/k=4\/k=5\/k=6:=by omega
  rcases hk with rfl | rfl | rfl | rfl | rfl | rfl
  ·have e:(RX.nd 1 s mn mx l).cN m=(m,⟨0,0,true⟩):=by rw[RX.cN];rfl
   rw[e];refine(Fs 1 s mn mx _ W).mono ?_;rintro e w' ⟨rfl,hx⟩;exact⟨by show _=Ending.returned (.agg (aw ⟨0,0,true⟩));rw[fZ],⟨F,hW.keeps hx fun x h=>(hW.lt x h).2,fun _ h=>h,fun _ h=>.inl h⟩,hx.mono fun _ h=>h.1⟩
  ·have e:(RX.nd 2 s mn mx l).cN m=(⟨m.aB++ [s],m.bQ++ [0]⟩,⟨dP m.aB.length,dP m.aB.length,false⟩):=by rw[RX.cN];rfl
   rw[e];have hc1:(RX.nd 2 s mn mx l).cnt=1:=by rw[RX.cnt];rfl
   exact(Fv base M F m s mn mx _ X W hW hX Ci tk (by omega)).mono fun e w' h=>h
  ·have e:(RX.nd 3 s mn mx l).cN m=RX.gJ l (m,⟨0,0,true⟩):=by rw[RX.cN];rfl
   have hc1:(RX.nd 3 s mn mx l).cnt=RX.fA l:=by rw[RX.cnt];rfl
   rw[e];exact(Nk n0 base M F m 3 s mn mx l p _ c X W dp hW Zy ih uW hX Ci ok tk (by omega) (by omega)).mono fun e w' h=>h.Zw
  ·have e:(RX.nd 4 s mn mx l).cN m=RX.eY l (m,⟨0,0,false⟩):=by rw[RX.cN];rfl
   have hc1:(RX.nd 4 s mn mx l).cnt=RX.fA l:=by rw[RX.cnt];rfl
   rw[e];exact(Ni n0 base M F m 4 s mn mx l p _ c X W dp hW Zy ih uW hX Ci ok tk (by omega) (by omega)).mono fun e w' h=>h.Zw
  ·have hb:=q6 rfl
   obtain⟨g1,g2,g3⟩:=rS hb;obtain⟨t,l',rfl⟩:∃ t l',l=t::l':=by
    cases l with
    | nil=>have:=q5 (.inl rfl);simp at this
    | cons t l'=>exact⟨t,l',rfl⟩
   have e:(RX.nd 5 s mn mx (t::l')).cN m=dz mn mx (fun m=>t.cN m) m (dZ mn mx):=by rw[RX.cN];show RX.Y0 mn mx (t::l') m=_;rw[RX.Y0]
   have hc1:(RX.nd 5 s mn mx (t::l')).cnt=dZ mn mx*t.cnt:=by rw[RX.cnt];show dZ mn mx*RX.cnt1 (t::l')=_;rw[RX.cnt1]
   rw[e];have hmx:mx= -1\/(1<=mx/\mx≠ -1):=by
    unfold gi at hb;split at hb
    ·cases hb
    ·simp at hb
     omega
   rcases hmx with rfl | ⟨hmx,hne⟩
   ·refine(Zl n0 base M F m 5 s mn (dZ mn (-1)) t l' p _ c W dp hW Zy (ih t (List.mem_cons_self ..)) (uW t (List.mem_cons_self ..)) ok tk ?_ g3 rfl (by omega)).mono fun e w' h=>h.Zw
    unfold dZ;rw[if_pos rfl];omega
   ·obtain⟨N,rfl⟩:∃ N:Nat,mx=N:=⟨mx.toNat,by omega⟩
    have hN:dZ mn (N:Int)=N:=by unfold dZ;rw[if_neg hne];simp
    rw[hN]at g3 hc1 ⊢;exact(Zt n0 base M F m 5 s mn N t l' p _ c W dp hW Zy (ih t (List.mem_cons_self ..)) (uW t (List.mem_cons_self ..)) ok tk (by omega) g3 hN (by omega)).mono fun e w' h=>h.Zw
  ·obtain⟨t,l',rfl⟩:∃ t l',l=t::l':=by
    cases l with
    | nil=>have:=q5 (.inr rfl);simp at this
    | cons t l'=>exact⟨t,l',rfl⟩
   have e:(RX.nd 6 s mn mx (t::l')).cN m=t.cN m:=by rw[RX.cN];show RX.Y8 (t::l') m=_;rw[RX.Y8]
   have hc1:(RX.nd 6 s mn mx (t::l')).cnt=t.cnt:=by rw[RX.cnt];show RX.cnt1 (t::l')=_;rw[RX.cnt1]
   rw[e];exact(QP n0 base M F m 6 s mn mx t l' p _ c X W dp hW Zy (ih t (List.mem_cons_self ..)) hX Ci ok tk (by omega)).mono fun e w' h=>h.Zw
attribute [local go_sem] Oper.semAt_some eL cG
theorem oh {T:Nat->Prop} :∀ (Ds:List Nat) (W:World),(∀ D∈Ds,T D)->Move true T W (Ds.foldl (fun W D=>W.putObj D (.deferred none)) W)
 | [],_,_=>Move.refl _ _ _
 | D::Ds,_,h=>(Move.put (h D (List.mem_cons_self ..)) _).trans (oh Ds _ fun E hE=>h E (List.mem_cons_of_mem _ hE))
theorem iF:∀ (Ds:List Nat) (W:World),(Ds.foldl (fun W D=>W.putObj D (.deferred none)) W).heap.size=W.heap.size
 | [],_=>rfl
 | D::Ds,_=>by rw[List.foldl_cons,iF Ds];simp
theorem kt (c:Array Value) (w:World):Calls Tryz.prog 96 #[.agg c] w fun e w'=>e=.returned (.func (.func 122) #[] #[.pointer (some ⟨w.heap.size,0,none⟩)])/\w'=w.alloc (.cells c 62 (0,0)):=by
 go_enter Tryz.func96,Tryz.ntmps96
 go_wp2;go_ret;exact⟨rfl,rfl⟩
theorem mO:∀ args w,(callFunc 122 args).run Tryz.prog w=.ok (.enter 122 args) w:=enters_of Tryz.func122 (by kernel_rfl) rfl
abbrev iW:=Value×RX
def Cq (x:iW):Array Value:= #[x.1]
theorem yg {l:List RX} (f:Nat->List iW) (hf:∀ i t,l[i]? =some t->(f i).map (·.2)=t.pre):∀ j,j<=l.length->((List.range j).flatMap f).map (·.2)=RX.jK (l.take j)
 | 0,_=>by simp[RX.jK]
 | j+1,hj=>by
  have hl:l[j]? =some (l[j]'(by omega)):=List.getElem?_eq_getElem (by omega);have pa:∀ a b:List RX,RX.jK (a++b)=RX.jK a++RX.jK b:=by
   intro a b;induction a with
   | nil=>rfl
   | cons x a ih=>rw[List.cons_append,RX.jK,RX.jK,ih,List.append_assoc]
  rw[List.range_succ,List.flatMap_append,List.map_append,yg f hf j (by omega),List.take_add_one,hl,pa];congr 1;simp[hf j _ hl,RX.jK]
theorem yh (f:Nat->List iW) (h:iW) {i n:Nat} (hi:i<=n):h::(List.range i).flatMap f<+:h::(List.range n).flatMap f:=by
 induction n with
 | zero=>rw[show i=0 by omega];exact List.prefix_rfl
 | succ n ih=>
  by_cases e:i=n+1
  ·subst e;exact List.prefix_rfl
  ·exact(ih (by omega)).trans (by rw[List.range_succ,List.flatMap_append];exact⟨_,by rw[List.cons_append]⟩)
theorem zB (f:Nat->List iW) (h:iW) (i:Nat):h::(List.range (i+1)).flatMap f=(h::(List.range i).flatMap f)++f i:=by rw[List.range_succ,List.flatMap_append,List.cons_append];simp
theorem uX:∀ {l:List RX} {t:RX},t∈l->t.size<=RX.sizes l
 | x::l,t,h=>by
  rw[RX.sizes];rcases List.mem_cons.1 h with rfl | h
  ·omega
  ·have:=uX h;omega
theorem mP:∀ (l:List RX),l.length<=RX.sizes l
 | []=>by simp
 | x::l=>by
  rw[RX.sizes,List.length_cons];have:=mP l;have h1:1<=x.size:=by cases x;rw[RX.size];omega
  omega
def SV (D:Nat):Deferred:= {target:=.collected D,args:= #[]}
theorem kO {P:Program} {fn:Func} {R:Ending->World->Prop} {tmps:Array Value} {v:Value} {Ds:List Nat} {W:World} {x:Exit} (hx:x=.normal\/x=.ret) (hn:Ds.Nodup) (hD:∀ D∈Ds,W.heap[D]? =some (.deferred (some []))) (hr:∀ W,(results fn tmps).run P W=.ok v W) (hR:R (.returned v) (Ds.foldl (fun W D=>W.putObj D (.deferred none)) W)):bodyPostM Fence.wide 0 P fn R x {tmps:=tmps,defers:=Ds.map SV} W:=by
 have h:=nB (P:=P) (fn:=fn) (tmps:=tmps) (R:=R) Ds W hn hD (hr _) hR;rcases hx with rfl | rfl
 ·exact h
 ·exact h
structure fg (R:Nat->Prop) (J:List iW->(Nat->Prop)->World->Prop) (W1:World) (Y:Nat) (yv:Value) (pre:List iW) (Ds:List Nat) (T:Nat->Prop) (W:World):Prop where
 jm:∀ k,T k->W1.heap.size<=k/\k<W.heap.size
 y:T Y
 yb:ah W Y #[yv] 130
 nodup:Ds.Nodup
 ds:∀ D∈Ds,T D/\W.heap[D]? =some (.deferred (some []))
 keep:aa R W1 W
 j:J pre T W
theorem fg.more {R:Nat->Prop} {J:List iW->(Nat->Prop)->World->Prop} {W1:World} {Y:Nat} {yv:Value} {pre:List iW} {Ds:List Nat} {T:Nat->Prop} {W W':World} (h:fg R J W1 Y yv pre Ds T W) (hJ:dU true W1.heap.size J) (hR:∀ k,R k->k<W1.heap.size) {T':Nat->Prop} (hx:Ext W W') (ht:∀ k,T k->T' k) (Zz:∀ k,T' k->(T k\/W.heap.size<=k)/\k<W'.heap.size):fg R J W1 Y yv pre Ds T' W':=by
 have h1:W1.heap.size<=W.heap.size:=h.keep.size;have hr:∀ k,T' k->W1.heap.size<=k/\k<W'.heap.size:=fun k hk=>⟨by rcases(Zz k hk).1 with h2 | h2;exact(h.jm k h2).1;omega,(Zz k hk).2⟩
 refine⟨hr,ht _ h.y,h.yb.ext hx,h.nodup,fun D hD=>⟨ht _ (h.ds D hD).1,?_⟩,h.keep.tr (hx.mono fun k hk=>by have:=hR k hk;omega),hJ _ _ _ _ _ h.j h.jm hr ht (fun k hk=>(Zz k hk).1) (.ext hx)⟩;exact(hx.keep D (h.jm D (h.ds D hD).1).2).trans (h.ds D hD).2
theorem fg.move {R:Nat->Prop} {J:List iW->(Nat->Prop)->World->Prop} {W1:World} {Y:Nat} {yv:Value} {pre:List iW} {Ds:List Nat} {T Ti Ke:Nat->Prop} {W W':World} {B:Nat} (h:fg R J W1 Y yv pre Ds (fun k=>T k\/Ti k) W) (hJ:dU true W1.heap.size J) (hR:∀ k,R k->k<W1.heap.size) (hB:W1.heap.size<=B) (hYB:Y<B) (hDB:∀ D∈Ds,D<B) (h1:∀ k,Ti k->B<=k/\k<W.heap.size) (h2:∀ k,Ke k->B<=k/\k<W'.heap.size) (h3:∀ k,Ti k->Ke k) (h4:∀ k,Ke k->Ti k\/W.heap.size<=k) (h5:Move true Ti W W'):fg R J W1 Y yv pre Ds (fun k=>T k\/Ke k) W':=by
 have hs:=h5.size;have hr:∀ k,(T k\/Ke k)->W1.heap.size<=k/\k<W'.heap.size:=fun k hk=>by
  rcases hk with hk | hk
  ·have:=h.jm k (.inl hk);exact⟨this.1,by omega⟩
  ·have:=h2 k hk;exact⟨by omega,this.2⟩
 refine⟨hr,?_,h.yb.keeps h5.keeps ⟨h.yb.lt,fun e=>by have:=(h1 _ e).1;omega⟩,h.nodup,fun D hD=>⟨?_,?_⟩,h.keep.tr (h5.keeps.mono fun k hk=>⟨by have:=hR k hk;have:=h.keep.size;omega,fun e=>by have:=(h1 _ e).1;have:=hR k hk;omega⟩),hJ _ _ _ _ _ h.j h.jm hr (fun k hk=>hk.imp id (h3 k)) (fun k hk=>hk.elim (fun h=>.inl (.inl h)) fun h=>(h4 k h).imp .inr id) (h5.mono fun k hk=>.inr hk)⟩
 ·exact h.y.imp id (h3 _)
 ·exact(h.ds D hD).1.imp id (h3 _)
 ·exact(h5.keeps.keep D ⟨(h.jm D (h.ds D hD).1).2,fun e=>by have:=(h1 _ e).1;have:=hDB D hD;omega⟩).trans (h.ds D hD).2
theorem fg.round {R:Nat->Prop} {J:List iW->(Nat->Prop)->World->Prop} {W1:World} {Y:Nat} {yv:Value} {pre pre':List iW} {Ds:List Nat} {T:Nat->Prop} {W W':World} (h:fg R J W1 Y yv pre Ds T W) (hk:aa (fun k=>R k\/T k) W W') (hj:J pre' T W'):fg R J W1 Y yv pre' Ds T W':=
 ⟨fun k s5=>⟨(h.jm k s5).1,Nat.lt_of_lt_of_le (h.jm k s5).2 hk.size⟩,h.y,h.yb.keeps hk (.inr h.y),h.nodup,fun D hD=>⟨(h.ds D hD).1,(hk.keep D (.inr (h.ds D hD).1)).trans (h.ds D hD).2⟩,h.keep.tr (hk.mono fun _ hk=>.inl hk),hj⟩
structure zC (Jx:List iW->(Nat->Prop)->World->Prop) (W1:World) (pre:List iW) (Ds:List Nat) (T:Nat->Prop) (W:World):Prop where
 jm:∀ k,T k->W1.heap.size<=k/\k<W.heap.size
 ds:∀ D∈Ds,T D/\W.heap[D]? =some (.deferred (some []))
 j:Jx pre T W
theorem zC.move {Jx:List iW->(Nat->Prop)->World->Prop} {W1:World} {pre:List iW} {Ds:List Nat} {T Ti Ke:Nat->Prop} {W W':World} {B:Nat} (h:zC Jx W1 pre Ds (fun k=>T k\/Ti k) W) (hJ:dU true W1.heap.size Jx) (hB:W1.heap.size<=B) (hDB:∀ D∈Ds,D<B) (h1:∀ k,Ti k->B<=k/\k<W.heap.size) (h2:∀ k,Ke k->B<=k/\k<W'.heap.size) (h3:∀ k,Ti k->Ke k) (h4:∀ k,Ke k->Ti k\/W.heap.size<=k) (h5:Move true Ti W W'):zC Jx W1 pre Ds (fun k=>T k\/Ke k) W':=by
 have hs:=h5.size;have hr:∀ k,(T k\/Ke k)->W1.heap.size<=k/\k<W'.heap.size:=fun k hk=>by
  rcases hk with hk | hk
  ·have:=h.jm k (.inl hk);exact⟨this.1,by omega⟩
  ·have:=h2 k hk;exact⟨by omega,this.2⟩
 refine⟨hr,fun D hD=>⟨(h.ds D hD).1.imp id (h3 _),?_⟩,hJ _ _ _ _ _ h.j h.jm hr (fun k hk=>hk.imp id (h3 k)) (fun k hk=>hk.elim (fun h=>.inl (.inl h)) fun h=>(h4 k h).imp .inr id) (h5.mono fun k hk=>.inr hk)⟩;exact(h5.keeps.keep D ⟨(h.jm D (h.ds D hD).1).2,fun e=>by have:=(h1 _ e).1;have:=hDB D hD;omega⟩).trans (h.ds D hD).2
theorem qT (n0:Nat) (t:RX):t.size<=10000000->∀ (v:Value) (w:World),aF (· <n0) w v t->n0<=w.heap.size->∃ xs:List iW,xs.map (·.2)=t.pre/\(∀ x∈xs,aF (· <n0) w x.1 x.2)/\ ∀ (W:World) (B:Nat) (c:Array Value),v=.agg c->aa (· <n0) w W->ah W B c 62->Seq true Tryz.prog 122 #[.pointer (some ⟨B,0,none⟩)] Cq (fun k=>k<n0\/k=B) xs W:=by
 induction t using RX.ind with
 | h k s mn mx l ih=>
  intro hsz v w hv dp;obtain⟨p,cp,rfl⟩:=hv.form;obtain⟨n,hn⟩:∃ n,n=l.length:=⟨_,rfl⟩;have HV:=hid hv;simp only[RX.kind,RX.set,RX.mn,RX.mx,RX.subs]at HV ⊢;rw[<-hn]at HV ⊢
  have hch:∀ i,∃ xs:List iW,∀ t,l[i]? =some t->xs.map (·.2)=t.pre/\(∀ x∈xs,aF (· <n0) w x.1 x.2)/\∀ (p':Option Addr) (c':Nat),aF (· <n0) w (.agg (ai t.kind t.set t.mn t.mx (.slice p' t.subs.length c'))) t->∀ b off,p=some ⟨b,off,none⟩->w.cell? ⟨b,off+i*8+7,none⟩=some (.slice p' t.subs.length c')->
    ∀ (W:World) (B:Nat),aa (· <n0) w W->ah W B (ai t.kind t.set t.mn t.mx (.slice p' t.subs.length c')) 62->Seq true Tryz.prog 122 #[.pointer (some ⟨B,0,none⟩)] Cq (fun k=>k<n0\/k=B) xs W:=fun i=>by
   cases hi:l[i]? with
   | none=>exact⟨[],fun t h=>by cases h⟩
   | some t=>
    obtain⟨b,off,p',c',ep,_,_,_,Vc,hr⟩:=HV.out.elem hi;obtain⟨xs,h1,h2,h3⟩:=ih t (List.mem_of_getElem? hi) (Nat.le_trans (uX (List.mem_of_getElem? hi)) (by rw[RX.size]at hsz;omega)) _ w hr dp;refine⟨xs,fun t' e=>?_⟩;cases e;refine⟨h1,h2,fun p2 c2 _ b2 sF e2 hc2 W B hW hB=>?_⟩;rw[ep]at e2;cases e2;have e3:=Vc.2.2.2.2.2.2.2;rw[hc2]at e3;cases e3;exact h3 W B _ rfl hW hB
  obtain⟨f,hf⟩:=Classical.axiomOfChoice hch;clear hch ih;obtain⟨cv,hcv⟩:∃ c,c=ai k s mn mx (.slice p n cp):=⟨_,rfl⟩;obtain⟨x0,hx0⟩:∃ x:iW,x=(.agg cv,.nd k s mn mx l):=⟨_,rfl⟩;refine⟨x0::(List.range n).flatMap f,?_,fun x hx=>?_,?_⟩
  ·rw[List.map_cons,yg f (fun i t h=>(hf i t h).1) n (by omega),hn,List.take_length,RX.pre,hx0]
  ·rcases List.mem_cons.1 hx with rfl | hx
   ·rw[hx0,hcv];exact HV.out
   ·obtain⟨i,hi,hxi⟩:=List.mem_flatMap.1 hx
    have ib:i<l.length:=by have:=List.mem_range.1 hi;omega
    exact(hf i _ (List.getElem?_eq_getElem ib)).2.1 x hxi
  intro WS B c ec hKS hB;cases ec;rw[<-hcv]at hB;have HF:=hid hf;have OX:=hid hx0;clear hf hv hx0;intro ly J Jx W1 hK hJ TQ hY h0;have HY:=hid hY;have HJ:=hid hJ;have HJX:=hid TQ;clear hY hJ TQ;have B1:=hB.keeps hK hB.lt;have KW:aa (· <n0) w W1:=hKS.tr (hK.mono fun k hk=>Nat.lt_of_lt_of_le hk (by have:=hKS.size;omega));have Ue:n0<=W1.heap.size:=by have:=KW.size;omega
  have Vd:∀ k,(k<n0\/k=B)->k<W1.heap.size:=fun k hk=>by rcases hk with hk | rfl;omega;exact B1.lt
  have aj3:n<=10000000:=by rw[hn];exact Nat.le_trans (mP l) (by rw[RX.size]at hsz;omega)
  refine callsIn_wide (n:=0).1 ?_;refine callsIn_of_wp_marks Tryz.func122 rfl trivial ?_ rfl;simp only[Tryz.ntmps122,List.size_toArray,List.length_cons,List.length_nil,Nat.reduceAdd,Nat.reduceSub,Array.replicate_succ,Array.replicate_zero,List.push_toArray,List.append_toArray,List.nil_append,List.cons_append];have I2:fg (fun k=>k<n0\/k=B) J W1 W1.heap.size (.func (.yield ly) #[] #[]) [] [] (fun k=>k=W1.heap.size) (W1.alloc (.cells #[.func (.yield ly) #[] #[]] 130 (0,0))):=
   ⟨fun k hk=>by rw[hk];simp,rfl,ah.new _ _ _,List.nodup_nil,fun D h=>by(cases h),((Ext.refl _).alloc _).mono fun k hk=>Vd k hk,HJ.out _ _ _ _ _ h0 (fun k h=>h.elim) (fun k hk=>by rw[hk];simp) (fun k h=>h.elim) (fun k hk=>.inr (by rw[hk];exact Nat.le_refl _)) (.ext ((Ext.refl _).alloc _))⟩
  obtain⟨fn,tm,Aa,bd,hy,Ar⟩:=HY.out [] x0 _ _ ⟨_,rfl⟩ I2.jm I2.keep I2.j;have J2:=hid Ar;have I2H:=hid I2;have B2:=hid (B1.alloc (.cells #[.func (.yield ly) #[] #[]] 130 (0,0)));clear Ar I2 h0;rw[Cq,OX.out]at hy;obtain⟨Ve,QX⟩:∃ x,x=(⟨W1.heap.size,0,none⟩:Addr):=⟨_,rfl⟩;have q0:(W1.alloc (.cells #[.func (.yield ly) #[] #[]] 130 (0,0))).cell? ⟨W1.heap.size,0,none⟩=some (.func (.yield ly) #[] #[]):=(ah.new _ _ _).cell 0;rw[hcv]at B2 hy;obtain⟨b0,b1,b2,b3,b4,b5,b6,b7⟩:=(show _/\_/\_/\_/\_/\_/\_/\_ from⟨B2.out.cell 0,B2.out.cell 1,B2.out.cell 2,B2.out.cell 3,B2.out.cell 4,B2.out.cell 5,B2.out.cell 6,B2.out.cell 7⟩);simp only[ai,List.getElem?_toArray,List.getElem?_cons_zero,List.getElem?_cons_succ]at b0 b1 b2 b3 b4 b5 b6 b7;dsimp only[ai]at hy;clear QX Ve;have HN:=hid hn;clear hn
  gi_wp2
  refine J2.out.mono ?_;rintro e W2 (⟨rfl,gz,hk2⟩ | ⟨rfl,hjx,hk2⟩)
  rotate_left
  ·have QY:=I2H.out.jm
   have h5:=hk2.size;clear hy
   gi_wp2
   exact vW rfl (results_none rfl _ _ _) ⟨⟨_,rfl⟩,_,fun k hk=>⟨(QY k hk).1,Nat.lt_of_lt_of_le (QY k hk).2 h5⟩,.inr ⟨[x0],⟨_,rfl⟩,hjx⟩⟩
  have I3:=hid (I2H.out.round hk2 gz);have KB:Hid (ah W2 B (ai k s mn mx (.slice p n cp)) 62):=hid (B2.out.keeps hk2 (.inl (.inr rfl)));have g7:W2.cell? ⟨B,7,none⟩=some (.slice p n cp):=KB.out.cell 7;clear hy gz hk2 q0 b0 b1 b2 b3 b4 b5 b6 b7 B2 I2H J2
  gi_wp2
  have HR:=hid Vd;have lU:=hid KW;clear g7 KB Vd KW hB hKS hK;refine wpIn_loop (fun a W=>∃ (i:Nat) (Ds:List Nat) (T:Nat->Prop) (u4 u14 u15 u16 u17 u18 u24:Value),i<=n/\a= {tmps:= #[.func (.yield ly) #[] #[],.pointer (some ⟨B,0,none⟩),.pointer (some ⟨W1.heap.size,0,none⟩),undef,u4,undef,.func (.yield ly) #[] #[],.agg (ai k s mn mx (.slice p n cp)),.bool true,.bool false,.pointer (some ⟨B,7,none⟩),.slice p n cp,.int .i64 n,.int .i64 i,u14,u15,u16,u17,u18,undef,undef,undef,undef,undef,u24],defers:=Ds.map SV} /\fg (fun k=>k<n0\/k=B) J W1 W1.heap.size (.func (.yield ly) #[] #[]) (x0::(List.range i).flatMap f) Ds T W)
   (fun a _=>n-(intOf (a.tmps.getD 13 undef)).toNat) ⟨0,[],_,undef,undef,undef,undef,undef,undef,undef,by omega,rfl,I3.out⟩ ?_
  rintro a w4 ⟨i,Ds,T,u4,u14,u15,u16,u17,u18,u24,hi,rfl,hI⟩;have HI:=hid hI;clear I3;by_cases hlt:i<n
  rotate_left
  ·obtain rfl:i=n:=by omega
   have eT:¬ ((i:Int)<i):=by omega
   clear hI
   gi_wp2
   refine kO (.inl rfl) HI.out.nodup (fun D hD=>(HI.out.ds D hD).2) (fun W=>results_none rfl _ _ _) ⟨⟨_,rfl⟩,T,fun k hk=>by rw[iF];exact HI.out.jm k hk,.inl ?_⟩;exact HJ.out _ _ _ _ _ HI.out.j HI.out.jm (fun k hk=>by rw[iF];exact HI.out.jm k hk) (fun _ h=>h) (fun _ h=>.inl h) (oh Ds w4 fun D hD=>(HI.out.ds D hD).1)
  have eT:(i:Int)<n:=by omega
  obtain⟨t,ht⟩:∃ t,l[i]? =some t:=⟨_,List.getElem?_eq_getElem (by have:=HN.out;omega)⟩;have KW4:Hid (aa (· <n0) w w4):=hid (lU.out.tr (hI.keep.mono fun k hk=>.inl hk));obtain⟨b,off,p',c',ep,hbF,hb,aj4,⟨q0,q1,q2,q3,q4,q5,q6,q7⟩,hrt⟩:=HV.out.elem ht;have hf9:=(HF.out i t ht).2.2 p' c' hrt b off ep q7;have HFM:=hid ((HF.out i t ht).2.1);have hcell:∀ j,w4.cell? ⟨b,j,none⟩=w.cell? ⟨b,j,none⟩:=fun j=>KW4.out.cell (p:=⟨b,j,none⟩) hbF
  replace q0:=(hcell _).trans q0;replace q1:=(hcell _).trans q1;replace q2:=(hcell _).trans q2;replace q3:=(hcell _).trans q3;replace q4:=(hcell _).trans q4;replace q5:=(hcell _).trans q5;replace q6:=(hcell _).trans q6;replace q7:=(hcell _).trans q7;replace hb:b<w4.heap.size:=Nat.lt_of_lt_of_le hb KW4.out.size;subst ep;have HF9:=hid hf9;have HT:=hid ht;clear hf9 hI ht hcell hrt
  gi_wp2_with (gi_at_call 96;refine(callsIn_wide.2 (kt _ _)).mono ?_;rintro e w5 ⟨rfl,rfl⟩)
  refine Eb ?_;intro w5 Wy;have aj6:w5.heap.size=w4.heap.size+2:=by rw[Wy];simp
  have x45:Ext w4 w5:=by rw[Wy];exact((Ext.refl _).alloc _).alloc _
  have BN:ah w5 (w4.heap.size+1) (ai t.kind t.set t.mn t.mx (.slice p' t.subs.length c')) 62:=by rw[Wy];exact(ah.new _ _ _).at (by simp)
  have aj7:W1.heap.size<=w4.heap.size:=HI.out.keep.size;obtain⟨T2,QY⟩:∃ T2:Nat->Prop,T2=fun k=>T k\/k=w4.heap.size\/k=w4.heap.size+1:=⟨_,rfl⟩
  have i5:fg (fun k=>k<n0\/k=B) J W1 W1.heap.size (.func (.yield ly) #[] #[]) (x0::(List.range i).flatMap f) Ds T2 w5:=HI.out.more HJ.out HR.out x45 (fun k hk=>by rw[QY];exact .inl hk) (fun k hk=>by
   rw[QY]at hk;rcases hk with hk | hk | hk
   ·exact⟨.inl hk,by have:=(HI.out.jm k hk).2;omega⟩
   ·exact⟨.inr (by omega),by omega⟩
   ·exact⟨.inr (by omega),by omega⟩)
  have hDs:∀ D∈Ds,D<w5.heap.size:=fun D hD=>(i5.jm D (i5.ds D hD).1).2
  have adO:T2 (w4.heap.size+1):=by rw[QY];exact .inr (.inr rfl)
  have hseq:=HF9.out w5 (w4.heap.size+1) (KW4.out.tr (x45.mono fun k hk=>by have:k<n0:=hk;omega)) BN;have hY5:W1.heap.size<w5.heap.size:=by omega
  have i5':fg (fun k=>k<n0\/k=B) J W1 W1.heap.size (.func (.yield ly) #[] #[]) ((x0::(List.range i).flatMap f)++ []) Ds (fun k=>T2 k\/False) w5:=by
   rw[List.append_nil];exact i5.more HJ.out HR.out (Ext.refl _) (fun k h=>.inl h) fun k h=>by
    rcases h with h | h
    ·exact⟨.inl h,(i5.jm k h).2⟩
    ·exact h.elim
  have HPF:Hid (∀ pre (x:iW),pre++ [x]<+:f i->((x0::(List.range i).flatMap f)++pre)++ [x]<+:x0::(List.range n).flatMap f):=hid fun pre x h=>by
   refine List.IsPrefix.trans ?_ (yh f x0 (show i+1<=n by omega));rw[zB,List.append_assoc];exact List.prefix_append_right_inj _ |>.2 h
  have Pz:∀ k,(k<n0\/k=w4.heap.size+1)->k<w5.heap.size:=fun k hk=>by
   rcases hk with hk | hk
   ·have:=HR.out k (.inl hk);omega
   ·omega
  have HI5:=hid i5';have I5K:=hid i5;have Pf:=hid QY;have XW5:=hid x45;have ZA:=hid hDs;obtain⟨done,hdone⟩:∃ d,d=x0::(List.range i).flatMap f:=⟨_,rfl⟩;rw[<-hdone]at HI5 HPF I5K;have HDN:=hid hdone;clear i5 i5' QY x45 BN Wy hDs q0 q1 q2 q3 q4 q5 q6 q7 eT hdone
  refine wpIn_wide.2 (s7 (d:=true) hseq (by rfl) mO (by intro _;rfl) Pz
   (fun pre Ti W=>fg (fun k=>k<n0\/k=B) J W1 W1.heap.size (.func (.yield ly) #[] #[]) (done++pre) Ds (fun k=>T2 k\/Ti k) W)
   (fun c pre Ti W=>c=.ret/\zC Jx W1 (done++pre) Ds (fun k=>T2 k\/Ti k) W)
   (fun s T T' W W' h h1 h2 h3 h4 h5=>h.move HJ.out HR.out (by omega) hY5 ZA.out h1 h2 h3 h4 h5)
   (fun c s T T' W W' h h1 h2 h3 h4 h5=>⟨h.1,h.2.move HJX.out (by omega) ZA.out h1 h2 h3 h4 h5⟩)
   HI5.out
   (fun z Ti W=>∃ b9:Nat,z.2.2= {tmps:= #[.func (.yield ly) #[] #[],.pointer (some ⟨B,0,none⟩),.pointer (some ⟨W1.heap.size,0,none⟩),undef,.pointer (some ⟨w4.heap.size,0,none⟩),.pointer (some ⟨b9,0,none⟩),.func (.yield ly) #[] #[],.agg (ai k s mn mx (.slice (some ⟨b,off,none⟩) n cp)),.bool true,.bool false,.pointer (some ⟨B,7,none⟩),.slice (some ⟨b,off,none⟩) n cp,.int .i64 n,.int .i64 i,.bool true,.pointer (some ⟨b,off+i*8,none⟩),.agg (ai t.kind t.set t.mn t.mx (.slice p' t.subs.length c')),.agg (ai t.kind t.set t.mn t.mx (.slice p' t.subs.length c')),.func (.func 122) #[] #[.pointer (some ⟨w4.heap.size+1,0,none⟩)],z.2.1.1,undef,undef,undef,undef,u24],defers:=[]} /\w5.heap.size<=b9/\b9<W.heap.size/\¬Ti b9/\(∃ c,z.2.1.1=.agg c/\ah W b9 c 62)/\fg (fun k=>k<n0\/k=B) J W1 W1.heap.size (.func (.yield ly) #[] #[]) (done++z.1) Ds (fun k=>T2 k\/Ti k) W)
   ?hIa ?assign ?body ?done ?stop)
  case hIa=>
   rintro⟨pre,x,a1⟩ Ti Ke W W' ⟨b9,e1,e2,e3,e4,⟨c,e5,e6⟩,e7⟩ h1 h2 h3 h4 h5;have hs:=h5.size;refine⟨b9,e1,e2,by omega,fun h=>?_,⟨c,e5,e6.keeps h5.keeps ⟨e3,e4⟩⟩,e7.move HJ.out HR.out (by omega) hY5 ZA.out h1 h2 h3 h4 h5⟩;rcases h4 b9 h with h | h
   ·exact e4 h
   ·omega
  case assign=>
   rintro lr pre ⟨xv,xt⟩ Ti W hp Vf hk hI;have hx:=HFM.out (xv,xt) (hp.subset (by simp));obtain⟨p9,c9,e9⟩:=hx.form;dsimp only at e9;subst e9;have HI9:=hid hI;have HTI:=hid Vf;clear hI Vf hx hp hseq;dsimp only[ai,Cq]
   gi_wp2
   have DC:w5.heap.size<=W.heap.size:=hk.size;refine⟨((aa.refl _ _).alloc (fun j hj=>?_) _),W.heap.size,rfl,DC,by simp,fun h=>by have:=(HTI.out _ h).2;omega,⟨_,rfl,ah.new _ _ _⟩,HI9.out.more HJ.out HR.out ((Ext.refl _).alloc _) (fun _ h=>h) fun j hj=>⟨.inl hj,by have:=(HI9.out.jm j hj).2;simp;omega⟩⟩;rcases hj with hj | hj
   ·have:=Pz j hj;omega
   ·exact(HTI.out j hj).2
  case body=>
   rintro lr pre ⟨xv,xt⟩ Ti a1 W hp Vf hk s6 qi ⟨b9,e1,e2,e3,e4,⟨c9,e5,e6⟩,e7⟩;have hx:=HFM.out (xv,xt) (hp.subset (by simp));obtain⟨p9,cp9,e9⟩:=hx.form;dsimp only at e1 e5 e7 e9;rw[e5]at e9;injection e9 with e9
   subst e1 e5 e9;obtain⟨fn,tm,Aa,bd,hy,Ar⟩:=HY.out _ _ _ _ (HPF.out pre _ hp) e7.jm e7.keep e7.j;have J2:Hid (RoundIn (Fence.wide.inRound lr) 0 Tryz.prog ly fn tm Aa bd W _):=hid Ar;have q0:W.cell? ⟨W1.heap.size,0,none⟩=some (.func (.yield ly) #[] #[]):=e7.yb.cell 0;have E7:=hid e7;obtain⟨b0,b1,b2,b3,b4,b5,b6,b7⟩:=(show _/\_/\_/\_/\_/\_/\_/\_ from⟨e6.cell 0,e6.cell 1,e6.cell 2,e6.cell 3,e6.cell 4,e6.cell 5,e6.cell 6,e6.cell 7⟩);simp only[ai,List.getElem?_toArray,List.getElem?_cons_zero,List.getElem?_cons_succ]at b0 b1 b2 b3 b4 b5 b6 b7;dsimp only[ai,Cq]at hy;have HTI:=hid Vf;clear Ar e7 e6 hx hp qi hseq s6 Vf
   gi_wp2
   refine J2.out.mono ?_;rintro e W2 (⟨rfl,gz,hk2⟩ | ⟨rfl,hjx,hk2⟩)
   ·clear hy q0 b0 b1 b2 b3 b4 b5 b6 b7
    gi_wp2
    refine⟨hk2.mono fun j hj=>?_,?_⟩
    ·rcases hj with(hj | hj) | hj
     ·exact .inl (.inl hj)
     ·exact .inr (.inl (by rw[hj];exact adO))
     ·exact .inr (.inr hj)
    ·dsimp only
     rw[<-List.append_assoc];exact E7.out.round hk2 gz
   ·clear hy q0 b0 b1 b2 b3 b4 b5 b6 b7
    gi_wp2
    refine⟨hk2.mono fun j hj=>.inr hj,rfl,?_⟩;rw[<-List.append_assoc];exact⟨fun j hj=>⟨(E7.out.jm j hj).1,Nat.lt_of_lt_of_le (E7.out.jm j hj).2 hk2.size⟩,fun D hD=>⟨(E7.out.ds D hD).1,(hk2.keep D (E7.out.ds D hD).1).trans (E7.out.ds D hD).2⟩,hjx⟩
  case done=>
   rintro D Ti W hD tE Vf hI jR;have HI9:=hid hI;have sP:=hid jR;clear hI jR hseq;dsimp only
   gi_wp2
   refine⟨⟨i+1,D::Ds,fun k=>T2 k\/Ti k,_,_,_,_,_,_,_,by omega,rfl,?_⟩,?_⟩
   ·have e5:=HI9.out
    rw[HDN.out, <-zB]at e5;refine⟨e5.jm,e5.y,e5.yb,List.nodup_cons.2 ⟨fun h=>by have:=ZA.out D h;omega,e5.nodup⟩,fun E hE=>?_,e5.keep,e5.j⟩;rcases List.mem_cons.1 hE with rfl | hE
    ·exact⟨.inr tE,sP.out⟩
    ·exact e5.ds E hE
   ·simp[intOf];omega
  case stop=>
   rintro D c pre Ti W hD tE Vf hp ⟨rfl,ho⟩ jR;have HO:=hid ho;clear ho hseq;dsimp only;go_wp2;refine kO (Ds:=D::Ds) (.inr rfl) (List.nodup_cons.2 ⟨fun h=>by have:=ZA.out D h;omega,HI.out.nodup⟩) (fun E hE=>?_) (fun W=>results_none rfl _ _ _) ⟨⟨_,rfl⟩,fun k=>T2 k\/Ti k,fun k hk=>by rw[iF];exact HO.out.jm k hk,.inr ⟨done++pre,?_,?_⟩⟩
   ·rcases List.mem_cons.1 hE with rfl | hE
    ·exact jR
    ·exact(HO.out.ds E hE).2
   ·refine List.IsPrefix.trans ?_ (yh f x0 (show i+1<=n by omega))
    rw[zB, <-HDN.out];exact List.prefix_append_right_inj _ |>.2 hp
   ·exact HJX.out _ _ _ _ _ HO.out.j HO.out.jm (fun k hk=>by rw[iF];exact HO.out.jm k hk) (fun _ h=>h) (fun _ h=>.inl h) (oh (D::Ds) W fun E hE=>by
     rcases List.mem_cons.1 hE with rfl | hE
     ·exact .inr tE
     ·exact(HO.out.ds E hE).1)
end Go.Proofs.YtalombmiochpmaaGreatDoor
