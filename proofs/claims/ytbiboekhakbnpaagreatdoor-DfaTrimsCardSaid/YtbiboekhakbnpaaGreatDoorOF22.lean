/- The maker of automata of positions: the kinds' table, and make. -/
import Derived.Test.YtbiboekhakbnpaaGreatDoorOF21
set_option maxRecDepth 100000
set_option maxHeartbeats 16000000
open Go.Lib (hid)
namespace Go.Proofs.YtbiboekhakbnpaaGreatDoor
open Go Go.RowKit Go.Shelf Go.Maps
theorem YP (n0 base M:Nat) (F:Nat->Prop) (m:GM) (k0:Nat) (s:BS) (mn:Int) (N:Nat) (t:RX) (l:List RX) (p:Option Addr) (n c:Nat) (w:World) (cN:n0<=base) (h:eD base M F w m) (hr:aG (· <n0) w (.agg (aj k0 s mn (N:Int) (.slice p n c))) (.nd k0 s mn (N:Int) (t::l))) (ht:Fl n0 t) (hf:t.full=true) (ok:m.ok) (hm:m.bJ.length=m.az.length) (hN:1<=N) (adG:N<=16) (hG:dX mn (N:Int)=N) (hn:m.az.length+N*t.cnt<=448): Calls Tryz.prog 146 #[.pointer (some ⟨M,0,none⟩),.agg (aj k0 s mn (N:Int) (.slice p n c))] w (iO base M F w (di mn (N:Int) (fun m=>t.cE m) m N).1 (di mn (N:Int) (fun m=>t.cE m) m N).2):=by
 have hlen:n=l.length+1:=by obtain⟨p2,c2,e⟩:=hr.form;simp[aj,RX.subs,RX.kind,RX.set,RX.mn,RX.mx]at e;exact e.2.1
 have fL:0<n:=by omega
 obtain⟨b,off,p',c',rfl,hb,ny,ja,⟨e0,e1,e2,e3,e4,e5,e6,e7⟩,hrt⟩:=hr.elem (i:=0) (t:=t) rfl;simp only[Nat.zero_mul,Nat.add_zero]at e0 e1 e2 e3 e4 e5 e6 e7;have HM:=hid h;have Qo:=hid hrt;have HT:=hid ht;have OY:=hid hf;have kK:=hid ok;have HGG:=hid hG;have GI:=hid hm;have EE:=hid (And.intro e0 (And.intro e1 (And.intro e2 (And.intro e3 (And.intro e4 (And.intro e5 (And.intro e6 e7)))))));have Sl:M<w.heap.size:=(h.lt M h.fm).2;have YG:n0<=w.heap.size:=by have:=(h.lt M h.fm).1;omega
 have ui:¬F b:=fun e=>by have:=(h.lt b e).1;omega
 obtain⟨st,hst⟩:∃ st,st=di mn (N:Int) (fun m=>t.cE m) m N:=⟨_,rfl⟩;rw[<-hst];have HST:=hid hst;have HMU:=hid hn;clear h hr hrt ht hf ok hm hlen hst hG e0 e1 e2 e3 e4 e5 e6 e7 hn;have hmx:¬ ((N:Int)= -1):=by omega
 have ajU:((N:Int)== -1)=false:=by simp[hmx]
 unfold aj;go_enter Tryz.func146,Tryz.ntmps146;go_upto_region 5 with fail
 refine au ?_;intro V hV;have N0:Hid (ak V w.heap.size #[.int .u8 k0,.int .u64 (wd s 0).toNat,.int .u64 (wd s 1).toNat,.int .u64 (wd s 2).toNat,.int .u64 (wd s 3).toNat,.int .i64 mn,.int .i64 (N:Int),.slice (some ⟨b,off,none⟩) n c] 86):=by rw[hV];exact hid (((ak.new _ _ _).alloc _).alloc _)
 have R0:Hid (ak V (w.heap.size+1) (zeroV false) 131):=by rw[hV];exact hid ((ak.at (ak.new _ _ _) (by simp)).alloc _)
 have O0:Hid (ak V (w.heap.size+1+1) (zeroV true) 131):=by rw[hV];exact hid (ak.at (ak.new _ _ _) (by simp))
 have E0:Hid (Ext w V):=by rw[hV];exact hid ((((Ext.refl w).alloc _).alloc _).alloc _)
 have jZ:Hid (V.heap.size=w.heap.size+1+1+1):=hid (by rw[hV];simp);clear hV;have Bg:w.heap.size+1+1<V.heap.size:=by rw[jZ.out];omega
 have MV:Hid (eD base M F V m):=hid (HM.out.keeps E0.out.keeps fun x hx=>(HM.out.lt x hx).2);go_wp2;go_loopw [18] (fun iv W=>∃ k:Nat,k<=N/\iv=.int .i64 k/\Qp base M F (di mn (N:Int) (fun m=>t.cE m) m k) (w.heap.size+1+1) V W) (fun iv _=>N-(intOf iv).toNat);case atStart=>
  refine⟨0,by omega,rfl,?_⟩;exact⟨⟨F,MV.out,fun _ h=>h,fun _ h=>.inl h⟩,by show ak _ _ (aq ⟨0,0,true⟩) _;rw[gu];exact O0.out,aa.refl _ _⟩
 case round=>
  obtain⟨k,hk,rfl,hI⟩:=hrel;obtain⟨wo,rfl⟩:∃ wo:World,wo=wr:=⟨_,rfl⟩;have HI:=hid hI;clear hI;by_cases hlt:k<N
  ·have ed:(k:Int)<N:=by omega
   obtain⟨⟨F',yP,Fm,hF2⟩,hO,Cb⟩:=HI.out;have bp:=Ce OY.out kK.out mn (N:Int) k;have jx:=lN t OY.out _ bp.ok;have jY:di mn (N:Int) (fun m=>t.cE m) m (k+1)=yF mn (N:Int) k (di mn (N:Int) (fun m=>t.cE m) m k).2 (t.cE (di mn (N:Int) (fun m=>t.cE m) m k).1):=rfl;have hmul:(k+1)*t.cnt<=N*t.cnt:=Nat.mul_le_mul_right _ hlt;have MI:(k+1)*t.cnt=k*t.cnt+t.cnt:=Nat.succ_mul _ _;have hmu:=HMU.out;obtain⟨sk,hsk⟩:∃ sk,sk=di mn (N:Int) (fun m=>t.cE m) m k:=⟨_,rfl⟩;rw[<-hsk]at hO yP jY bp jx;obtain⟨m2,p2,ug⟩:∃ m2 p2,t.cE sk.1=(m2,p2):=⟨_,_,rfl⟩;rw[ug]at jY jx;have wB:=jx.len;have hl2:=bp.len;have Cc:=jx.ok.len;have UA:=jx.gp;dsimp only at wB Cc UA;have Dz:Hid (cF sk.2.bV m2.bJ.length):=hid (bp.gp.bV.mono (by omega));have Wu:Hid (cF p2.bV m2.bJ.length):=hid (UA.bV.mono (by omega));have Ux:Hid (m2.bJ.length<=448):=hid (by omega);have CM:Hid (∀ W,eD base M F' W sk.1->aG (· <n0) W (.agg (aj t.kind t.set t.mn t.mx (.slice p' t.subs.length c'))) t->Calls Tryz.prog 68 #[.pointer (some ⟨M,0,none⟩),.agg (aj t.kind t.set t.mn t.mx (.slice p' t.subs.length c'))] W (iO base M F' W m2 p2)):=hid fun W h1 h2=>by
    have:=HT.out base M F' sk.1 W _ cN h1 h2 bp.ok bp.ok.len (by omega);rw[ug]at this;exact this
   have Qq:=hid jY;have MG:¬F' (w.heap.size+1+1):=fun e=>by rcases hF2 _ e with h | h;exact absurd (HM.out.lt _ h).2 (by omega);omega
   have YH:¬F' w.heap.size:=fun e=>by rcases hF2 _ e with h | h;exact absurd (HM.out.lt _ h).2 (by omega);omega
   have KO:Hid (aa (fun x=>x<w.heap.size/\¬F x) w wo):=hid ((E0.out.keeps.mono fun x hx=>hx.1).tr (Cb.mono fun x hx=>⟨by have:=hx.1;omega,hx.2,by have:=hx.1;omega⟩));have RY:=Cb.size;have NO:Hid (ak wo w.heap.size #[.int .u8 k0,.int .u64 (wd s 0).toNat,.int .u64 (wd s 1).toNat,.int .u64 (wd s 2).toNat,.int .u64 (wd s 3).toNat,.int .i64 mn,.int .i64 (N:Int),.slice (some ⟨b,off,none⟩) n c] 86):=hid (N0.out.keeps Cb ⟨by omega,fun e=>by have:=(HM.out.lt _ e).2;omega,by omega⟩);have O1:=hid hO;have M1:=hid yP;have R1:Hid (aG (· <n0) wo (.agg (aj t.kind t.set t.mn t.mx (.slice p' t.subs.length c'))) t):=hid (Qo.out.keeps KO.out fun x hx=>⟨by omega,fun e=>by have:=(HM.out.lt x e).1;omega⟩);have ec:∀ (o:Nat) (u:Value),w.cell? ⟨b,o,none⟩=some u->wo.cell? ⟨b,o,none⟩=some u:=fun o u h=>(KO.out.cell (p:=⟨b,o,none⟩) ⟨ny,ui⟩).trans h
   obtain⟨e0,e1,e2,e3,e4,e5,e6,e7⟩:=EE.out;replace e0:=ec _ _ e0;replace e1:=ec _ _ e1;replace e2:=ec _ _ e2;replace e3:=ec _ _ e3;replace e4:=ec _ _ e4;replace e5:=ec _ _ e5;replace e6:=ec _ _ e6;replace e7:=ec _ _ e7;have n5:wo.cell? ⟨w.heap.size,5,none⟩=some (.int .i64 mn):=NO.out.cell 5;have n6:wo.cell? ⟨w.heap.size,6,none⟩=some (.int .i64 (N:Int)):=NO.out.cell 6;have n7:wo.cell? ⟨w.heap.size,7,none⟩=some (.slice (some ⟨b,off,none⟩) n c):=NO.out.cell 7;have Ss:=hid Fm;have GV:=hid hF2;have Je:=hid Cb;have oF:=hid MG;have lU:=hid YH;have Jf:=hid (CM.out wo M1.out R1.out);clear jY ug hsk hO yP Fm hF2 Cb MG YH HI bp jx wB hl2 Cc UA hmul MI hmu ec CM M1 R1;go_wp2_with fail
   refine Jf.out.mono ?_;rintro e w2 ⟨rfl,hF'',hx,hsz⟩;have hOl:w.heap.size+1+1<wo.heap.size:=O1.out.lt;have O2:=hid (O1.out.keeps hx ⟨O1.out.lt,oF.out⟩);have N2:=hid (NO.out.keeps hx ⟨NO.out.lt,lU.out⟩);obtain⟨F2,g1,g2,g3⟩:=hF'';have jc:¬F2 (w.heap.size+1+1):=fun e=>by rcases g3 _ e with h | h;exact oF.out h;omega
   have MJ:¬F2 w.heap.size:=fun e=>by rcases g3 _ e with h | h;exact lU.out h;omega
   have M2:=hid g1;have G2:=hid g2;have G3:=hid g3;have kI:=hid jc;have YI:=hid MJ;have Qr:=hid hx;have UB:=hid hsz;clear hx g1 g2 g3 jc MJ hsz Jf O1 NO e0 e1 e2 e3 e4 e5 e6 e7 n5 n6 n7;unfold aq;go_upto_region 9 with fail
   refine au ?_;intro W3 hW3;have X3:Hid (ak W3 w2.heap.size (aq p2) 131):=by rw[hW3];exact hid (ak.new _ _ _)
   have E3:Hid (Ext w2 W3):=by rw[hW3];exact hid ((Ext.refl w2).alloc _)
   have O3:=hid (O2.out.ext E3.out);have N3:=hid (N2.out.ext E3.out);have M3:Hid (eD base M F2 W3 m2):=hid (M2.out.keeps E3.out.keeps fun x hx=>(M2.out.lt x hx).2);have hx2:¬F2 w2.heap.size:=fun e=>by have:=(M2.out.lt _ e).2;omega
   have eZ:=hid hx2;clear hW3 hx2 O2 N2;have n5:W3.cell? ⟨w.heap.size,5,none⟩=some (.int .i64 mn):=N3.out.cell 5;have n6:W3.cell? ⟨w.heap.size,6,none⟩=some (.int .i64 (N:Int)):=N3.out.cell 6;obtain⟨a0,a1,a2,a3,a4,a5,a6,a7,a8,a9,iW,iX,a12,iY,ib⟩:=X3.out.part
   try dsimp only at a0 a1 a2 a3 a4 a5 a6 a7 a8 a9 iW iX a12 iY ib
   obtain⟨m4,xr⟩:∃ m4,m4=m2:=⟨_,rfl⟩;obtain⟨W5,J3⟩:∃ W5,W5=W3:=⟨_,rfl⟩;have K5:Hid (aa (fun x=>x<W3.heap.size/\¬F2 x) W3 W3):=hid (aa.refl _ _);have X5:=X3;have O5:=O3;have M5:Hid (eD base M F2 W3 m4):=hid (by rw[xr];exact M3.out);have P5:Hid (cF sk.2.bV m4.bJ.length/\m4.bJ.length<=448):=hid (by rw[xr];exact⟨Dz.out,Ux.out⟩);have UC:=hid xr;clear xr W5 J3;obtain⟨eb,Fo⟩:∃ eb,eb=p2.emp:=⟨_,rfl⟩;rw[<-Fo]at ib;have Uw:=hid Fo;clear Fo;have ML:W3.frozen? ⟨w2.heap.size,14,none⟩=false:=X5.out.frozen 14;cases eb;all_goals
    go_upto_region 12 with fail
    refine au ?_;intro W6 sj;obtain⟨e6,MM⟩:∃ e6,e6=(p2.emp || decide (mn<=(k:Int))):=⟨_,rfl⟩;obtain⟨p6,MN⟩:∃ p6:GP,p6=⟨p2.fst,p2.bV,e6⟩:=⟨_,rfl⟩;have X6:Hid (ak W6 w2.heap.size (aq p6) 131):=by rw[MN,sj,MM, <-Uw.out];exact hid (X5.out.set 14 _)
    have K6:Hid (aa (· ≠w2.heap.size) W3 W6):=by rw[sj];exact hid ((aa.refl (· ≠w2.heap.size) _).setCell (p:=⟨w2.heap.size,14,none⟩) (fun h=>h rfl) _)
    have O6:=hid (O5.out.keeps K6.out (by have:=O3.out.lt;have:=UB.out;omega));have M6:Hid (eD base M F2 W6 m4):=hid (M5.out.keeps K6.out fun x hx e=>eZ.out (e▸hx))
    try clear n6
    clear sj n5 a0 a1 a2 a3 a4 a5 a6 a7 a8 a9 iW iX a12 iY ib ML;have YM:=hid MM;clear MM;have YN:=hid MN;clear MN;have CT:Hid (Calls Tryz.prog 143 #[.pointer (some ⟨M,0,none⟩),.agg (aq sk.2),.agg (aq p6)] W6 fun e w'=>e=.returned (.agg (aq (bR m4 sk.2 p6).2))/\eD base M F2 w' (bR m4 sk.2 p6).1/\aa (fun x=>x<W6.heap.size/\¬F2 x) W6 w'):=hid (mG base M F2 m4 sk.2 p6 W6 M6.out P5.out.1 P5.out.2);have jC:di mn (N:Int) (fun m=>t.cE m) m (k+1)=bR m4 sk.2 p6:=by
     rw[Qq.out,YN.out,YM.out];unfold yF;rw[if_neg (fun h=>hmx h.1), <-UC.out]
    have Cf:=hid jC;clear jC;obtain⟨m7,p7,Cg⟩:∃ m7 p7,bR m4 sk.2 p6=(m7,p7):=⟨_,_,rfl⟩;rw[Cg]at CT Cf;dsimp only at CT;clear Cg;go_wp2_with (first | (refine aK rfl 131 (.tmp 6) rfl (w.heap.size+1+1) rfl (aq sk.2) _ O6.out.range Tryz.underlying131 rfl (aR _) ?_) | (refine aK rfl 131 (.tmp 8) rfl w2.heap.size rfl (aq p6) _ X6.out.range Tryz.underlying131 rfl (aR _) ?_));refine CT.out.mono ?_;rintro e w8 ⟨rfl,hF3,hx⟩;have O8:=hid (O6.out.keeps hx ⟨O6.out.lt,kI.out⟩);have M8:=hid hF3;have Uz:=hid hx;clear hx hF3 CT;go_wp2_with (refine wpList_store_row rfl 131 (.tmp 6) (.tmp 54) rfl (w.heap.size+1+1) (aq p7) rfl rfl 131 (aq sk.2) O8.out (aR _) rfl (dE _) ?_;refine Hid.out ?_);refine hid ?_;obtain⟨W9,gg⟩:∃ W,W=w8.setRow (w.heap.size+1+1) (aq p7):=⟨_,rfl⟩;rw[<-gg];have O9:Hid (ak W9 (w.heap.size+1+1) (aq p7) 131):=by rw[gg];exact hid O8.out.setRow
    have K9:Hid (aa (· ≠w.heap.size+1+1) w8 W9):=by rw[gg];exact hid (aV _ _ _)
    clear gg;go_wp2;go_roundw;case rel=>
     refine⟨k+1,by omega,by go_num,?_⟩;rw[Cf.out];have h1:=Je.out.size;have h2:=UB.out;have h3:=E3.out.size;have h4:=K6.out.size;have h5:=K5.out.size;refine⟨⟨F2,M8.out.keeps K9.out fun x hx e=>kI.out (e▸hx),fun x h=>G2.out x (Ss.out x h),fun x h=>by rcases G3.out x h with h | h;exact GV.out x h;exact .inr (by omega)⟩,O9.out,?_⟩;have hq:∀ x,x<V.heap.size->¬F x->¬F2 x:=fun x h h6 e=>by rcases G3.out x e with h7 | h7;(rcases GV.out x h7 with h8 | h8;exact h6 h8;omega);omega
     have Qt:∀ x,x<V.heap.size->¬F x->¬F' x:=fun x h h6 e=>hq x h h6 (G2.out x e)
     exact Je.out.tr ((Qr.out.mono fun x hx=>⟨by have:=hx.1;omega,Qt x hx.1 hx.2.1⟩).tr ((E3.out.keeps.mono fun x hx=>by have:=hx.1;omega).tr ((K5.out.mono fun x hx=>⟨by have:=hx.1;omega,hq x hx.1 hx.2.1⟩).tr ((K6.out.mono fun x hx=>by have:=hx.1;omega).tr ((Uz.out.mono fun x hx=>⟨by have:=hx.1;omega,hq x hx.1 hx.2.1⟩).tr (K9.out.mono fun x hx=>hx.2.2))))))
    case measure=>simp[intOf];omega
  ·obtain rfl:k=N:=by omega
   have vQ:¬ ((k:Int)<k):=by omega
   obtain⟨hF',hO,hK⟩:=HI.out;rw[<-HST.out]at hF' hO;have My:=hid hF';have O3:=hid hO;have HK:=hid hK;have R3:Hid (ak wo (w.heap.size+1) (zeroV false) 131):=hid (R0.out.keeps hK ⟨R0.out.lt,fun e=>by have:=(HM.out.lt _ e).2;omega,by omega⟩);clear hF' hO hK HI;go_wp2_with (first | (refine aK rfl 131 (.tmp 6) rfl (w.heap.size+1+1) rfl (aq st.2) _ O3.out.range Tryz.underlying131 rfl (aR _) ?_) | (refine wpList_store_row rfl 131 (.tmp 4) (.tmp 56) rfl (w.heap.size+1) (aq st.2) rfl rfl 131 (zeroV false) R3.out (aR _) rfl (dE _) ?_;refine Hid.out ?_));refine hid ?_;obtain⟨V3,cg⟩:∃ W,W=wo.setRow (w.heap.size+1) (aq st.2):=⟨_,rfl⟩;rw[<-cg];have R9:Hid (ak V3 (w.heap.size+1) (aq st.2) 131):=by rw[cg];exact hid R3.out.setRow
   have K9:aa (· ≠w.heap.size+1) wo V3:=by rw[cg];exact aV _ _ _
   clear cg;go_wp2;obtain⟨m0,m1,m2,m3,m4,m5,m6,m7,m8,m9,m10,m11,m12,m13,m14⟩:=R9.out.part;refine bodyPost_ret (v:=.agg (aq st.2)) (by simp[results,Tryz.results146,aq,go_sem,m0,m1,m2,m3,m4,m5,m6,m7,m8,m9,m10,m11,m12,m13,m14]) rfl ⟨rfl,?_,?_,?_⟩
   ·obtain⟨F',h1,h2,h3⟩:=My.out
    exact⟨F',h1.keeps K9 fun x hx e=>by(rcases h3 x hx with h | h; · exact absurd (HM.out.lt x h).2 (by omega));omega,h2,fun x hx=>(h3 x hx).imp id fun h=>by omega⟩
   ·exact(E0.out.keeps.mono fun x hx=>hx.1).tr ((HK.out.mono fun x hx=>⟨by have:=hx.1;omega,hx.2,by have:=hx.1;omega⟩).tr (K9.mono fun x hx=>by have:=hx.1;omega))
   ·have:=K9.size;have:=HK.out.size;omega
def dL (M X:Nat):Array Value:= #[.func (.func 139) #[] #[],.func (.func 140) #[] #[],.func (.func 141) #[] #[.pointer (some ⟨X,0,none⟩)],.func (.func 142) #[] #[.pointer (some ⟨X,0,none⟩)],
 .func (.func 144) #[] #[.pointer (some ⟨X,0,none⟩)],.func (.func 146) #[.pointer (some ⟨M,0,none⟩)] #[],.func (.func 147) #[] #[.pointer (some ⟨X,0,none⟩)]]
theorem Jg (M:Nat) (w:World):Calls Tryz.prog 113 #[.pointer (some ⟨M,0,none⟩)] w fun e w'=>e=.returned (.agg (dL M w.heap.size))/\Ext w w'/\w'.cell? ⟨w.heap.size,0,none⟩=some (.pointer (some ⟨M,0,none⟩)):=by
 go_enter Tryz.func113,Tryz.ntmps113
 go_wp2;refine bC ?_;intro V hV;have R1:Hid (ak V (w.heap.size+1) (dL M w.heap.size) 172):=by
  rw[hV];exact hid (ak.at (ak.new _ _ _) (by simp))
 have B0:Hid (ak V w.heap.size #[.pointer (some ⟨M,0,none⟩)] 124):=by rw[hV];exact hid ((ak.new _ _ _).alloc _)
 have X1:Ext w V:=by rw[hV];exact((Ext.refl w).alloc _).alloc _
 clear hV;have m0:=R1.out.cell 0;have m1:=R1.out.cell 1;have m2:=R1.out.cell 2;have m3:=R1.out.cell 3;have m4:=R1.out.cell 4;have m5:=R1.out.cell 5;have m6:=R1.out.cell 6;simp only[dL,List.getElem?_toArray,List.getElem?_cons_zero,List.getElem?_cons_succ]at m0 m1 m2 m3 m4 m5 m6;refine bodyPost_ret (v:=.agg (dL M w.heap.size)) (by simp[results,Tryz.results113,dL,go_sem,m0,m1,m2,m3,m4,m5,m6]) rfl ⟨rfl,X1,B0.out.cell 0⟩
def Sv (base M:Nat) (F:Nat->Prop) (w:World) (m:GM) (p:GP) (e:Ending) (w':World):Prop:=
 e=.returned (.agg (aq p))/\(∃ F',eD base M F' w' m/\(∀ x,F x->F' x)/\∀ x,F' x->F x\/w.heap.size<=x)/\aa (fun x=>x<w.heap.size/\¬F x) w w'
def kF (k:Nat):FuncId:=if k=1 then 140 else if k=2 then 141 else if k=3 then 142 else if k=4 then 144 else if k=5 then 146 else 147
def YQ (k M X:Nat) (v:Value):Array Value:=if k=1 then #[v]else if k=5 then #[.pointer (some ⟨M,0,none⟩),v]else #[v,.pointer (some ⟨X,0,none⟩)]
def YR.tab (M n9:Nat):aO (Move false (fun _=>False)) where
 P:=fun v=>∃ X,v=.agg (dL M X)/\n9<=X
 H:=fun v W=>∀ X,v=.agg (dL M X)->X<W.heap.size/\W.cell? ⟨X,0,none⟩=some (.pointer (some ⟨M,0,none⟩))
 jX:=.agg (dL M n9)
 pw:=⟨n9,rfl,Nat.le_refl _⟩
 st:=fun _ _ _ hm _ h X e=>⟨Nat.lt_of_lt_of_le (h X e).1 hm.size,((aa.ah hm.below fun _ h=>h:aa (· <_) _ _).cell (p:=⟨X,0,none⟩) (h X e).1).trans (h X e).2⟩
theorem Fp {M X Y:Nat} (h:Value.agg (dL M X)=.agg (dL M Y)):X=Y:=by
 injection h with h
 have:=congrArg (fun a:Array Value=>a[2]?) h;simp[dL]at this;exact this
theorem jP (M X:Nat) (W:World): (Instr.index 172 (.agg (dL M X)) (.int .u8 1)).run Tryz.prog W=.ok (.func (.func 140) #[] #[]) W/\ (Instr.index 172 (.agg (dL M X)) (.int .u8 2)).run Tryz.prog W=.ok (.func (.func 141) #[] #[.pointer (some ⟨X,0,none⟩)]) W/\ (Instr.index 172 (.agg (dL M X)) (.int .u8 3)).run Tryz.prog W=.ok (.func (.func 142) #[] #[.pointer (some ⟨X,0,none⟩)]) W/\ (Instr.index 172 (.agg (dL M X)) (.int .u8 4)).run Tryz.prog W=.ok (.func (.func 144) #[] #[.pointer (some ⟨X,0,none⟩)]) W/\ (Instr.index 172 (.agg (dL M X)) (.int .u8 5)).run Tryz.prog W=.ok (.func (.func 146) #[.pointer (some ⟨M,0,none⟩)] #[]) W/\ (Instr.index 172 (.agg (dL M X)) (.int .u8 6)).run Tryz.prog W=.ok (.func (.func 147) #[] #[.pointer (some ⟨X,0,none⟩)]) W:=by refine⟨?_,?_,?_,?_,?_,?_⟩<;>simp[Instr.index,asIntOf,run_underlying Tryz.underlying172,part,Tryz.isAgg132,Tryz.sizeOf132,dL,go_sem]
theorem Fq (n0 base M:Nat) (F:Nat->Prop) (m m2:GM) (p2:GP) (k:Nat) (s:BS) (mn mx:Int) (l:List RX) (p:Option Addr) (n c:Nat) (w:World) (cN:n0<=base) (h:eD base M F w m) (hr:aG (· <n0) w (.agg (aj k s mn mx (.slice p n c))) (.nd k s mn mx l)) (h1:1<=k) (h6:k<=6) (HCl:∀ (W:World) (X:Nat),eD base M F W m->aG (· <n0) W (.agg (aj k s mn mx (.slice p n c))) (.nd k s mn mx l)->W.cell? ⟨X,0,none⟩=some (.pointer (some ⟨M,0,none⟩))->¬F X->Calls Tryz.prog (kF k) (YQ k M X (.agg (aj k s mn mx (.slice p n c)))) W (Sv base M F W m2 p2)): Calls Tryz.prog 68 #[.pointer (some ⟨M,0,none⟩),.agg (aj k s mn mx (.slice p n c))] w (iO base M F w m2 p2):=by
 have HM:=hid h;have HR:=hid hr;have HCL:=hid HCl;have Sl:M<w.heap.size:=(h.lt M h.fm).2;have YG:n0<=w.heap.size:=by have:=(h.lt M h.fm).1;omega
 clear h hr HCl;unfold aj;go_enter Tryz.func68,Tryz.ntmps68;go_upto_region 1 with fail
 refine au ?_;intro V hV;have N0:Hid (ak V w.heap.size (aj k s mn mx (.slice p n c)) 86):=by rw[hV];exact hid ((ak.new _ _ _).alloc _)
 have R0:Hid (ak V (w.heap.size+1) (zeroV false) 131):=by rw[hV];exact hid (ak.at (ak.new _ _ _) (by simp))
 have E0:Hid (Ext w V):=by rw[hV];exact hid (((Ext.refl w).alloc _).alloc _)
 have jZ:Hid (V.heap.size=w.heap.size+1+1):=hid (by rw[hV];simp);clear hV;have Bg:w.heap.size+1<V.heap.size:=by rw[jZ.out];omega
 have e0:V.cell? ⟨w.heap.size,0,none⟩=some (.int .u8 k):=N0.out.cell 0;have e1:V.cell? ⟨w.heap.size,1,none⟩=some (.int .u64 (wd s 0).toNat):=N0.out.cell 1;have e2:V.cell? ⟨w.heap.size,2,none⟩=some (.int .u64 (wd s 1).toNat):=N0.out.cell 2;have e3:V.cell? ⟨w.heap.size,3,none⟩=some (.int .u64 (wd s 2).toNat):=N0.out.cell 3;have e4:V.cell? ⟨w.heap.size,4,none⟩=some (.int .u64 (wd s 3).toNat):=N0.out.cell 4;have e5:V.cell? ⟨w.heap.size,5,none⟩=some (.int .i64 mn):=N0.out.cell 5;have e6:V.cell? ⟨w.heap.size,6,none⟩=some (.int .i64 mx):=N0.out.cell 6;have e7:V.cell? ⟨w.heap.size,7,none⟩=some (.slice p n c):=N0.out.cell 7;have Sw:w.heap.size<V.heap.size:=N0.out.lt;have hk:k=1\/k=2\/k=3\/k=4\/k=5\/k=6:=by omega
 clear h1 h6;rcases hk with rfl | rfl | rfl | rfl | rfl | rfl
 all_goals
  refine aA false (fun _=>False) (by kernel_rfl) 6 [0,1,0,4,15,0,63,127] (fun i=>i==1 || i==6 || i==7) (by kernel_rfl) (fun i=>if i=1 then YR.tab M w.heap.size else aO.any _) ?_;intro C hC hne;have HC:=hid hC;have f0:=ay hC (p:=⟨w.heap.size,0,none⟩) Sw (fun h=>h) e0;have f1:=ay hC (p:=⟨w.heap.size,1,none⟩) Sw (fun h=>h) e1;have f2:=ay hC (p:=⟨w.heap.size,2,none⟩) Sw (fun h=>h) e2;have f3:=ay hC (p:=⟨w.heap.size,3,none⟩) Sw (fun h=>h) e3;have f4:=ay hC (p:=⟨w.heap.size,4,none⟩) Sw (fun h=>h) e4;have f5:=ay hC (p:=⟨w.heap.size,5,none⟩) Sw (fun h=>h) e5;have f6:=ay hC (p:=⟨w.heap.size,6,none⟩) Sw (fun h=>h) e6;have f7:=ay hC (p:=⟨w.heap.size,7,none⟩) Sw (fun h=>h) e7;clear hC e0 e1 e2 e3 e4 e5 e6 e7
  repeat (refine ai (fun K hK=>?_);first | (refine br rfl ?_;try go_simp;refine hK _ _ ?_;clear hK K) | (refine aZ rfl rfl ?_;unfold ar;go_simp;refine hK _ _ ?_;clear hK K))
  refine ai (fun K hK=>?_);refine bA rfl rfl (YR.tab M w.heap.size) rfl (fun W hW hN=>?_) (fun v hv=>?_)
  ·have hM:=(HC.out W).1 hW
   clear hW hN hK K;go_simp;refine aT ((Jg M W).mono ?_);rintro e w' ⟨rfl,hx,hc⟩;have hz:=hM.size;exact⟨_,rfl,Move.ext hx,⟨_,rfl,by omega⟩,fun Y hY=>by have:=Fp hY;subst this;exact⟨World.block_lt_of_cell? _ _ hc,hc⟩⟩
  obtain⟨X,rfl,hXn⟩:=hv;have ix1:=fun W=>(jP M X W).1
  have ix2:=fun W=>(jP M X W).2.1
  have ix3:=fun W=>(jP M X W).2.2.1
  have ix4:=fun W=>(jP M X W).2.2.2.1
  have ix5:=fun W=>(jP M X W).2.2.2.2.1
  have ix6:=fun W=>(jP M X W).2.2.2.2.2
  go_simp;refine hK _ _ ?_;clear hK K
  repeat (refine ai (fun K hK=>?_);first | (refine br rfl ?_;try go_simp;refine hK _ _ ?_;clear hK K) | (refine aZ rfl rfl ?_;unfold ar;go_simp;refine hK _ _ ?_;clear hK K))
  refine aY (fun W hW hH=>?_);have ie:=(HC.out W).1 hW;obtain⟨hXl,hXc⟩:X<W.heap.size/\W.cell? ⟨X,0,none⟩=some (.pointer (some ⟨M,0,none⟩)):=(hH _ (List.mem_of_getElem? (show _=some _ from rfl:_[0]? =some _))) X rfl;have MW:Hid (eD base M F W m):=hid ((HM.out.keeps E0.out.keeps fun x hx=>(HM.out.lt x hx).2).keeps (aa.ah ie.below fun _ h=>h:aa (· <V.heap.size) V W) fun x hx=>by have:=(HM.out.lt x hx).2;omega);have IW:=hid ((HR.out.keeps E0.out.keeps fun x hx=>by omega).keeps (aa.ah ie.below fun _ h=>h:aa (· <V.heap.size) V W) fun x hx=>by omega);have RW:=hid (R0.out.below ie.below R0.out.lt);have KW:Hid (aa (· <w.heap.size) w W):=hid (E0.out.keeps.tr (aa.ah ie.below fun x hx=>by omega:aa (· <w.heap.size) V W));have vU:w.heap.size+1<W.heap.size:=by have:=ie.size;omega
  have hnX:¬F X:=fun e=>by have:=(HM.out.lt X e).2;omega
  have CC:=hid (HCL.out W X MW.out IW.out hXc hnX);clear ie hW hH HC hne f0 f1 f2 f3 f4 f5 f6 f7 MW IW HCL hXc ix1 ix2 ix3 ix4 ix5 ix6;go_wp2_with fail
  refine CC.out.mono ?_;rintro e w3 ⟨rfl,hF',hx⟩;have mE:∀ k,w.heap.size<=k->¬F k:=fun k hk e=>by have:=(HM.out.lt k e).2;omega
  have R3:Hid (ak w3 (w.heap.size+1) (zeroV false) 131):=hid (RW.out.keeps hx ⟨by omega,mE _ (by omega)⟩);have My:=hid hF';have HK:=hid hx;have hs3:=hx.size;clear hx hF' CC;go_wp2_with (refine wpList_store_row rfl 131 (.tmp 4) (.tmp 11) rfl (w.heap.size+1) (aq p2) rfl rfl 131 (zeroV false) R3.out (aR _) rfl (dE _) ?_;refine Hid.out ?_);refine hid ?_;obtain⟨V3,cg⟩:∃ W,W=w3.setRow (w.heap.size+1) (aq p2):=⟨_,rfl⟩;rw[<-cg];have R9:Hid (ak V3 (w.heap.size+1) (aq p2) 131):=by rw[cg];exact hid R3.out.setRow
  have K9:aa (· ≠w.heap.size+1) w3 V3:=by rw[cg];exact aV _ _ _
  clear cg;go_wp2;obtain⟨m0,m1,m2,m3,m4,m5,m6,m7,m8,m9,m10,m11,m12,m13,m14⟩:=R9.out.part;refine bodyPost_ret (v:=.agg (aq p2)) (by simp[results,Tryz.results68,aq,go_sem,m0,m1,m2,m3,m4,m5,m6,m7,m8,m9,m10,m11,m12,m13,m14]) rfl ⟨rfl,?_,?_,?_⟩
  ·obtain⟨F',h1,h2,h3⟩:=My.out
   refine⟨F',h1.keeps K9 fun x hx e=>by(rcases h3 x hx with h | h;exact mE _ (by omega) h;omega),h2,fun x hx=>(h3 x hx).imp id fun h=>by omega⟩
  ·exact(KW.out.mono fun x hx=>hx.1).tr ((HK.out.mono fun x hx=>⟨by have:=hx.1;omega,hx.2⟩).tr (K9.mono fun x hx=>by have:=hx.1;omega))
  ·have:=K9.size;omega
theorem iO.YS {base M:Nat} {F:Nat->Prop} {w:World} {m:GM} {p:GP} {e:Ending} {w':World} (h:iO base M F w m p e w'):Sv base M F w m p e w':=⟨h.1,h.2.1,h.2.2.1⟩
theorem mH {l:List RX} :∀ {t:RX},t∈l->t.size<=RX.sizes l:=by
 induction l with
 | nil=>intro t h;cases h
 | cons x l ih=>
  intro t h;rw[RX.sizes];rcases List.mem_cons.1 h with rfl | h
  ·omega
  ·have:=ih h;omega
theorem uj:∀ (l:List RX),l.length<=RX.sizes l
 | []=>Nat.zero_le _
 | t::l=>by rw[RX.sizes,List.length_cons];have:=size_pos t;have:=uj l;omega
theorem MP (n0:Nat) (t:RX):t.fine->t.size<=10000->Fl n0 t:=by
 induction t using RX.ind with
 | h k s mn mx l ih=>
  intro hf hs;obtain⟨hr,hl⟩:=kj.1 hf;obtain⟨_,q2,q3,q4,q5,q6,_⟩:=qz hr;rw[RX.size]at hs;have hlen:=uj l;have ih:∀ t∈l,Fl n0 t:=fun t ht=>ih t ht (hl t ht) (by have:=mH ht;omega)
  have uk:∀ t∈l,t.full=true:=fun t ht=>nO t (hl t ht)
  intro base M F m w v cN hm hv ok zN YT;obtain⟨p,c,rfl⟩:=hv.form;simp only[RX.kind,RX.set,RX.mn,RX.mx,RX.subs]at hv ⊢;refine Fq n0 base M F m _ _ k s mn mx l p _ c w cN hm hv (by omega) q4 fun W X hW YU hX BR=>?_
  have hk:k=1\/k=2\/k=3\/k=4\/k=5\/k=6:=by omega
  rcases hk with rfl | rfl | rfl | rfl | rfl | rfl
  ·have e:(RX.nd 1 s mn mx l).cE m=(m,⟨0,0,true⟩):=by rw[RX.cE];rfl
   rw[e];refine(Fg 1 s mn mx _ W).mono ?_;rintro e w' ⟨rfl,hx⟩;exact⟨by show _=Ending.returned (.agg (aq ⟨0,0,true⟩));rw[gu],⟨F,hW.keeps hx fun x h=>(hW.lt x h).2,fun _ h=>h,fun _ h=>.inl h⟩,hx.mono fun _ h=>h.1⟩
  ·have e:(RX.nd 2 s mn mx l).cE m=(⟨m.az++ [s],m.bJ++ [0]⟩,⟨dK m.az.length,dK m.az.length,false⟩):=by rw[RX.cE];rfl
   rw[e];have hc1:(RX.nd 2 s mn mx l).cnt=1:=by rw[RX.cnt];rfl
   exact(Fi base M F m s mn mx _ X W hW hX BR zN (by omega)).mono fun e w' h=>h
  ·have e:(RX.nd 3 s mn mx l).cE m=RX.gR l (m,⟨0,0,true⟩):=by rw[RX.cE];rfl
   have hc1:(RX.nd 3 s mn mx l).cnt=RX.fg l:=by rw[RX.cnt];rfl
   rw[e];exact(MH n0 base M F m 3 s mn mx l p _ c X W cN hW YU ih uk hX BR ok zN (by omega) (by omega)).mono fun e w' h=>h.YS
  ·have e:(RX.nd 4 s mn mx l).cE m=RX.eP l (m,⟨0,0,false⟩):=by rw[RX.cE];rfl
   have hc1:(RX.nd 4 s mn mx l).cnt=RX.fg l:=by rw[RX.cnt];rfl
   rw[e];exact(MD n0 base M F m 4 s mn mx l p _ c X W cN hW YU ih uk hX BR ok zN (by omega) (by omega)).mono fun e w' h=>h.YS
  ·have hb:=q6 rfl
   obtain⟨g1,g2,g3⟩:=rz hb;obtain⟨t,l',rfl⟩:∃ t l',l=t::l':=by
    cases l with
    | nil=>have:=q5 (.inl rfl);simp at this
    | cons t l'=>exact⟨t,l',rfl⟩
   have e:(RX.nd 5 s mn mx (t::l')).cE m=di mn mx (fun m=>t.cE m) m (dX mn mx):=by rw[RX.cE];show RX.Yn mn mx (t::l') m=_;rw[RX.Yn]
   have hc1:(RX.nd 5 s mn mx (t::l')).cnt=dX mn mx*t.cnt:=by rw[RX.cnt];show dX mn mx*RX.cnt1 (t::l')=_;rw[RX.cnt1]
   rw[e];have hmx:mx= -1\/(1<=mx/\mx≠ -1):=by
    unfold gI at hb;split at hb
    ·cases hb
    ·simp at hb
     omega
   rcases hmx with rfl | ⟨hmx,hne⟩
   ·refine(YF n0 base M F m 5 s mn (dX mn (-1)) t l' p _ c W cN hW YU (ih t (List.mem_cons_self ..)) (uk t (List.mem_cons_self ..)) ok zN ?_ g3 rfl (by omega)).mono fun e w' h=>h.YS
    unfold dX;rw[if_pos rfl];omega
   ·obtain⟨N,rfl⟩:∃ N:Nat,mx=N:=⟨mx.toNat,by omega⟩
    have hN:dX mn (N:Int)=N:=by unfold dX;rw[if_neg hne];simp
    rw[hN]at g3 hc1 ⊢;exact(YP n0 base M F m 5 s mn N t l' p _ c W cN hW YU (ih t (List.mem_cons_self ..)) (uk t (List.mem_cons_self ..)) ok zN (by omega) g3 hN (by omega)).mono fun e w' h=>h.YS
  ·obtain⟨t,l',rfl⟩:∃ t l',l=t::l':=by
    cases l with
    | nil=>have:=q5 (.inr rfl);simp at this
    | cons t l'=>exact⟨t,l',rfl⟩
   have e:(RX.nd 6 s mn mx (t::l')).cE m=t.cE m:=by rw[RX.cE];show RX.Yo (t::l') m=_;rw[RX.Yo]
   have hc1:(RX.nd 6 s mn mx (t::l')).cnt=t.cnt:=by rw[RX.cnt];show RX.cnt1 (t::l')=_;rw[RX.cnt1]
   rw[e];exact(Qm n0 base M F m 6 s mn mx t l' p _ c X W cN hW YU (ih t (List.mem_cons_self ..)) hX BR ok zN (by omega)).mono fun e w' h=>h.YS
end Go.Proofs.YtbiboekhakbnpaaGreatDoor
