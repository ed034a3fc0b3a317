/- rx.nodes: the iterator over the nodes of a tree. -/
import Derived.Test.YtalombmiochpmaaGreatDoorOR22
set_option maxRecDepth 100000
set_option maxHeartbeats 16000000
open Go.Lib (hid)
namespace Go.Proofs.YtalombmiochpmaaGreatDoor
open Go Go.RowKit Go.Shelf Go.Maps
theorem afe (n0 base M:Nat) (F:Nat->Prop) (m:GM) (k0:Nat) (s:BS) (mn:Int) (N:Nat) (t:RX) (l:List RX) (p:Option Addr) (n c:Nat) (w:World) (dD:n0<=base) (h:gM base M F w m) (hr:aL (· <n0) w (.agg (au k0 s mn (N:Int) (.slice p n c))) (.nd k0 s mn (N:Int) (t::l))) (ht:Lk n0 t) (hf:t.full=true) (ok:m.ok) (hm:m.cN.length=m.aM.length) (hN:1<=N) (akb:N<=16) (hG:fF mn (N:Int)=N) (hn:m.aM.length+N*t.cnt<=448): Calls Tryz.prog 133 #[.pointer (some ⟨M,0,none⟩),.agg (au k0 s mn (N:Int) (.slice p n c))] w (kO base M F w (en mn (N:Int) (fun m=>t.dL m) m N).1 (en mn (N:Int) (fun m=>t.dL m) m N).2):=by
 have hlen:n=l.length+1:=by obtain⟨p2,c2,e⟩:=hr.form;simp[au,RX.subs,RX.kind,RX.set,RX.mn,RX.mx]at e;exact e.2.1
 have gR:0<n:=by omega
 obtain⟨b,off,p',c',rfl,hb,rK,lZ,⟨e0,e1,e2,e3,e4,e5,e6,e7⟩,hrt⟩:=hr.elem (i:=0) (t:=t) rfl;simp only[Nat.zero_mul,Nat.add_zero]at e0 e1 e2 e3 e4 e5 e6 e7;have HM:=hid h;have WU:=hid hrt;have HT:=hid ht;have Vh:=hid hf;have oD:=hid ok;have HGG:=hid hG;have MP:=hid hm;have EE:=hid (And.intro e0 (And.intro e1 (And.intro e2 (And.intro e3 (And.intro e4 (And.intro e5 (And.intro e6 e7)))))));have YF:M<w.heap.size:=(h.lt M h.fm).2;have ae7:n0<=w.heap.size:=by have:=(h.lt M h.fm).1;omega
 have zr:¬F b:=fun e=>by have:=(h.lt b e).1;omega
 obtain⟨st,hst⟩:∃ st,st=en mn (N:Int) (fun m=>t.dL m) m N:=⟨_,rfl⟩;rw[<-hst];have HST:=hid hst;have HMU:=hid hn;clear h hr hrt ht hf ok hm hlen hst hG e0 e1 e2 e3 e4 e5 e6 e7 hn;have hmx:¬ ((N:Int)= -1):=by omega
 have arV:((N:Int)== -1)=false:=by simp[hmx]
 unfold au;go_enter Tryz.func133,Tryz.ntmps133;go_upto_region 5 with fail
 refine aw ?_;intro V hV;have N0:Hid (ah V w.heap.size #[.int .u8 k0,.int .u64 (wd s 0).toNat,.int .u64 (wd s 1).toNat,.int .u64 (wd s 2).toNat,.int .u64 (wd s 3).toNat,.int .i64 mn,.int .i64 (N:Int),.slice (some ⟨b,off,none⟩) n c] 62):=by rw[hV];exact hid (((ah.new _ _ _).alloc _).alloc _)
 have R0:Hid (ah V (w.heap.size+1) (zeroV false) 139):=by rw[hV];exact hid ((ah.at (ah.new _ _ _) (by simp)).alloc _)
 have O0:Hid (ah V (w.heap.size+1+1) (zeroV true) 139):=by rw[hV];exact hid (ah.at (ah.new _ _ _) (by simp))
 have E0:Hid (Ext w V):=by rw[hV];exact hid ((((Ext.refl w).alloc _).alloc _).alloc _)
 have nB:Hid (V.heap.size=w.heap.size+1+1+1):=hid (by rw[hV];simp);clear hV;have H7:w.heap.size+1+1<V.heap.size:=by rw[nB.out];omega
 have MV:Hid (gM base M F V m):=hid (HM.out.keeps E0.out.keeps fun x hx=>(HM.out.lt x hx).2);go_wp2;go_loopw [18] (fun iv W=>∃ k:Nat,k<=N/\iv=.int .i64 k/\WV base M F (en mn (N:Int) (fun m=>t.dL m) m k) (w.heap.size+1+1) V W) (fun iv _=>N-(intOf iv).toNat);case atStart=>
  refine⟨0,by omega,rfl,?_⟩;exact⟨⟨F,MV.out,fun _ h=>h,fun _ h=>.inl h⟩,by show ah _ _ (ax ⟨0,0,true⟩) _;rw[jq];exact O0.out,aa.refl _ _⟩
 case round=>
  obtain⟨k,hk,rfl,hI⟩:=hrel;obtain⟨wo,rfl⟩:∃ wo:World,wo=wr:=⟨_,rfl⟩;have HI:=hid hI;clear hI;by_cases hlt:k<N
  ·have gz:(k:Int)<N:=by omega
   obtain⟨⟨F',yD,Pd,hF2⟩,hO,Iw⟩:=HI.out;have bQ:=Iy Vh.out oD.out mn (N:Int) k;have oA:=qh t Vh.out _ bQ.ok;have qL:en mn (N:Int) (fun m=>t.dL m) m (k+1)=EU mn (N:Int) k (en mn (N:Int) (fun m=>t.dL m) m k).2 (t.dL (en mn (N:Int) (fun m=>t.dL m) m k).1):=rfl;have hmul:(k+1)*t.cnt<=N*t.cnt:=Nat.mul_le_mul_right _ hlt;have TB:(k+1)*t.cnt=k*t.cnt+t.cnt:=Nat.succ_mul _ _;have hmu:=HMU.out;obtain⟨sk,hsk⟩:∃ sk,sk=en mn (N:Int) (fun m=>t.dL m) m k:=⟨_,rfl⟩;rw[<-hsk]at hO yD qL bQ oA;obtain⟨m2,p2,wZ⟩:∃ m2 p2,t.dL sk.1=(m2,p2):=⟨_,_,rfl⟩;rw[wZ]at qL oA;have qK:=oA.len;have hl2:=bQ.len;have Fg:=oA.ok.len;have hgp:=oA.gp;dsimp only at qK Fg hgp;have JC:Hid (dM sk.2.dh m2.cN.length):=hid (bQ.gp.dh.mono (by omega));have HP2:Hid (dM p2.dh m2.cN.length):=hid (hgp.dh.mono (by omega));have Ba:Hid (m2.cN.length<=448):=hid (by omega);have CM:Hid (∀ W,gM base M F' W sk.1->aL (· <n0) W (.agg (au t.kind t.set t.mn t.mx (.slice p' t.subs.length c'))) t->Calls Tryz.prog 77 #[.pointer (some ⟨M,0,none⟩),.agg (au t.kind t.set t.mn t.mx (.slice p' t.subs.length c'))] W (kO base M F' W m2 p2)):=hid fun W h1 h2=>by
    have:=HT.out base M F' sk.1 W _ dD h1 h2 bQ.ok bQ.ok.len (by omega);rw[wZ]at this;exact this
   have WW:=hid qL;have Tz:¬F' (w.heap.size+1+1):=fun e=>by rcases hF2 _ e with h | h;exact absurd (HM.out.lt _ h).2 (by omega);omega
   have hnN:¬F' w.heap.size:=fun e=>by rcases hF2 _ e with h | h;exact absurd (HM.out.lt _ h).2 (by omega);omega
   have KO:Hid (aa (fun x=>x<w.heap.size/\¬F x) w wo):=hid ((E0.out.keeps.mono fun x hx=>hx.1).tr (Iw.mono fun x hx=>⟨by have:=hx.1;omega,hx.2,by have:=hx.1;omega⟩));have Yl:=Iw.size;have NO:Hid (ah wo w.heap.size #[.int .u8 k0,.int .u64 (wd s 0).toNat,.int .u64 (wd s 1).toNat,.int .u64 (wd s 2).toNat,.int .u64 (wd s 3).toNat,.int .i64 mn,.int .i64 (N:Int),.slice (some ⟨b,off,none⟩) n c] 62):=hid (N0.out.keeps Iw ⟨by omega,fun e=>by have:=(HM.out.lt _ e).2;omega,by omega⟩);have O1:=hid hO;have M1:=hid yD;have R1:Hid (aL (· <n0) wo (.agg (au t.kind t.set t.mn t.mx (.slice p' t.subs.length c'))) t):=hid (WU.out.keeps KO.out fun x hx=>⟨by omega,fun e=>by have:=(HM.out.lt x e).1;omega⟩);have ec:∀ (o:Nat) (u:Value),w.cell? ⟨b,o,none⟩=some u->wo.cell? ⟨b,o,none⟩=some u:=fun o u h=>(KO.out.cell (p:=⟨b,o,none⟩) ⟨rK,zr⟩).trans h
   obtain⟨e0,e1,e2,e3,e4,e5,e6,e7⟩:=EE.out;replace e0:=ec _ _ e0;replace e1:=ec _ _ e1;replace e2:=ec _ _ e2;replace e3:=ec _ _ e3;replace e4:=ec _ _ e4;replace e5:=ec _ _ e5;replace e6:=ec _ _ e6;replace e7:=ec _ _ e7;have n5:wo.cell? ⟨w.heap.size,5,none⟩=some (.int .i64 mn):=NO.out.cell 5;have n6:wo.cell? ⟨w.heap.size,6,none⟩=some (.int .i64 (N:Int)):=NO.out.cell 6;have n7:wo.cell? ⟨w.heap.size,7,none⟩=some (.slice (some ⟨b,off,none⟩) n c):=NO.out.cell 7;have YJ:=hid Pd;have JD:=hid hF2;have Pe:=hid Iw;have wF:=hid Tz;have vu:=hid hnN;have Mx:=hid (CM.out wo M1.out R1.out);clear qL wZ hsk hO yD Pd hF2 Iw Tz hnN HI bQ oA qK hl2 Fg hgp hmul TB hmu ec CM M1 R1;go_wp2_with fail
   refine Mx.out.mono ?_;rintro e w2 ⟨rfl,hF'',hx,hsz⟩;have hOl:w.heap.size+1+1<wo.heap.size:=O1.out.lt;have O2:=hid (O1.out.keeps hx ⟨O1.out.lt,wF.out⟩);have N2:=hid (NO.out.keeps hx ⟨NO.out.lt,vu.out⟩);obtain⟨F2,g1,g2,g3⟩:=hF'';have jB:¬F2 (w.heap.size+1+1):=fun e=>by rcases g3 _ e with h | h;exact wF.out h;omega
   have TC:¬F2 w.heap.size:=fun e=>by rcases g3 _ e with h | h;exact vu.out h;omega
   have M2:=hid g1;have G2:=hid g2;have G3:=hid g3;have j9:=hid jB;have ae9:=hid TC;have WX:=hid hx;have Vj:=hid hsz;clear hx g1 g2 g3 jB TC hsz Mx O1 NO e0 e1 e2 e3 e4 e5 e6 e7 n5 n6 n7;unfold ax;go_upto_region 9 with fail
   refine aw ?_;intro W3 hW3;have X3:Hid (ah W3 w2.heap.size (ax p2) 139):=by rw[hW3];exact hid (ah.new _ _ _)
   have E3:Hid (Ext w2 W3):=by rw[hW3];exact hid ((Ext.refl w2).alloc _)
   have O3:=hid (O2.out.ext E3.out);have N3:=hid (N2.out.ext E3.out);have M3:Hid (gM base M F2 W3 m2):=hid (M2.out.keeps E3.out.keeps fun x hx=>(M2.out.lt x hx).2);have hx2:¬F2 w2.heap.size:=fun e=>by have:=(M2.out.lt _ e).2;omega
   have gP:=hid hx2;clear hW3 hx2 O2 N2;have n5:W3.cell? ⟨w.heap.size,5,none⟩=some (.int .i64 mn):=N3.out.cell 5;have n6:W3.cell? ⟨w.heap.size,6,none⟩=some (.int .i64 (N:Int)):=N3.out.cell 6;obtain⟨a0,a1,a2,a3,a4,a5,a6,a7,a8,a9,lD,lF,a12,lG,jZ⟩:=X3.out.part
   try dsimp only at a0 a1 a2 a3 a4 a5 a6 a7 a8 a9 lD lF a12 lG jZ
   obtain⟨m4,Gm⟩:∃ m4,m4=m2:=⟨_,rfl⟩;obtain⟨W5,hW5⟩:∃ W5,W5=W3:=⟨_,rfl⟩;have K5:Hid (aa (fun x=>x<W3.heap.size/\¬F2 x) W3 W3):=hid (aa.refl _ _);have X5:=X3;have O5:=O3;have M5:Hid (gM base M F2 W3 m4):=hid (by rw[Gm];exact M3.out);have P5:Hid (dM sk.2.dh m4.cN.length/\m4.cN.length<=448):=hid (by rw[Gm];exact⟨JC.out,Ba.out⟩);have HM4:=hid Gm;clear Gm W5 hW5;obtain⟨eb,Ll⟩:∃ eb,eb=p2.emp:=⟨_,rfl⟩;rw[<-Ll]at jZ;have HEB:=hid Ll;clear Ll;have TE:W3.frozen? ⟨w2.heap.size,14,none⟩=false:=X5.out.frozen 14;cases eb;all_goals
    go_upto_region 12 with fail
    refine aw ?_;intro W6 xD;obtain⟨e6,TF⟩:∃ e6,e6=(p2.emp || decide (mn<=(k:Int))):=⟨_,rfl⟩;obtain⟨p6,TG⟩:∃ p6:GP,p6=⟨p2.fst,p2.dh,e6⟩:=⟨_,rfl⟩;have X6:Hid (ah W6 w2.heap.size (ax p6) 139):=by rw[TG,xD,TF, <-HEB.out];exact hid (X5.out.set 14 _)
    have K6:Hid (aa (· ≠w2.heap.size) W3 W6):=by rw[xD];exact hid ((aa.refl (· ≠w2.heap.size) _).setCell (p:=⟨w2.heap.size,14,none⟩) (fun h=>h rfl) _)
    have O6:=hid (O5.out.keeps K6.out (by have:=O3.out.lt;have:=Vj.out;omega));have M6:Hid (gM base M F2 W6 m4):=hid (M5.out.keeps K6.out fun x hx e=>gP.out (e▸hx))
    try clear n6
    clear xD n5 a0 a1 a2 a3 a4 a5 a6 a7 a8 a9 lD lF a12 lG jZ TE;have HE6:=hid TF;clear TF;have HP6:=hid TG;clear TG;have CT:Hid (Calls Tryz.prog 130 #[.pointer (some ⟨M,0,none⟩),.agg (ax sk.2),.agg (ax p6)] W6 fun e w'=>e=.returned (.agg (ax (cV m4 sk.2 p6).2))/\gM base M F2 w' (cV m4 sk.2 p6).1/\aa (fun x=>x<W6.heap.size/\¬F2 x) W6 w'):=hid (rh base M F2 m4 sk.2 p6 W6 M6.out P5.out.1 P5.out.2);have sY:en mn (N:Int) (fun m=>t.dL m) m (k+1)=cV m4 sk.2 p6:=by
     rw[WW.out,HP6.out,HE6.out];unfold EU;rw[if_neg (fun h=>hmx h.1), <-HM4.out]
    have Iz:=hid sY;clear sY;obtain⟨m7,p7,IC⟩:∃ m7 p7,cV m4 sk.2 p6=(m7,p7):=⟨_,_,rfl⟩;rw[IC]at CT Iz;dsimp only at CT;clear IC;go_wp2_with (first | (refine bD rfl 139 (.tmp 6) rfl (w.heap.size+1+1) rfl (ax sk.2) _ O6.out.range Tryz.underlying139 rfl (bJ _) ?_) | (refine bD rfl 139 (.tmp 8) rfl w2.heap.size rfl (ax p6) _ X6.out.range Tryz.underlying139 rfl (bJ _) ?_));refine CT.out.mono ?_;rintro e w8 ⟨rfl,hF3,hx⟩;have O8:=hid (O6.out.keeps hx ⟨O6.out.lt,j9.out⟩);have M8:=hid hF3;have HKy:=hid hx;clear hx hF3 CT;go_wp2_with (refine wpList_store_row rfl 139 (.tmp 6) (.tmp 54) rfl (w.heap.size+1+1) (ax p7) rfl rfl 139 (ax sk.2) O8.out (bJ _) rfl (eM _) ?_;refine Hid.out ?_);refine hid ?_;obtain⟨W9,dK⟩:∃ W,W=w8.setRow (w.heap.size+1+1) (ax p7):=⟨_,rfl⟩;rw[<-dK];have O9:Hid (ah W9 (w.heap.size+1+1) (ax p7) 139):=by rw[dK];exact hid O8.out.setRow
    have K9:Hid (aa (· ≠w.heap.size+1+1) w8 W9):=by rw[dK];exact hid (bP _ _ _)
    clear dK;go_wp2;go_roundw;case rel=>
     refine⟨k+1,by omega,by go_num,?_⟩;rw[Iz.out];have h1:=Pe.out.size;have h2:=Vj.out;have h3:=E3.out.size;have h4:=K6.out.size;have h5:=K5.out.size;refine⟨⟨F2,M8.out.keeps K9.out fun x hx e=>j9.out (e▸hx),fun x h=>G2.out x (YJ.out x h),fun x h=>by rcases G3.out x h with h | h;exact JD.out x h;exact .inr (by omega)⟩,O9.out,?_⟩;have hq:∀ x,x<V.heap.size->¬F x->¬F2 x:=fun x h h6 e=>by rcases G3.out x e with h7 | h7;(rcases JD.out x h7 with h8 | h8;exact h6 h8;omega);omega
     have RB:∀ x,x<V.heap.size->¬F x->¬F' x:=fun x h h6 e=>hq x h h6 (G2.out x e)
     exact Pe.out.tr ((WX.out.mono fun x hx=>⟨by have:=hx.1;omega,RB x hx.1 hx.2.1⟩).tr ((E3.out.keeps.mono fun x hx=>by have:=hx.1;omega).tr ((K5.out.mono fun x hx=>⟨by have:=hx.1;omega,hq x hx.1 hx.2.1⟩).tr ((K6.out.mono fun x hx=>by have:=hx.1;omega).tr ((HKy.out.mono fun x hx=>⟨by have:=hx.1;omega,hq x hx.1 hx.2.1⟩).tr (K9.out.mono fun x hx=>hx.2.2))))))
    case measure=>simp[intOf];omega
  ·obtain rfl:k=N:=by omega
   have KD:¬ ((k:Int)<k):=by omega
   obtain⟨hF',hO,hK⟩:=HI.out;rw[<-HST.out]at hF' hO;have Tv:=hid hF';have O3:=hid hO;have HK:=hid hK;have R3:Hid (ah wo (w.heap.size+1) (zeroV false) 139):=hid (R0.out.keeps hK ⟨R0.out.lt,fun e=>by have:=(HM.out.lt _ e).2;omega,by omega⟩);clear hF' hO hK HI;go_wp2_with (first | (refine bD rfl 139 (.tmp 6) rfl (w.heap.size+1+1) rfl (ax st.2) _ O3.out.range Tryz.underlying139 rfl (bJ _) ?_) | (refine wpList_store_row rfl 139 (.tmp 4) (.tmp 56) rfl (w.heap.size+1) (ax st.2) rfl rfl 139 (zeroV false) R3.out (bJ _) rfl (eM _) ?_;refine Hid.out ?_));refine hid ?_;obtain⟨V3,di⟩:∃ W,W=wo.setRow (w.heap.size+1) (ax st.2):=⟨_,rfl⟩;rw[<-di];have R9:Hid (ah V3 (w.heap.size+1) (ax st.2) 139):=by rw[di];exact hid R3.out.setRow
   have K9:aa (· ≠w.heap.size+1) wo V3:=by rw[di];exact bP _ _ _
   clear di;go_wp2;obtain⟨m0,m1,m2,m3,m4,m5,m6,m7,m8,m9,m10,m11,m12,m13,m14⟩:=R9.out.part;refine bodyPost_ret (v:=.agg (ax st.2)) (by simp[results,Tryz.results133,ax,go_sem,m0,m1,m2,m3,m4,m5,m6,m7,m8,m9,m10,m11,m12,m13,m14]) rfl ⟨rfl,?_,?_,?_⟩
   ·obtain⟨F',h1,h2,h3⟩:=Tv.out
    exact⟨F',h1.keeps K9 fun x hx e=>by(rcases h3 x hx with h | h; · exact absurd (HM.out.lt x h).2 (by omega));omega,h2,fun x hx=>(h3 x hx).imp id fun h=>by omega⟩
   ·exact(E0.out.keeps.mono fun x hx=>hx.1).tr ((HK.out.mono fun x hx=>⟨by have:=hx.1;omega,hx.2,by have:=hx.1;omega⟩).tr (K9.mono fun x hx=>by have:=hx.1;omega))
   ·have:=K9.size;have:=HK.out.size;omega
def fg (M X:Nat):Array Value:= #[.func (.func 125) #[] #[],.func (.func 126) #[] #[],.func (.func 127) #[] #[.pointer (some ⟨X,0,none⟩)],.func (.func 129) #[] #[.pointer (some ⟨X,0,none⟩)],
 .func (.func 131) #[] #[.pointer (some ⟨X,0,none⟩)],.func (.func 133) #[.pointer (some ⟨M,0,none⟩)] #[],.func (.func 134) #[] #[.pointer (some ⟨X,0,none⟩)]]
theorem Pf (M:Nat) (w:World):Calls Tryz.prog 99 #[.pointer (some ⟨M,0,none⟩)] w fun e w'=>e=.returned (.agg (fg M w.heap.size))/\Ext w w'/\w'.cell? ⟨w.heap.size,0,none⟩=some (.pointer (some ⟨M,0,none⟩)):=by
 go_enter Tryz.func99,Tryz.ntmps99
 go_wp2;refine bB ?_;intro V hV;have R1:Hid (ah V (w.heap.size+1) (fg M w.heap.size) 165):=by
  rw[hV];exact hid (ah.at (ah.new _ _ _) (by simp))
 have B0:Hid (ah V w.heap.size #[.pointer (some ⟨M,0,none⟩)] 132):=by rw[hV];exact hid ((ah.new _ _ _).alloc _)
 have X1:Ext w V:=by rw[hV];exact((Ext.refl w).alloc _).alloc _
 clear hV;have m0:=R1.out.cell 0;have m1:=R1.out.cell 1;have m2:=R1.out.cell 2;have m3:=R1.out.cell 3;have m4:=R1.out.cell 4;have m5:=R1.out.cell 5;have m6:=R1.out.cell 6;simp only[fg,List.getElem?_toArray,List.getElem?_cons_zero,List.getElem?_cons_succ]at m0 m1 m2 m3 m4 m5 m6;refine bodyPost_ret (v:=.agg (fg M w.heap.size)) (by simp[results,Tryz.results99,fg,go_sem,m0,m1,m2,m3,m4,m5,m6]) rfl ⟨rfl,X1,B0.out.cell 0⟩
def YM (base M:Nat) (F:Nat->Prop) (w:World) (m:GM) (p:GP) (e:Ending) (w':World):Prop:=
 e=.returned (.agg (ax p))/\(∃ F',gM base M F' w' m/\(∀ x,F x->F' x)/\∀ x,F' x->F x\/w.heap.size<=x)/\aa (fun x=>x<w.heap.size/\¬F x) w w'
def kF (k:Nat):FuncId:=if k=1 then 126 else if k=2 then 127 else if k=3 then 129 else if k=4 then 131 else if k=5 then 133 else 134
def aff (k M X:Nat) (v:Value):Array Value:=if k=1 then #[v]else if k=5 then #[.pointer (some ⟨M,0,none⟩),v]else #[v,.pointer (some ⟨X,0,none⟩)]
def afg.tab (M n9:Nat):aH (Move false (fun _=>False)) where
 P:=fun v=>∃ X,v=.agg (fg M X)/\n9<=X
 H:=fun v W=>∀ X,v=.agg (fg M X)->X<W.heap.size/\W.cell? ⟨X,0,none⟩=some (.pointer (some ⟨M,0,none⟩))
 oI:=.agg (fg M n9)
 pw:=⟨n9,rfl,Nat.le_refl _⟩
 st:=fun _ _ _ hm _ h X e=>⟨Nat.lt_of_lt_of_le (h X e).1 hm.size,((aa.ag hm.below fun _ h=>h:aa (· <_) _ _).cell (p:=⟨X,0,none⟩) (h X e).1).trans (h X e).2⟩
theorem Lm {M X Y:Nat} (h:Value.agg (fg M X)=.agg (fg M Y)):X=Y:=by
 injection h with h
 have:=congrArg (fun a:Array Value=>a[2]?) h;simp[fg]at this;exact this
theorem mX (M X:Nat) (W:World): (Instr.index 165 (.agg (fg M X)) (.int .u8 1)).run Tryz.prog W=.ok (.func (.func 126) #[] #[]) W/\ (Instr.index 165 (.agg (fg M X)) (.int .u8 2)).run Tryz.prog W=.ok (.func (.func 127) #[] #[.pointer (some ⟨X,0,none⟩)]) W/\ (Instr.index 165 (.agg (fg M X)) (.int .u8 3)).run Tryz.prog W=.ok (.func (.func 129) #[] #[.pointer (some ⟨X,0,none⟩)]) W/\ (Instr.index 165 (.agg (fg M X)) (.int .u8 4)).run Tryz.prog W=.ok (.func (.func 131) #[] #[.pointer (some ⟨X,0,none⟩)]) W/\ (Instr.index 165 (.agg (fg M X)) (.int .u8 5)).run Tryz.prog W=.ok (.func (.func 133) #[.pointer (some ⟨M,0,none⟩)] #[]) W/\ (Instr.index 165 (.agg (fg M X)) (.int .u8 6)).run Tryz.prog W=.ok (.func (.func 134) #[] #[.pointer (some ⟨X,0,none⟩)]) W:=by refine⟨?_,?_,?_,?_,?_,?_⟩<;>simp[Instr.index,asIntOf,run_underlying Tryz.underlying165,part,Tryz.isAgg140,Tryz.sizeOf140,fg,go_sem]
theorem Ln (n0 base M:Nat) (F:Nat->Prop) (m m2:GM) (p2:GP) (k:Nat) (s:BS) (mn mx:Int) (l:List RX) (p:Option Addr) (n c:Nat) (w:World) (dD:n0<=base) (h:gM base M F w m) (hr:aL (· <n0) w (.agg (au k s mn mx (.slice p n c))) (.nd k s mn mx l)) (h1:1<=k) (h6:k<=6) (HCl:∀ (W:World) (X:Nat),gM base M F W m->aL (· <n0) W (.agg (au k s mn mx (.slice p n c))) (.nd k s mn mx l)->W.cell? ⟨X,0,none⟩=some (.pointer (some ⟨M,0,none⟩))->¬F X->Calls Tryz.prog (kF k) (aff k M X (.agg (au k s mn mx (.slice p n c)))) W (YM base M F W m2 p2)): Calls Tryz.prog 77 #[.pointer (some ⟨M,0,none⟩),.agg (au k s mn mx (.slice p n c))] w (kO base M F w m2 p2):=by
 have HM:=hid h;have HR:=hid hr;have WZ:=hid HCl;have YF:M<w.heap.size:=(h.lt M h.fm).2;have ae7:n0<=w.heap.size:=by have:=(h.lt M h.fm).1;omega
 clear h hr HCl;unfold au;go_enter Tryz.func77,Tryz.ntmps77;go_upto_region 1 with fail
 refine aw ?_;intro V hV;have N0:Hid (ah V w.heap.size (au k s mn mx (.slice p n c)) 62):=by rw[hV];exact hid ((ah.new _ _ _).alloc _)
 have R0:Hid (ah V (w.heap.size+1) (zeroV false) 139):=by rw[hV];exact hid (ah.at (ah.new _ _ _) (by simp))
 have E0:Hid (Ext w V):=by rw[hV];exact hid (((Ext.refl w).alloc _).alloc _)
 have nB:Hid (V.heap.size=w.heap.size+1+1):=hid (by rw[hV];simp);clear hV;have H7:w.heap.size+1<V.heap.size:=by rw[nB.out];omega
 have e0:V.cell? ⟨w.heap.size,0,none⟩=some (.int .u8 k):=N0.out.cell 0;have e1:V.cell? ⟨w.heap.size,1,none⟩=some (.int .u64 (wd s 0).toNat):=N0.out.cell 1;have e2:V.cell? ⟨w.heap.size,2,none⟩=some (.int .u64 (wd s 1).toNat):=N0.out.cell 2;have e3:V.cell? ⟨w.heap.size,3,none⟩=some (.int .u64 (wd s 2).toNat):=N0.out.cell 3;have e4:V.cell? ⟨w.heap.size,4,none⟩=some (.int .u64 (wd s 3).toNat):=N0.out.cell 4;have e5:V.cell? ⟨w.heap.size,5,none⟩=some (.int .i64 mn):=N0.out.cell 5;have e6:V.cell? ⟨w.heap.size,6,none⟩=some (.int .i64 mx):=N0.out.cell 6;have e7:V.cell? ⟨w.heap.size,7,none⟩=some (.slice p n c):=N0.out.cell 7;have YN:w.heap.size<V.heap.size:=N0.out.lt;have hk:k=1\/k=2\/k=3\/k=4\/k=5\/k=6:=by omega
 clear h1 h6;rcases hk with rfl | rfl | rfl | rfl | rfl | rfl
 all_goals
  refine aD false (fun _=>False) (by kernel_rfl) 6 [0,1,0,4,15,0,63,127] (fun i=>i==1 || i==6 || i==7) (by kernel_rfl) (fun i=>if i=1 then afg.tab M w.heap.size else aH.any _) ?_;intro C hC hne;have HC:=hid hC;have f0:=ak hC (p:=⟨w.heap.size,0,none⟩) YN (fun h=>h) e0;have f1:=ak hC (p:=⟨w.heap.size,1,none⟩) YN (fun h=>h) e1;have f2:=ak hC (p:=⟨w.heap.size,2,none⟩) YN (fun h=>h) e2;have f3:=ak hC (p:=⟨w.heap.size,3,none⟩) YN (fun h=>h) e3;have f4:=ak hC (p:=⟨w.heap.size,4,none⟩) YN (fun h=>h) e4;have f5:=ak hC (p:=⟨w.heap.size,5,none⟩) YN (fun h=>h) e5;have f6:=ak hC (p:=⟨w.heap.size,6,none⟩) YN (fun h=>h) e6;have f7:=ak hC (p:=⟨w.heap.size,7,none⟩) YN (fun h=>h) e7;clear hC e0 e1 e2 e3 e4 e5 e6 e7
  repeat (refine ae (fun K hK=>?_);first | (refine aR rfl ?_;try go_simp;refine hK _ _ ?_;clear hK K) | (refine aO rfl rfl ?_;unfold ai;go_simp;refine hK _ _ ?_;clear hK K))
  refine ae (fun K hK=>?_);refine bg rfl rfl (afg.tab M w.heap.size) rfl (fun W hW hN=>?_) (fun v hv=>?_)
  ·have hM:=(HC.out W).1 hW
   clear hW hN hK K;go_simp;refine aB ((Pf M W).mono ?_);rintro e w' ⟨rfl,hx,hc⟩;have hz:=hM.size;exact⟨_,rfl,Move.ext hx,⟨_,rfl,by omega⟩,fun Y hY=>by have:=Lm hY;subst this;exact⟨World.block_lt_of_cell? _ _ hc,hc⟩⟩
  obtain⟨X,rfl,hXn⟩:=hv;have ix1:=fun W=>(mX M X W).1
  have ix2:=fun W=>(mX M X W).2.1
  have ix3:=fun W=>(mX M X W).2.2.1
  have ix4:=fun W=>(mX M X W).2.2.2.1
  have ix5:=fun W=>(mX M X W).2.2.2.2.1
  have ix6:=fun W=>(mX M X W).2.2.2.2.2
  go_simp;refine hK _ _ ?_;clear hK K
  repeat (refine ae (fun K hK=>?_);first | (refine aR rfl ?_;try go_simp;refine hK _ _ ?_;clear hK K) | (refine aO rfl rfl ?_;unfold ai;go_simp;refine hK _ _ ?_;clear hK K))
  refine bh (fun W hW hH=>?_);have lH:=(HC.out W).1 hW;obtain⟨hXl,hXc⟩:X<W.heap.size/\W.cell? ⟨X,0,none⟩=some (.pointer (some ⟨M,0,none⟩)):=(hH _ (List.mem_of_getElem? (show _=some _ from rfl:_[0]? =some _))) X rfl;have MW:Hid (gM base M F W m):=hid ((HM.out.keeps E0.out.keeps fun x hx=>(HM.out.lt x hx).2).keeps (aa.ag lH.below fun _ h=>h:aa (· <V.heap.size) V W) fun x hx=>by have:=(HM.out.lt x hx).2;omega);have IW:=hid ((HR.out.keeps E0.out.keeps fun x hx=>by omega).keeps (aa.ag lH.below fun _ h=>h:aa (· <V.heap.size) V W) fun x hx=>by omega);have RW:=hid (R0.out.below lH.below R0.out.lt);have KW:Hid (aa (· <w.heap.size) w W):=hid (E0.out.keeps.tr (aa.ag lH.below fun x hx=>by omega:aa (· <w.heap.size) V W));have xI:w.heap.size+1<W.heap.size:=by have:=lH.size;omega
  have hnX:¬F X:=fun e=>by have:=(HM.out.lt X e).2;omega
  have CC:=hid (WZ.out W X MW.out IW.out hXc hnX);clear lH hW hH HC hne f0 f1 f2 f3 f4 f5 f6 f7 MW IW WZ hXc ix1 ix2 ix3 ix4 ix5 ix6;go_wp2_with fail
  refine CC.out.mono ?_;rintro e w3 ⟨rfl,hF',hx⟩;have qY:∀ k,w.heap.size<=k->¬F k:=fun k hk e=>by have:=(HM.out.lt k e).2;omega
  have R3:Hid (ah w3 (w.heap.size+1) (zeroV false) 139):=hid (RW.out.keeps hx ⟨by omega,qY _ (by omega)⟩);have Tv:=hid hF';have HK:=hid hx;have hs3:=hx.size;clear hx hF' CC;go_wp2_with (refine wpList_store_row rfl 139 (.tmp 4) (.tmp 11) rfl (w.heap.size+1) (ax p2) rfl rfl 139 (zeroV false) R3.out (bJ _) rfl (eM _) ?_;refine Hid.out ?_);refine hid ?_;obtain⟨V3,di⟩:∃ W,W=w3.setRow (w.heap.size+1) (ax p2):=⟨_,rfl⟩;rw[<-di];have R9:Hid (ah V3 (w.heap.size+1) (ax p2) 139):=by rw[di];exact hid R3.out.setRow
  have K9:aa (· ≠w.heap.size+1) w3 V3:=by rw[di];exact bP _ _ _
  clear di;go_wp2;obtain⟨m0,m1,m2,m3,m4,m5,m6,m7,m8,m9,m10,m11,m12,m13,m14⟩:=R9.out.part;refine bodyPost_ret (v:=.agg (ax p2)) (by simp[results,Tryz.results77,ax,go_sem,m0,m1,m2,m3,m4,m5,m6,m7,m8,m9,m10,m11,m12,m13,m14]) rfl ⟨rfl,?_,?_,?_⟩
  ·obtain⟨F',h1,h2,h3⟩:=Tv.out
   refine⟨F',h1.keeps K9 fun x hx e=>by(rcases h3 x hx with h | h;exact qY _ (by omega) h;omega),h2,fun x hx=>(h3 x hx).imp id fun h=>by omega⟩
  ·exact(KW.out.mono fun x hx=>hx.1).tr ((HK.out.mono fun x hx=>⟨by have:=hx.1;omega,hx.2⟩).tr (K9.mono fun x hx=>by have:=hx.1;omega))
  ·have:=K9.size;omega
theorem kO.clo {base M:Nat} {F:Nat->Prop} {w:World} {m:GM} {p:GP} {e:Ending} {w':World} (h:kO base M F w m p e w'):YM base M F w m p e w':=⟨h.1,h.2.1,h.2.2.1⟩
theorem ri {l:List RX} :∀ {t:RX},t∈l->t.size<=RX.sizes l:=by
 induction l with
 | nil=>intro t h;cases h
 | cons x l ih=>
  intro t h;rw[RX.sizes];rcases List.mem_cons.1 h with rfl | h
  ·omega
  ·have:=ih h;omega
theorem zt:∀ (l:List RX),l.length<=RX.sizes l
 | []=>Nat.zero_le _
 | t::l=>by rw[RX.sizes,List.length_cons];have:=size_pos t;have:=zt l;omega
theorem TH (n0:Nat) (t:RX):t.fine->t.size<=10000->Lk n0 t:=by
 induction t using RX.ind with
 | h k s mn mx l ih=>
  intro hf hs;obtain⟨hr,hl⟩:=nN.1 hf;obtain⟨_,q2,q3,q4,q5,q6,_⟩:=vk hr;rw[RX.size]at hs;have hlen:=zt l;have ih:∀ t∈l,Lk n0 t:=fun t ht=>ih t ht (hl t ht) (by have:=ri ht;omega)
  have zu:∀ t∈l,t.full=true:=fun t ht=>rZ t (hl t ht)
  intro base M F m w v dD hm hv ok xW afi;obtain⟨p,c,rfl⟩:=hv.form;simp only[RX.kind,RX.set,RX.mn,RX.mx,RX.subs]at hv ⊢;refine Ln n0 base M F m _ _ k s mn mx l p _ c w dD hm hv (by omega) q4 fun W X hW hvW hX Iq=>?_
  have hk:k=1\/k=2\/k=3\/k=4\/k=5\/k=6:=by omega
  rcases hk with rfl | rfl | rfl | rfl | rfl | rfl
  ·have e:(RX.nd 1 s mn mx l).dL m=(m,⟨0,0,true⟩):=by rw[RX.dL];rfl
   rw[e];refine(Lh 1 s mn mx _ W).mono ?_;rintro e w' ⟨rfl,hx⟩;exact⟨by show _=Ending.returned (.agg (ax ⟨0,0,true⟩));rw[jq],⟨F,hW.keeps hx fun x h=>(hW.lt x h).2,fun _ h=>h,fun _ h=>.inl h⟩,hx.mono fun _ h=>h.1⟩
  ·have e:(RX.nd 2 s mn mx l).dL m=(⟨m.aM++ [s],m.cN++ [0]⟩,⟨eZ m.aM.length,eZ m.aM.length,false⟩):=by rw[RX.dL];rfl
   rw[e];have hc1:(RX.nd 2 s mn mx l).cnt=1:=by rw[RX.cnt];rfl
   exact(Lj base M F m s mn mx _ X W hW hX Iq xW (by omega)).mono fun e w' h=>h
  ·have e:(RX.nd 3 s mn mx l).dL m=RX.jI l (m,⟨0,0,true⟩):=by rw[RX.dL];rfl
   have hc1:(RX.nd 3 s mn mx l).cnt=RX.iC l:=by rw[RX.cnt];rfl
   rw[e];exact(TA n0 base M F m 3 s mn mx l p _ c X W dD hW hvW ih zu hX Iq ok xW (by omega) (by omega)).mono fun e w' h=>h.clo
  ·have e:(RX.nd 4 s mn mx l).dL m=RX.ic l (m,⟨0,0,false⟩):=by rw[RX.dL];rfl
   have hc1:(RX.nd 4 s mn mx l).cnt=RX.iC l:=by rw[RX.cnt];rfl
   rw[e];exact(Ty n0 base M F m 4 s mn mx l p _ c X W dD hW hvW ih zu hX Iq ok xW (by omega) (by omega)).mono fun e w' h=>h.clo
  ·have hb:=q6 rfl
   obtain⟨g1,g2,g3⟩:=wz hb;obtain⟨t,l',rfl⟩:∃ t l',l=t::l':=by
    cases l with
    | nil=>have:=q5 (.inl rfl);simp at this
    | cons t l'=>exact⟨t,l',rfl⟩
   have e:(RX.nd 5 s mn mx (t::l')).dL m=en mn mx (fun m=>t.dL m) m (fF mn mx):=by rw[RX.dL];show RX.rpG mn mx (t::l') m=_;rw[RX.rpG]
   have hc1:(RX.nd 5 s mn mx (t::l')).cnt=fF mn mx*t.cnt:=by rw[RX.cnt];show fF mn mx*RX.cnt1 (t::l')=_;rw[RX.cnt1]
   rw[e];have hmx:mx= -1\/(1<=mx/\mx≠ -1):=by
    unfold jv at hb;split at hb
    ·cases hb
    ·simp at hb
     omega
   rcases hmx with rfl | ⟨hmx,hne⟩
   ·refine(ae6 n0 base M F m 5 s mn (fF mn (-1)) t l' p _ c W dD hW hvW (ih t (List.mem_cons_self ..)) (zu t (List.mem_cons_self ..)) ok xW ?_ g3 rfl (by omega)).mono fun e w' h=>h.clo
    unfold fF;rw[if_pos rfl];omega
   ·obtain⟨N,rfl⟩:∃ N:Nat,mx=N:=⟨mx.toNat,by omega⟩
    have hN:fF mn (N:Int)=N:=by unfold fF;rw[if_neg hne];simp
    rw[hN]at g3 hc1 ⊢;exact(afe n0 base M F m 5 s mn N t l' p _ c W dD hW hvW (ih t (List.mem_cons_self ..)) (zu t (List.mem_cons_self ..)) ok xW (by omega) g3 hN (by omega)).mono fun e w' h=>h.clo
  ·obtain⟨t,l',rfl⟩:∃ t l',l=t::l':=by
    cases l with
    | nil=>have:=q5 (.inr rfl);simp at this
    | cons t l'=>exact⟨t,l',rfl⟩
   have e:(RX.nd 6 s mn mx (t::l')).dL m=t.dL m:=by rw[RX.dL];show RX.hdG (t::l') m=_;rw[RX.hdG]
   have hc1:(RX.nd 6 s mn mx (t::l')).cnt=t.cnt:=by rw[RX.cnt];show RX.cnt1 (t::l')=_;rw[RX.cnt1]
   rw[e];exact(WT n0 base M F m 6 s mn mx t l' p _ c X W dD hW hvW (ih t (List.mem_cons_self ..)) hX Iq ok xW (by omega)).mono fun e w' h=>h.clo
attribute [local go_sem] Oper.semAt_some gO dC
theorem sB {T:Nat->Prop} :∀ (Ds:List Nat) (W:World),(∀ D∈Ds,T D)->Move true T W (Ds.foldl (fun W D=>W.putObj D (.deferred none)) W)
 | [],_,_=>Move.refl _ _ _
 | D::Ds,_,h=>(Move.put (h D (List.mem_cons_self ..)) _).trans (sB Ds _ fun E hE=>h E (List.mem_cons_of_mem _ hE))
theorem kP:∀ (Ds:List Nat) (W:World),(Ds.foldl (fun W D=>W.putObj D (.deferred none)) W).heap.size=W.heap.size
 | [],_=>rfl
 | D::Ds,_=>by rw[List.foldl_cons,kP Ds];simp
theorem nP (c:Array Value) (w:World):Calls Tryz.prog 96 #[.agg c] w fun e w'=>e=.returned (.func (.func 122) #[] #[.pointer (some ⟨w.heap.size,0,none⟩)])/\w'=w.alloc (.cells c 62 (0,0)):=by
 go_enter Tryz.func96,Tryz.ntmps96
 go_wp2;go_ret;exact⟨rfl,rfl⟩
theorem rj:∀ args w,(callFunc 122 args).run Tryz.prog w=.ok (.enter 122 args) w:=enters_of Tryz.func122 (by kernel_rfl) rfl
abbrev lK:=Value×RX
def IE (x:lK):Array Value:= #[x.1]
theorem Dm {l:List RX} (f:Nat->List lK) (hf:∀ i t,l[i]? =some t->(f i).map (·.2)=t.pre):∀ j,j<=l.length->((List.range j).flatMap f).map (·.2)=RX.mS (l.take j)
 | 0,_=>by simp[RX.mS]
 | j+1,hj=>by
  have hl:l[j]? =some (l[j]'(by omega)):=List.getElem?_eq_getElem (by omega);have pa:∀ a b:List RX,RX.mS (a++b)=RX.mS a++RX.mS b:=by
   intro a b;induction a with
   | nil=>rfl
   | cons x a ih=>rw[List.cons_append,RX.mS,RX.mS,ih,List.append_assoc]
  rw[List.range_succ,List.flatMap_append,List.map_append,Dm f hf j (by omega),List.take_add_one,hl,pa];congr 1;simp[hf j _ hl,RX.mS]
theorem Dn (f:Nat->List lK) (h:lK) {i n:Nat} (hi:i<=n):h::(List.range i).flatMap f<+:h::(List.range n).flatMap f:=by
 induction n with
 | zero=>rw[show i=0 by omega];exact List.prefix_rfl
 | succ n ih=>
  by_cases e:i=n+1
  ·subst e;exact List.prefix_rfl
  ·exact(ih (by omega)).trans (by rw[List.range_succ,List.flatMap_append];exact⟨_,by rw[List.cons_append]⟩)
theorem Fh (f:Nat->List lK) (h:lK) (i:Nat):h::(List.range (i+1)).flatMap f=(h::(List.range i).flatMap f)++f i:=by rw[List.range_succ,List.flatMap_append,List.cons_append];simp
theorem zv:∀ {l:List RX} {t:RX},t∈l->t.size<=RX.sizes l
 | x::l,t,h=>by
  rw[RX.sizes];rcases List.mem_cons.1 h with rfl | h
  ·omega
  ·have:=zv h;omega
theorem rv:∀ (l:List RX),l.length<=RX.sizes l
 | []=>by simp
 | x::l=>by
  rw[RX.sizes,List.length_cons];have:=rv l;have h1:1<=x.size:=by cases x;rw[RX.size];omega
  omega
def YP (D:Nat):Deferred:= {target:=.collected D,args:= #[]}
theorem oG {P:Program} {fn:Func} {R:Ending->World->Prop} {tmps:Array Value} {v:Value} {Ds:List Nat} {W:World} {x:Exit} (hx:x=.normal\/x=.ret) (hn:Ds.Nodup) (hD:∀ D∈Ds,W.heap[D]? =some (.deferred (some []))) (hr:∀ W,(results fn tmps).run P W=.ok v W) (hR:R (.returned v) (Ds.foldl (fun W D=>W.putObj D (.deferred none)) W)):bodyPostM Fence.wide 0 P fn R x {tmps:=tmps,defers:=Ds.map YP} W:=by
 have h:=rO (P:=P) (fn:=fn) (tmps:=tmps) (R:=R) Ds W hn hD (hr _) hR;rcases hx with rfl | rfl
 ·exact h
 ·exact h
structure ik (R:Nat->Prop) (J:List lK->(Nat->Prop)->World->Prop) (W1:World) (Y:Nat) (yv:Value) (pre:List lK) (Ds:List Nat) (T:Nat->Prop) (W:World):Prop where
 jM:∀ k,T k->W1.heap.size<=k/\k<W.heap.size
 y:T Y
 yb:ah W Y #[yv] 130
 nodup:Ds.Nodup
 ds:∀ D∈Ds,T D/\W.heap[D]? =some (.deferred (some []))
 keep:aa R W1 W
 j:J pre T W
theorem ik.more {R:Nat->Prop} {J:List lK->(Nat->Prop)->World->Prop} {W1:World} {Y:Nat} {yv:Value} {pre:List lK} {Ds:List Nat} {T:Nat->Prop} {W W':World} (h:ik R J W1 Y yv pre Ds T W) (hJ:fB true W1.heap.size J) (hR:∀ k,R k->k<W1.heap.size) {T':Nat->Prop} (hx:Ext W W') (ht:∀ k,T k->T' k) (ht':∀ k,T' k->(T k\/W.heap.size<=k)/\k<W'.heap.size):ik R J W1 Y yv pre Ds T' W':=by
 have h1:W1.heap.size<=W.heap.size:=h.keep.size;have hr:∀ k,T' k->W1.heap.size<=k/\k<W'.heap.size:=fun k hk=>⟨by rcases(ht' k hk).1 with h2 | h2;exact(h.jM k h2).1;omega,(ht' k hk).2⟩
 refine⟨hr,ht _ h.y,h.yb.ext hx,h.nodup,fun D hD=>⟨ht _ (h.ds D hD).1,?_⟩,h.keep.tr (hx.mono fun k hk=>by have:=hR k hk;omega),hJ _ _ _ _ _ h.j h.jM hr ht (fun k hk=>(ht' k hk).1) (.ext hx)⟩;exact(hx.keep D (h.jM D (h.ds D hD).1).2).trans (h.ds D hD).2
theorem ik.move {R:Nat->Prop} {J:List lK->(Nat->Prop)->World->Prop} {W1:World} {Y:Nat} {yv:Value} {pre:List lK} {Ds:List Nat} {T Ti Qw:Nat->Prop} {W W':World} {B:Nat} (h:ik R J W1 Y yv pre Ds (fun k=>T k\/Ti k) W) (hJ:fB true W1.heap.size J) (hR:∀ k,R k->k<W1.heap.size) (hB:W1.heap.size<=B) (hYB:Y<B) (hDB:∀ D∈Ds,D<B) (h1:∀ k,Ti k->B<=k/\k<W.heap.size) (h2:∀ k,Qw k->B<=k/\k<W'.heap.size) (h3:∀ k,Ti k->Qw k) (h4:∀ k,Qw k->Ti k\/W.heap.size<=k) (h5:Move true Ti W W'):ik R J W1 Y yv pre Ds (fun k=>T k\/Qw k) W':=by
 have hs:=h5.size;have hr:∀ k,(T k\/Qw k)->W1.heap.size<=k/\k<W'.heap.size:=fun k hk=>by
  rcases hk with hk | hk
  ·have:=h.jM k (.inl hk);exact⟨this.1,by omega⟩
  ·have:=h2 k hk;exact⟨by omega,this.2⟩
 refine⟨hr,?_,h.yb.keeps h5.keeps ⟨h.yb.lt,fun e=>by have:=(h1 _ e).1;omega⟩,h.nodup,fun D hD=>⟨?_,?_⟩,h.keep.tr (h5.keeps.mono fun k hk=>⟨by have:=hR k hk;have:=h.keep.size;omega,fun e=>by have:=(h1 _ e).1;have:=hR k hk;omega⟩),hJ _ _ _ _ _ h.j h.jM hr (fun k hk=>hk.imp id (h3 k)) (fun k hk=>hk.elim (fun h=>.inl (.inl h)) fun h=>(h4 k h).imp .inr id) (h5.mono fun k hk=>.inr hk)⟩
 ·exact h.y.imp id (h3 _)
 ·exact(h.ds D hD).1.imp id (h3 _)
 ·exact(h5.keeps.keep D ⟨(h.jM D (h.ds D hD).1).2,fun e=>by have:=(h1 _ e).1;have:=hDB D hD;omega⟩).trans (h.ds D hD).2
theorem ik.round {R:Nat->Prop} {J:List lK->(Nat->Prop)->World->Prop} {W1:World} {Y:Nat} {yv:Value} {pre pre':List lK} {Ds:List Nat} {T:Nat->Prop} {W W':World} (h:ik R J W1 Y yv pre Ds T W) (hk:aa (fun k=>R k\/T k) W W') (hj:J pre' T W'):ik R J W1 Y yv pre' Ds T W':=
 ⟨fun k xQ=>⟨(h.jM k xQ).1,Nat.lt_of_lt_of_le (h.jM k xQ).2 hk.size⟩,h.y,h.yb.keeps hk (.inr h.y),h.nodup,fun D hD=>⟨(h.ds D hD).1,(hk.keep D (.inr (h.ds D hD).1)).trans (h.ds D hD).2⟩,h.keep.tr (hk.mono fun _ hk=>.inl hk),hj⟩
structure Fi (Jx:List lK->(Nat->Prop)->World->Prop) (W1:World) (pre:List lK) (Ds:List Nat) (T:Nat->Prop) (W:World):Prop where
 jM:∀ k,T k->W1.heap.size<=k/\k<W.heap.size
 ds:∀ D∈Ds,T D/\W.heap[D]? =some (.deferred (some []))
 j:Jx pre T W
theorem Fi.move {Jx:List lK->(Nat->Prop)->World->Prop} {W1:World} {pre:List lK} {Ds:List Nat} {T Ti Qw:Nat->Prop} {W W':World} {B:Nat} (h:Fi Jx W1 pre Ds (fun k=>T k\/Ti k) W) (hJ:fB true W1.heap.size Jx) (hB:W1.heap.size<=B) (hDB:∀ D∈Ds,D<B) (h1:∀ k,Ti k->B<=k/\k<W.heap.size) (h2:∀ k,Qw k->B<=k/\k<W'.heap.size) (h3:∀ k,Ti k->Qw k) (h4:∀ k,Qw k->Ti k\/W.heap.size<=k) (h5:Move true Ti W W'):Fi Jx W1 pre Ds (fun k=>T k\/Qw k) W':=by
 have hs:=h5.size;have hr:∀ k,(T k\/Qw k)->W1.heap.size<=k/\k<W'.heap.size:=fun k hk=>by
  rcases hk with hk | hk
  ·have:=h.jM k (.inl hk);exact⟨this.1,by omega⟩
  ·have:=h2 k hk;exact⟨by omega,this.2⟩
 refine⟨hr,fun D hD=>⟨(h.ds D hD).1.imp id (h3 _),?_⟩,hJ _ _ _ _ _ h.j h.jM hr (fun k hk=>hk.imp id (h3 k)) (fun k hk=>hk.elim (fun h=>.inl (.inl h)) fun h=>(h4 k h).imp .inr id) (h5.mono fun k hk=>.inr hk)⟩;exact(h5.keeps.keep D ⟨(h.jM D (h.ds D hD).1).2,fun e=>by have:=(h1 _ e).1;have:=hDB D hD;omega⟩).trans (h.ds D hD).2
theorem vv (n0:Nat) (t:RX):t.size<=10000000->∀ (v:Value) (w:World),aL (· <n0) w v t->n0<=w.heap.size->∃ xs:List lK,xs.map (·.2)=t.pre/\(∀ x∈xs,aL (· <n0) w x.1 x.2)/\ ∀ (W:World) (B:Nat) (c:Array Value),v=.agg c->aa (· <n0) w W->ah W B c 62->Seq true Tryz.prog 122 #[.pointer (some ⟨B,0,none⟩)] IE (fun k=>k<n0\/k=B) xs W:=by
 induction t using RX.ind with
 | h k s mn mx l ih=>
  intro hsz v w hv dD;obtain⟨p,cp,rfl⟩:=hv.form;obtain⟨n,hn⟩:∃ n,n=l.length:=⟨_,rfl⟩;have HV:=hid hv;simp only[RX.kind,RX.set,RX.mn,RX.mx,RX.subs]at HV ⊢;rw[<-hn]at HV ⊢
  have hch:∀ i,∃ xs:List lK,∀ t,l[i]? =some t->xs.map (·.2)=t.pre/\(∀ x∈xs,aL (· <n0) w x.1 x.2)/\∀ (p':Option Addr) (c':Nat),aL (· <n0) w (.agg (au t.kind t.set t.mn t.mx (.slice p' t.subs.length c'))) t->∀ b off,p=some ⟨b,off,none⟩->w.cell? ⟨b,off+i*8+7,none⟩=some (.slice p' t.subs.length c')->
    ∀ (W:World) (B:Nat),aa (· <n0) w W->ah W B (au t.kind t.set t.mn t.mx (.slice p' t.subs.length c')) 62->Seq true Tryz.prog 122 #[.pointer (some ⟨B,0,none⟩)] IE (fun k=>k<n0\/k=B) xs W:=fun i=>by
   cases hi:l[i]? with
   | none=>exact⟨[],fun t h=>by cases h⟩
   | some t=>
    obtain⟨b,off,p',c',ep,_,_,_,abo,hr⟩:=HV.out.elem hi;obtain⟨xs,h1,h2,h3⟩:=ih t (List.mem_of_getElem? hi) (Nat.le_trans (zv (List.mem_of_getElem? hi)) (by rw[RX.size]at hsz;omega)) _ w hr dD;refine⟨xs,fun t' e=>?_⟩;cases e;refine⟨h1,h2,fun p2 c2 _ b2 xe e2 hc2 W B hW hB=>?_⟩;rw[ep]at e2;cases e2;have e3:=abo.2.2.2.2.2.2.2;rw[hc2]at e3;cases e3;exact h3 W B _ rfl hW hB
  obtain⟨f,hf⟩:=Classical.axiomOfChoice hch;clear hch ih;obtain⟨cv,hcv⟩:∃ c,c=au k s mn mx (.slice p n cp):=⟨_,rfl⟩;obtain⟨x0,hx0⟩:∃ x:lK,x=(.agg cv,.nd k s mn mx l):=⟨_,rfl⟩;refine⟨x0::(List.range n).flatMap f,?_,fun x hx=>?_,?_⟩
  ·rw[List.map_cons,Dm f (fun i t h=>(hf i t h).1) n (by omega),hn,List.take_length,RX.pre,hx0]
  ·rcases List.mem_cons.1 hx with rfl | hx
   ·rw[hx0,hcv];exact HV.out
   ·obtain⟨i,hi,hxi⟩:=List.mem_flatMap.1 hx
    have jK:i<l.length:=by have:=List.mem_range.1 hi;omega
    exact(hf i _ (List.getElem?_eq_getElem jK)).2.1 x hxi
  intro WS B c ec hKS hB;cases ec;rw[<-hcv]at hB;have HF:=hid hf;have UY:=hid hx0;clear hf hv hx0;intro ly J Jx W1 hK hJ hJx hY h0;have HY:=hid hY;have HJ:=hid hJ;have HJX:=hid hJx;clear hY hJ hJx;have B1:=hB.keeps hK hB.lt;have KW:aa (· <n0) w W1:=hKS.tr (hK.mono fun k hk=>Nat.lt_of_lt_of_le hk (by have:=hKS.size;omega));have aaw:n0<=W1.heap.size:=by have:=KW.size;omega
  have abp:∀ k,(k<n0\/k=B)->k<W1.heap.size:=fun k hk=>by rcases hk with hk | rfl;omega;exact B1.lt
  have ar2:n<=10000000:=by rw[hn];exact Nat.le_trans (rv l) (by rw[RX.size]at hsz;omega)
  refine callsIn_wide (n:=0).1 ?_;refine callsIn_of_wp_marks Tryz.func122 rfl trivial ?_ rfl;simp only[Tryz.ntmps122,List.size_toArray,List.length_cons,List.length_nil,Nat.reduceAdd,Nat.reduceSub,Array.replicate_succ,Array.replicate_zero,List.push_toArray,List.append_toArray,List.nil_append,List.cons_append];have I2:ik (fun k=>k<n0\/k=B) J W1 W1.heap.size (.func (.yield ly) #[] #[]) [] [] (fun k=>k=W1.heap.size) (W1.alloc (.cells #[.func (.yield ly) #[] #[]] 130 (0,0))):=
   ⟨fun k hk=>by rw[hk];simp,rfl,ah.new _ _ _,List.nodup_nil,fun D h=>by(cases h),((Ext.refl _).alloc _).mono fun k hk=>abp k hk,HJ.out _ _ _ _ _ h0 (fun k h=>h.elim) (fun k hk=>by rw[hk];simp) (fun k h=>h.elim) (fun k hk=>.inr (by rw[hk];exact Nat.le_refl _)) (.ext ((Ext.refl _).alloc _))⟩
  obtain⟨fn,tm,Gq,bd,hy,GJ⟩:=HY.out [] x0 _ _ ⟨_,rfl⟩ I2.jM I2.keep I2.j;have Qi:=hid GJ;have I2H:=hid I2;have B2:=hid (B1.alloc (.cells #[.func (.yield ly) #[] #[]] 130 (0,0)));clear GJ I2 h0;rw[IE,UY.out]at hy;obtain⟨abq,Xa⟩:∃ x,x=(⟨W1.heap.size,0,none⟩:Addr):=⟨_,rfl⟩;have q0:(W1.alloc (.cells #[.func (.yield ly) #[] #[]] 130 (0,0))).cell? ⟨W1.heap.size,0,none⟩=some (.func (.yield ly) #[] #[]):=(ah.new _ _ _).cell 0;rw[hcv]at B2 hy;obtain⟨b0,b1,b2,b3,b4,b5,b6,b7⟩:=(show _/\_/\_/\_/\_/\_/\_/\_ from⟨B2.out.cell 0,B2.out.cell 1,B2.out.cell 2,B2.out.cell 3,B2.out.cell 4,B2.out.cell 5,B2.out.cell 6,B2.out.cell 7⟩);simp only[au,List.getElem?_toArray,List.getElem?_cons_zero,List.getElem?_cons_succ]at b0 b1 b2 b3 b4 b5 b6 b7;dsimp only[au]at hy;clear Xa abq;have HN:=hid hn;clear hn
  gi_wp2
  refine Qi.out.mono ?_;rintro e W2 (⟨rfl,eE,hk2⟩ | ⟨rfl,hjx,hk2⟩)
  rotate_left
  ·have Xb:=I2H.out.jM
   have h5:=hk2.size;clear hy
   gi_wp2
   exact Aw rfl (results_none rfl _ _ _) ⟨⟨_,rfl⟩,_,fun k hk=>⟨(Xb k hk).1,Nat.lt_of_lt_of_le (Xb k hk).2 h5⟩,.inr ⟨[x0],⟨_,rfl⟩,hjx⟩⟩
  have I3:=hid (I2H.out.round hk2 eE);have KB:Hid (ah W2 B (au k s mn mx (.slice p n cp)) 62):=hid (B2.out.keeps hk2 (.inl (.inr rfl)));have g7:W2.cell? ⟨B,7,none⟩=some (.slice p n cp):=KB.out.cell 7;clear hy eE hk2 q0 b0 b1 b2 b3 b4 b5 b6 b7 B2 I2H Qi
  gi_wp2
  have HR:=hid abp;have pW:=hid KW;clear g7 KB abp KW hB hKS hK;refine wpIn_loop (fun a W=>∃ (i:Nat) (Ds:List Nat) (T:Nat->Prop) (u4 u14 u15 u16 u17 u18 u24:Value),i<=n/\a= {tmps:= #[.func (.yield ly) #[] #[],.pointer (some ⟨B,0,none⟩),.pointer (some ⟨W1.heap.size,0,none⟩),undef,u4,undef,.func (.yield ly) #[] #[],.agg (au k s mn mx (.slice p n cp)),.bool true,.bool false,.pointer (some ⟨B,7,none⟩),.slice p n cp,.int .i64 n,.int .i64 i,u14,u15,u16,u17,u18,undef,undef,undef,undef,undef,u24],defers:=Ds.map YP} /\ik (fun k=>k<n0\/k=B) J W1 W1.heap.size (.func (.yield ly) #[] #[]) (x0::(List.range i).flatMap f) Ds T W)
   (fun a _=>n-(intOf (a.tmps.getD 13 undef)).toNat) ⟨0,[],_,undef,undef,undef,undef,undef,undef,undef,by omega,rfl,I3.out⟩ ?_
  rintro a w4 ⟨i,Ds,T,u4,u14,u15,u16,u17,u18,u24,hi,rfl,hI⟩;have HI:=hid hI;clear I3;by_cases hlt:i<n
  rotate_left
  ·obtain rfl:i=n:=by omega
   have gz:¬ ((i:Int)<i):=by omega
   clear hI
   gi_wp2
   refine oG (.inl rfl) HI.out.nodup (fun D hD=>(HI.out.ds D hD).2) (fun W=>results_none rfl _ _ _) ⟨⟨_,rfl⟩,T,fun k hk=>by rw[kP];exact HI.out.jM k hk,.inl ?_⟩;exact HJ.out _ _ _ _ _ HI.out.j HI.out.jM (fun k hk=>by rw[kP];exact HI.out.jM k hk) (fun _ h=>h) (fun _ h=>.inl h) (sB Ds w4 fun D hD=>(HI.out.ds D hD).1)
  have gz:(i:Int)<n:=by omega
  obtain⟨t,ht⟩:∃ t,l[i]? =some t:=⟨_,List.getElem?_eq_getElem (by have:=HN.out;omega)⟩;have KW4:Hid (aa (· <n0) w w4):=hid (pW.out.tr (hI.keep.mono fun k hk=>.inl hk));obtain⟨b,off,p',c',ep,hbF,hb,ar3,⟨q0,q1,q2,q3,q4,q5,q6,q7⟩,hrt⟩:=HV.out.elem ht;have hf9:=(HF.out i t ht).2.2 p' c' hrt b off ep q7;have HFM:=hid ((HF.out i t ht).2.1);have hcell:∀ j,w4.cell? ⟨b,j,none⟩=w.cell? ⟨b,j,none⟩:=fun j=>KW4.out.cell (p:=⟨b,j,none⟩) hbF
  replace q0:=(hcell _).trans q0;replace q1:=(hcell _).trans q1;replace q2:=(hcell _).trans q2;replace q3:=(hcell _).trans q3;replace q4:=(hcell _).trans q4;replace q5:=(hcell _).trans q5;replace q6:=(hcell _).trans q6;replace q7:=(hcell _).trans q7;replace hb:b<w4.heap.size:=Nat.lt_of_lt_of_le hb KW4.out.size;subst ep;have HF9:=hid hf9;have HT:=hid ht;clear hf9 hI ht hcell hrt
  gi_wp2_with (gi_at_call 96;refine(callsIn_wide.2 (nP _ _)).mono ?_;rintro e w5 ⟨rfl,rfl⟩)
  refine JV ?_;intro w5 hw5;have ar5:w5.heap.size=w4.heap.size+2:=by rw[hw5];simp
  have x45:Ext w4 w5:=by rw[hw5];exact((Ext.refl _).alloc _).alloc _
  have BN:ah w5 (w4.heap.size+1) (au t.kind t.set t.mn t.mx (.slice p' t.subs.length c')) 62:=by rw[hw5];exact(ah.new _ _ _).at (by simp)
  have ar6:W1.heap.size<=w4.heap.size:=HI.out.keep.size;obtain⟨T2,Xb⟩:∃ T2:Nat->Prop,T2=fun k=>T k\/k=w4.heap.size\/k=w4.heap.size+1:=⟨_,rfl⟩
  have i5:ik (fun k=>k<n0\/k=B) J W1 W1.heap.size (.func (.yield ly) #[] #[]) (x0::(List.range i).flatMap f) Ds T2 w5:=HI.out.more HJ.out HR.out x45 (fun k hk=>by rw[Xb];exact .inl hk) (fun k hk=>by
   rw[Xb]at hk;rcases hk with hk | hk | hk
   ·exact⟨.inl hk,by have:=(HI.out.jM k hk).2;omega⟩
   ·exact⟨.inr (by omega),by omega⟩
   ·exact⟨.inr (by omega),by omega⟩)
  have hDs:∀ D∈Ds,D<w5.heap.size:=fun D hD=>(i5.jM D (i5.ds D hD).1).2
  have akl:T2 (w4.heap.size+1):=by rw[Xb];exact .inr (.inr rfl)
  have hseq:=HF9.out w5 (w4.heap.size+1) (KW4.out.tr (x45.mono fun k hk=>by have:k<n0:=hk;omega)) BN;have hY5:W1.heap.size<w5.heap.size:=by omega
  have i5':ik (fun k=>k<n0\/k=B) J W1 W1.heap.size (.func (.yield ly) #[] #[]) ((x0::(List.range i).flatMap f)++ []) Ds (fun k=>T2 k\/False) w5:=by
   rw[List.append_nil];exact i5.more HJ.out HR.out (Ext.refl _) (fun k h=>.inl h) fun k h=>by
    rcases h with h | h
    ·exact⟨.inl h,(i5.jM k h).2⟩
    ·exact h.elim
  have HPF:Hid (∀ pre (x:lK),pre++ [x]<+:f i->((x0::(List.range i).flatMap f)++pre)++ [x]<+:x0::(List.range n).flatMap f):=hid fun pre x h=>by
   refine List.IsPrefix.trans ?_ (Dn f x0 (show i+1<=n by omega));rw[Fh,List.append_assoc];exact List.prefix_append_right_inj _ |>.2 h
  have Vz:∀ k,(k<n0\/k=w4.heap.size+1)->k<w5.heap.size:=fun k hk=>by
   rcases hk with hk | hk
   ·have:=HR.out k (.inl hk);omega
   ·omega
  have HI5:=hid i5';have I5K:=hid i5;have NW:=hid Xb;have XW5:=hid x45;have HDS:=hid hDs;obtain⟨done,hdone⟩:∃ d,d=x0::(List.range i).flatMap f:=⟨_,rfl⟩;rw[<-hdone]at HI5 HPF I5K;have HDN:=hid hdone;clear i5 i5' Xb x45 BN hw5 hDs q0 q1 q2 q3 q4 q5 q6 q7 gz hdone
  refine wpIn_wide.2 (xS (d:=true) hseq (by rfl) rj (by intro _;rfl) Vz
   (fun pre Ti W=>ik (fun k=>k<n0\/k=B) J W1 W1.heap.size (.func (.yield ly) #[] #[]) (done++pre) Ds (fun k=>T2 k\/Ti k) W)
   (fun c pre Ti W=>c=.ret/\Fi Jx W1 (done++pre) Ds (fun k=>T2 k\/Ti k) W)
   (fun s T T' W W' h h1 h2 h3 h4 h5=>h.move HJ.out HR.out (by omega) hY5 HDS.out h1 h2 h3 h4 h5)
   (fun c s T T' W W' h h1 h2 h3 h4 h5=>⟨h.1,h.2.move HJX.out (by omega) HDS.out h1 h2 h3 h4 h5⟩)
   HI5.out
   (fun z Ti W=>∃ b9:Nat,z.2.2= {tmps:= #[.func (.yield ly) #[] #[],.pointer (some ⟨B,0,none⟩),.pointer (some ⟨W1.heap.size,0,none⟩),undef,.pointer (some ⟨w4.heap.size,0,none⟩),.pointer (some ⟨b9,0,none⟩),.func (.yield ly) #[] #[],.agg (au k s mn mx (.slice (some ⟨b,off,none⟩) n cp)),.bool true,.bool false,.pointer (some ⟨B,7,none⟩),.slice (some ⟨b,off,none⟩) n cp,.int .i64 n,.int .i64 i,.bool true,.pointer (some ⟨b,off+i*8,none⟩),.agg (au t.kind t.set t.mn t.mx (.slice p' t.subs.length c')),.agg (au t.kind t.set t.mn t.mx (.slice p' t.subs.length c')),.func (.func 122) #[] #[.pointer (some ⟨w4.heap.size+1,0,none⟩)],z.2.1.1,undef,undef,undef,undef,u24],defers:=[]} /\w5.heap.size<=b9/\b9<W.heap.size/\¬Ti b9/\(∃ c,z.2.1.1=.agg c/\ah W b9 c 62)/\ik (fun k=>k<n0\/k=B) J W1 W1.heap.size (.func (.yield ly) #[] #[]) (done++z.1) Ds (fun k=>T2 k\/Ti k) W)
   ?hIa ?assign ?body ?done ?stop)
  case hIa=>
   rintro⟨pre,x,a1⟩ Ti Qw W W' ⟨b9,e1,e2,e3,e4,⟨c,e5,e6⟩,e7⟩ h1 h2 h3 h4 h5;have hs:=h5.size;refine⟨b9,e1,e2,by omega,fun h=>?_,⟨c,e5,e6.keeps h5.keeps ⟨e3,e4⟩⟩,e7.move HJ.out HR.out (by omega) hY5 HDS.out h1 h2 h3 h4 h5⟩;rcases h4 b9 h with h | h
   ·exact e4 h
   ·omega
  case assign=>
   rintro lr pre ⟨xv,xt⟩ Ti W hp hTi hk hI;have hx:=HFM.out (xv,xt) (hp.subset (by simp));obtain⟨p9,c9,e9⟩:=hx.form;dsimp only at e9;subst e9;have HI9:=hid hI;have HTI:=hid hTi;clear hI hTi hx hp hseq;dsimp only[au,IE]
   gi_wp2
   have xI:w5.heap.size<=W.heap.size:=hk.size;refine⟨((aa.refl _ _).alloc (fun j hj=>?_) _),W.heap.size,rfl,xI,by simp,fun h=>by have:=(HTI.out _ h).2;omega,⟨_,rfl,ah.new _ _ _⟩,HI9.out.more HJ.out HR.out ((Ext.refl _).alloc _) (fun _ h=>h) fun j hj=>⟨.inl hj,by have:=(HI9.out.jM j hj).2;simp;omega⟩⟩;rcases hj with hj | hj
   ·have:=Vz j hj;omega
   ·exact(HTI.out j hj).2
  case body=>
   rintro lr pre ⟨xv,xt⟩ Ti a1 W hp hTi hk xR uI ⟨b9,e1,e2,e3,e4,⟨c9,e5,e6⟩,e7⟩;have hx:=HFM.out (xv,xt) (hp.subset (by simp));obtain⟨p9,cp9,e9⟩:=hx.form;dsimp only at e1 e5 e7 e9;rw[e5]at e9;injection e9 with e9
   subst e1 e5 e9;obtain⟨fn,tm,Gq,bd,hy,GJ⟩:=HY.out _ _ _ _ (HPF.out pre _ hp) e7.jM e7.keep e7.j;have Qi:Hid (RoundIn (Fence.wide.inRound lr) 0 Tryz.prog ly fn tm Gq bd W _):=hid GJ;have q0:W.cell? ⟨W1.heap.size,0,none⟩=some (.func (.yield ly) #[] #[]):=e7.yb.cell 0;have E7:=hid e7;obtain⟨b0,b1,b2,b3,b4,b5,b6,b7⟩:=(show _/\_/\_/\_/\_/\_/\_/\_ from⟨e6.cell 0,e6.cell 1,e6.cell 2,e6.cell 3,e6.cell 4,e6.cell 5,e6.cell 6,e6.cell 7⟩);simp only[au,List.getElem?_toArray,List.getElem?_cons_zero,List.getElem?_cons_succ]at b0 b1 b2 b3 b4 b5 b6 b7;dsimp only[au,IE]at hy;have HTI:=hid hTi;clear GJ e7 e6 hx hp uI hseq xR hTi
   gi_wp2
   refine Qi.out.mono ?_;rintro e W2 (⟨rfl,eE,hk2⟩ | ⟨rfl,hjx,hk2⟩)
   ·clear hy q0 b0 b1 b2 b3 b4 b5 b6 b7
    gi_wp2
    refine⟨hk2.mono fun j hj=>?_,?_⟩
    ·rcases hj with(hj | hj) | hj
     ·exact .inl (.inl hj)
     ·exact .inr (.inl (by rw[hj];exact akl))
     ·exact .inr (.inr hj)
    ·dsimp only
     rw[<-List.append_assoc];exact E7.out.round hk2 eE
   ·clear hy q0 b0 b1 b2 b3 b4 b5 b6 b7
    gi_wp2
    refine⟨hk2.mono fun j hj=>.inr hj,rfl,?_⟩;rw[<-List.append_assoc];exact⟨fun j hj=>⟨(E7.out.jM j hj).1,Nat.lt_of_lt_of_le (E7.out.jM j hj).2 hk2.size⟩,fun D hD=>⟨(E7.out.ds D hD).1,(hk2.keep D (E7.out.ds D hD).1).trans (E7.out.ds D hD).2⟩,hjx⟩
  case done=>
   rintro D Ti W hD yf hTi hI nw;have HI9:=hid hI;have xC:=hid nw;clear hI nw hseq;dsimp only
   gi_wp2
   refine⟨⟨i+1,D::Ds,fun k=>T2 k\/Ti k,_,_,_,_,_,_,_,by omega,rfl,?_⟩,?_⟩
   ·have e5:=HI9.out
    rw[HDN.out, <-Fh]at e5;refine⟨e5.jM,e5.y,e5.yb,List.nodup_cons.2 ⟨fun h=>by have:=HDS.out D h;omega,e5.nodup⟩,fun E hE=>?_,e5.keep,e5.j⟩;rcases List.mem_cons.1 hE with rfl | hE
    ·exact⟨.inr yf,xC.out⟩
    ·exact e5.ds E hE
   ·simp[intOf];omega
  case stop=>
   rintro D c pre Ti W hD yf hTi hp ⟨rfl,ho⟩ nw;have HO:=hid ho;clear ho hseq;dsimp only;go_wp2;refine oG (Ds:=D::Ds) (.inr rfl) (List.nodup_cons.2 ⟨fun h=>by have:=HDS.out D h;omega,HI.out.nodup⟩) (fun E hE=>?_) (fun W=>results_none rfl _ _ _) ⟨⟨_,rfl⟩,fun k=>T2 k\/Ti k,fun k hk=>by rw[kP];exact HO.out.jM k hk,.inr ⟨done++pre,?_,?_⟩⟩
   ·rcases List.mem_cons.1 hE with rfl | hE
    ·exact nw
    ·exact(HO.out.ds E hE).2
   ·refine List.IsPrefix.trans ?_ (Dn f x0 (show i+1<=n by omega))
    rw[Fh, <-HDN.out];exact List.prefix_append_right_inj _ |>.2 hp
   ·exact HJX.out _ _ _ _ _ HO.out.j HO.out.jM (fun k hk=>by rw[kP];exact HO.out.jM k hk) (fun _ h=>h) (fun _ h=>.inl h) (sB (D::Ds) W fun E hE=>by
     rcases List.mem_cons.1 hE with rfl | hE
     ·exact .inr yf
     ·exact(HO.out.ds E hE).1)
end Go.Proofs.YtalombmiochpmaaGreatDoor
