/- rx.nodes: the iterator over the nodes of a tree. -/
import Derived.Test.YtjgccapbphadjaaGreatDoorOM11
set_option maxRecDepth 100000
set_option maxHeartbeats 16000000
open Go.Lib (hid)
namespace Go.Proofs.YtjgccapbphadjaaGreatDoor
open Go Go.RowKit Go.Shelf Go.Maps
theorem ab9 (n0 base M:Nat) (F:Nat->Prop) (m:GM) (k0:Nat) (s:BS) (mn:Int) (N:Nat) (t:RX) (l:List RX) (p:Option Addr) (n c:Nat) (w:World) (dh:n0<=base) (h:fM base M F w m) (hr:aJ (· <n0) w (.agg (aq k0 s mn (N:Int) (.slice p n c))) (.nd k0 s mn (N:Int) (t::l))) (ht:IP n0 t) (hf:t.full=true) (ok:m.ok) (hm:m.cF.length=m.aL.length) (hN:1<=N) (agh:N<=16) (hG:fe mn (N:Int)=N) (hn:m.aL.length+N*t.cnt<=448): ah 206 #[.pointer (some ⟨M,0,none⟩),.agg (aq k0 s mn (N:Int) (.slice p n c))] w (jR base M F w (dV mn (N:Int) (fun m=>t.dy m) m N).1 (dV mn (N:Int) (fun m=>t.dy m) m N).2):=by
 have hlen:n=l.length+1:=by obtain⟨p2,c2,e⟩:=hr.form;simp[aq,RX.subs,RX.kind,RX.set,RX.mn,RX.mx]at e;exact e.2.1
 have fE:0<n:=by omega
 obtain⟨b,off,p',c',rfl,hb,rH,lL,⟨e0,e1,e2,e3,e4,e5,e6,e7⟩,hrt⟩:=hr.elem (i:=0) (t:=t) rfl;simp only[Nat.zero_mul,Nat.add_zero]at e0 e1 e2 e3 e4 e5 e6 e7;have HM:=hid h;have UE:=hid hrt;have HT:=hid ht;have Ts:=hid hf;have j6:=hid ok;have HGG:=hid hG;have Kk:=hid hm;have EE:=hid (And.intro e0 (And.intro e1 (And.intro e2 (And.intro e3 (And.intro e4 (And.intro e5 (And.intro e6 e7)))))));have Wh:M<w.heap.size:=(h.lt M h.fm).2;have ab2:n0<=w.heap.size:=by have:=(h.lt M h.fm).1;omega
 have wW:¬F b:=fun e=>by have:=(h.lt b e).1;omega
 obtain⟨st,hst⟩:=ag (dV mn (N:Int) (fun m=>t.dy m) m N);rw[<-hst];have HST:=hid hst;have HMU:=hid hn;clear h hr hrt ht hf ok hm hlen hst hG e0 e1 e2 e3 e4 e5 e6 e7 hn;have hmx:¬ ((N:Int)= -1):=by omega
 have amE:((N:Int)== -1)=false:=by simp[hmx]
 unfold aq;go_enter Tryz.func206,Tryz.ntmps206;go_upto_region 5 with fail
 refine ax ?_;intro V hV;have N0:Hid (ar V w.heap.size #[.int .u8 k0,.int .u64 (wd s 0).toNat,.int .u64 (wd s 1).toNat,.int .u64 (wd s 2).toNat,.int .u64 (wd s 3).toNat,.int .i64 mn,.int .i64 (N:Int),.slice (some ⟨b,off,none⟩) n c] 97):=by rw[hV];exact hid (((ar.new _ _ _).alloc _).alloc _)
 have R0:Hid (ar V (w.heap.size+1) (zeroV false) 181):=by rw[hV];exact hid ((ar.at (ar.new _ _ _) (by simp)).alloc _)
 have O0:Hid (ar V (w.heap.size+1+1) (zeroV true) 181):=by rw[hV];exact hid (ar.at (ar.new _ _ _) (by simp))
 have E0:Hid (Ext w V):=by rw[hV];exact hid ((((Ext.refl w).alloc _).alloc _).alloc _)
 have lI:Hid (V.heap.size=w.heap.size+1+1+1):=hid (by rw[hV];simp);clear hV;have yX:w.heap.size+1+1<V.heap.size:=by rw[lI.out];omega
 have MV:Hid (fM base M F V m):=hid (HM.out.keeps E0.out.keeps fun x hx=>(HM.out.lt x hx).2);go_wp2;go_loopw [18] (fun iv W=>∃ k:Nat,k<=N/\iv=.int .i64 k/\UF base M F (dV mn (N:Int) (fun m=>t.dy m) m k) (w.heap.size+1+1) V W) (fun iv _=>N-(intOf iv).toNat);case atStart=>
  refine⟨0,by omega,rfl,?_⟩;exact⟨⟨F,MV.out,fun _ h=>h,fun _ h=>.inl h⟩,by show ar _ _ (ay ⟨0,0,true⟩) _;rw[iG];exact O0.out,ae.refl _ _⟩
 case round=>
  obtain⟨k,hk,rfl,hI⟩:=hrel;obtain⟨wo,rfl⟩:=ag (wr:World);have HI:=hid hI;clear hI;by_cases hlt:k<N
  ·have eG:(k:Int)<N:=by omega
   obtain⟨⟨F',Ck,MN,hF2⟩,hO,Fb⟩:=HI.out;have bO:=Fe Ts.out j6.out mn (N:Int) k;have lC:=nH t Ts.out _ bO.ok;have nX:dV mn (N:Int) (fun m=>t.dy m) m (k+1)=Ca mn (N:Int) k (dV mn (N:Int) (fun m=>t.dy m) m k).2 (t.dy (dV mn (N:Int) (fun m=>t.dy m) m k).1):=rfl;have hmul:(k+1)*t.cnt<=N*t.cnt:=Nat.mul_le_mul_right _ hlt;have QX:(k+1)*t.cnt=k*t.cnt+t.cnt:=Nat.succ_mul _ _;have hmu:=HMU.out;obtain⟨sk,hsk⟩:=ag (dV mn (N:Int) (fun m=>t.dy m) m k);rw[<-hsk]at hO Ck nX bO lC;obtain⟨m2,p2,wU⟩:∃ m2 p2,t.dy sk.1=(m2,p2):=⟨_,_,rfl⟩;rw[wU]at nX lC;have zu:=lC.len;have hl2:=bO.len;have Fc:=lC.ok.len;have Ys:=lC.gp;dsimp only at zu Fc Ys;have Dv:Hid (dz sk.2.cR m2.cF.length):=hid (bO.gp.cR.mono (by omega));have HP2:Hid (dz p2.cR m2.cF.length):=hid (Ys.cR.mono (by omega));have Yp:Hid (m2.cF.length<=448):=hid (by omega);have CM:Hid (∀ W,fM base M F' W sk.1->aJ (· <n0) W (.agg (aq t.kind t.set t.mn t.mx (.slice p' t.subs.length c'))) t->ah 102 #[.pointer (some ⟨M,0,none⟩),.agg (aq t.kind t.set t.mn t.mx (.slice p' t.subs.length c'))] W (jR base M F' W m2 p2)):=hid fun W h1 h2=>by
    have:=HT.out base M F' sk.1 W _ dh h1 h2 bO.ok bO.ok.len (by omega);rw[wU]at this;exact this
   have UG:=hid nX;have QU:¬F' (w.heap.size+1+1):=fun e=>by rcases hF2 _ e with h | h;exact absurd (HM.out.lt _ h).2 (by omega);omega
   have hnN:¬F' w.heap.size:=fun e=>by rcases hF2 _ e with h | h;exact absurd (HM.out.lt _ h).2 (by omega);omega
   have KO:Hid (ae (fun x=>x<w.heap.size/\¬F x) w wo):=hid ((E0.out.keeps.mono fun x hx=>hx.1).tr (Fb.mono fun x hx=>⟨by have:=hx.1;omega,hx.2,by have:=hx.1;omega⟩));have GN:=Fb.size;have NO:Hid (ar wo w.heap.size #[.int .u8 k0,.int .u64 (wd s 0).toNat,.int .u64 (wd s 1).toNat,.int .u64 (wd s 2).toNat,.int .u64 (wd s 3).toNat,.int .i64 mn,.int .i64 (N:Int),.slice (some ⟨b,off,none⟩) n c] 97):=hid (N0.out.keeps Fb ⟨by omega,fun e=>by have:=(HM.out.lt _ e).2;omega,by omega⟩);have O1:=hid hO;have M1:=hid Ck;have R1:Hid (aJ (· <n0) wo (.agg (aq t.kind t.set t.mn t.mx (.slice p' t.subs.length c'))) t):=hid (UE.out.keeps KO.out fun x hx=>⟨by omega,fun e=>by have:=(HM.out.lt x e).1;omega⟩);have ec:∀ (o:Nat) (u:Value),w.cell? ⟨b,o,none⟩=some u->wo.cell? ⟨b,o,none⟩=some u:=fun o u h=>(KO.out.cell (p:=⟨b,o,none⟩) ⟨rH,wW⟩).trans h
   obtain⟨e0,e1,e2,e3,e4,e5,e6,e7⟩:=EE.out;replace e0:=ec _ _ e0;replace e1:=ec _ _ e1;replace e2:=ec _ _ e2;replace e3:=ec _ _ e3;replace e4:=ec _ _ e4;replace e5:=ec _ _ e5;replace e6:=ec _ _ e6;replace e7:=ec _ _ e7;have n5:wo.cell? ⟨w.heap.size,5,none⟩=some (.int .i64 mn):=NO.out.cell 5;have n6:wo.cell? ⟨w.heap.size,6,none⟩=some (.int .i64 (N:Int)):=NO.out.cell 6;have n7:wo.cell? ⟨w.heap.size,7,none⟩=some (.slice (some ⟨b,off,none⟩) n c):=NO.out.cell 7;have Wl:=hid MN;have Ks:=hid hF2;have MP:=hid Fb;have rI:=hid QU;have oQ:=hid hnN;have Ku:=hid (CM.out wo M1.out R1.out);clear nX wU hsk hO Ck MN hF2 Fb QU hnN HI bO lC zu hl2 Fc Ys hmul QX hmu ec CM M1 R1;go_wp2_with fail
   refine Ku.out.mono ?_;rintro e w2 ⟨rfl,hF'',hx,hsz⟩;have hOl:w.heap.size+1+1<wo.heap.size:=O1.out.lt;have O2:=hid (O1.out.keeps hx ⟨O1.out.lt,rI.out⟩);have N2:=hid (NO.out.keeps hx ⟨NO.out.lt,oQ.out⟩);obtain⟨F2,g1,g2,g3⟩:=hF'';have jk:¬F2 (w.heap.size+1+1):=fun e=>by rcases g3 _ e with h | h;exact rI.out h;omega
   have QY:¬F2 w.heap.size:=fun e=>by rcases g3 _ e with h | h;exact oQ.out h;omega
   have M2:=hid g1;have G2:=hid g2;have G3:=hid g3;have uM:=hid jk;have ab4:=hid QY;have UH:=hid hx;have Yt:=hid hsz;clear hx g1 g2 g3 jk QY hsz Ku O1 NO e0 e1 e2 e3 e4 e5 e6 e7 n5 n6 n7;unfold ay;go_upto_region 9 with fail
   refine ax ?_;intro W3 hW3;have X3:Hid (ar W3 w2.heap.size (ay p2) 181):=by rw[hW3];exact hid (ar.new _ _ _)
   have E3:Hid (Ext w2 W3):=by rw[hW3];exact hid ((Ext.refl w2).alloc _)
   have O3:=hid (O2.out.ext E3.out);have N3:=hid (N2.out.ext E3.out);have M3:Hid (fM base M F2 W3 m2):=hid (M2.out.keeps E3.out.keeps fun x hx=>(M2.out.lt x hx).2);have hx2:¬F2 w2.heap.size:=fun e=>by have:=(M2.out.lt _ e).2;omega
   have fK:=hid hx2;clear hW3 hx2 O2 N2;have n5:W3.cell? ⟨w.heap.size,5,none⟩=some (.int .i64 mn):=N3.out.cell 5;have n6:W3.cell? ⟨w.heap.size,6,none⟩=some (.int .i64 (N:Int)):=N3.out.cell 6;obtain⟨a0,a1,a2,a3,a4,a5,a6,a7,a8,a9,jZ,j3,a12,j4,jy⟩:=X3.out.part
   try dsimp only at a0 a1 a2 a3 a4 a5 a6 a7 a8 a9 jZ j3 a12 j4 jy
   obtain⟨m4,ui⟩:=ag m2;obtain⟨W5,Yv⟩:=ag W3;have K5:Hid (ae (fun x=>x<W3.heap.size/\¬F2 x) W3 W3):=hid (ae.refl _ _);have X5:=X3;have O5:=O3;have M5:Hid (fM base M F2 W3 m4):=hid (by rw[ui];exact M3.out);have P5:Hid (dz sk.2.cR m4.cF.length/\m4.cF.length<=448):=hid (by rw[ui];exact⟨Dv.out,Yp.out⟩);have Yu:=hid ui;clear ui W5 Yv;obtain⟨eb,Cm⟩:=ag p2.emp;rw[<-Cm]at jy;have Yo:=hid Cm;clear Cm;have QZ:W3.frozen? ⟨w2.heap.size,14,none⟩=false:=X5.out.frozen 14;cases eb;all_goals
    go_upto_region 12 with fail
    refine ax ?_;intro W6 uL;obtain⟨e6,Q8⟩:=ag ((p2.emp || decide (mn<=(k:Int))));obtain⟨p6,Q9⟩:=ag (⟨p2.fst,p2.cR,e6⟩:GP);have X6:Hid (ar W6 w2.heap.size (ay p6) 181):=by rw[Q9,uL,Q8, <-Yo.out];exact hid (X5.out.set 14 _)
    have K6:Hid (ae (· ≠w2.heap.size) W3 W6):=by rw[uL];exact hid ((ae.refl (· ≠w2.heap.size) _).setCell (p:=⟨w2.heap.size,14,none⟩) (fun h=>h rfl) _)
    have O6:=hid (O5.out.keeps K6.out (by have:=O3.out.lt;have:=Yt.out;omega));have M6:Hid (fM base M F2 W6 m4):=hid (M5.out.keeps K6.out fun x hx e=>fK.out (e▸hx))
    try clear n6
    clear uL n5 a0 a1 a2 a3 a4 a5 a6 a7 a8 a9 jZ j3 a12 j4 jy QZ;have HE6:=hid Q8;clear Q8;have HP6:=hid Q9;clear Q9;have CT:Hid (ah 203 #[.pointer (some ⟨M,0,none⟩),.agg (ay sk.2),.agg (ay p6)] W6 fun e w'=>e=.returned (.agg (ay (cM m4 sk.2 p6).2))/\fM base M F2 w' (cM m4 sk.2 p6).1/\ae (fun x=>x<W6.heap.size/\¬F2 x) W6 w'):=hid (oC base M F2 m4 sk.2 p6 W6 M6.out P5.out.1 P5.out.2);have kQ:dV mn (N:Int) (fun m=>t.dy m) m (k+1)=cM m4 sk.2 p6:=by
     rw[UG.out,HP6.out,HE6.out];unfold Ca;rw[if_neg (fun h=>hmx h.1), <-Yu.out]
    have Ff:=hid kQ;clear kQ;obtain⟨m7,p7,Fg⟩:∃ m7 p7,cM m4 sk.2 p6=(m7,p7):=⟨_,_,rfl⟩;rw[Fg]at CT Ff;dsimp only at CT;clear Fg;go_wp2_with (first | (refine aY rfl 181 (.tmp 6) rfl (w.heap.size+1+1) rfl (ay sk.2) _ O6.out.range Tryz.underlying181 rfl (bE _) ?_) | (refine aY rfl 181 (.tmp 8) rfl w2.heap.size rfl (ay p6) _ X6.out.range Tryz.underlying181 rfl (bE _) ?_));refine CT.out.mono ?_;rintro e w8 ⟨rfl,hF3,hx⟩;have O8:=hid (O6.out.keeps hx ⟨O6.out.lt,uM.out⟩);have M8:=hid hF3;have Yr:=hid hx;clear hx hF3 CT;go_wp2_with (refine wpList_store_row rfl 181 (.tmp 6) (.tmp 54) rfl (w.heap.size+1+1) (ay p7) rfl rfl 181 (ay sk.2) O8.out (bE _) rfl (ez _) ?_;refine Hid.out ?_);refine hid ?_;obtain⟨W9,gq⟩:=ag (w8.setRow (w.heap.size+1+1) (ay p7));rw[<-gq];have O9:Hid (ar W9 (w.heap.size+1+1) (ay p7) 181):=by rw[gq];exact hid O8.out.setRow
    have K9:Hid (ae (· ≠w.heap.size+1+1) w8 W9):=by rw[gq];exact hid (bI _ _ _)
    clear gq;go_wp2;go_roundw;case rel=>
     refine⟨k+1,by omega,by go_num,?_⟩;rw[Ff.out];have h1:=MP.out.size;have h2:=Yt.out;have h3:=E3.out.size;have h4:=K6.out.size;have h5:=K5.out.size;refine⟨⟨F2,M8.out.keeps K9.out fun x hx e=>uM.out (e▸hx),fun x h=>G2.out x (Wl.out x h),fun x h=>by rcases G3.out x h with h | h;exact Ks.out x h;exact .inr (by omega)⟩,O9.out,?_⟩;have hq:∀ x,x<V.heap.size->¬F x->¬F2 x:=fun x h h6 e=>by rcases G3.out x e with h7 | h7;(rcases Ks.out x h7 with h8 | h8;exact h6 h8;omega);omega
     have Kv:∀ x,x<V.heap.size->¬F x->¬F' x:=fun x h h6 e=>hq x h h6 (G2.out x e)
     exact MP.out.tr ((UH.out.mono fun x hx=>⟨by have:=hx.1;omega,Kv x hx.1 hx.2.1⟩).tr ((E3.out.keeps.mono fun x hx=>by have:=hx.1;omega).tr ((K5.out.mono fun x hx=>⟨by have:=hx.1;omega,hq x hx.1 hx.2.1⟩).tr ((K6.out.mono fun x hx=>by have:=hx.1;omega).tr ((Yr.out.mono fun x hx=>⟨by have:=hx.1;omega,hq x hx.1 hx.2.1⟩).tr (K9.out.mono fun x hx=>hx.2.2))))))
    case measure=>simp[intOf];omega
  ·obtain rfl:k=N:=by omega
   have Ii:¬ ((k:Int)<k):=by omega
   obtain⟨hF',hO,hK⟩:=HI.out;rw[<-HST.out]at hF' hO;have QO:=hid hF';have O3:=hid hO;have HK:=hid hK;have R3:Hid (ar wo (w.heap.size+1) (zeroV false) 181):=hid (R0.out.keeps hK ⟨R0.out.lt,fun e=>by have:=(HM.out.lt _ e).2;omega,by omega⟩);clear hF' hO hK HI;go_wp2_with (first | (refine aY rfl 181 (.tmp 6) rfl (w.heap.size+1+1) rfl (ay st.2) _ O3.out.range Tryz.underlying181 rfl (bE _) ?_) | (refine wpList_store_row rfl 181 (.tmp 4) (.tmp 56) rfl (w.heap.size+1) (ay st.2) rfl rfl 181 (zeroV false) R3.out (bE _) rfl (ez _) ?_;refine Hid.out ?_));refine hid ?_;obtain⟨V3,cT⟩:=ag (wo.setRow (w.heap.size+1) (ay st.2));rw[<-cT];have R9:Hid (ar V3 (w.heap.size+1) (ay st.2) 181):=by rw[cT];exact hid R3.out.setRow
   have K9:ae (· ≠w.heap.size+1) wo V3:=by rw[cT];exact bI _ _ _
   clear cT;go_wp2;obtain⟨m0,m1,m2,m3,m4,m5,m6,m7,m8,m9,m10,m11,m12,m13,m14⟩:=R9.out.part;refine bodyPost_ret (v:=.agg (ay st.2)) (by simp[results,Tryz.results206,ay,go_sem,m0,m1,m2,m3,m4,m5,m6,m7,m8,m9,m10,m11,m12,m13,m14]) rfl ⟨rfl,?_,?_,?_⟩
   ·obtain⟨F',h1,h2,h3⟩:=QO.out
    exact⟨F',h1.keeps K9 fun x hx e=>by(rcases h3 x hx with h | h; · exact absurd (HM.out.lt x h).2 (by omega));omega,h2,fun x hx=>(h3 x hx).imp id fun h=>by omega⟩
   ·exact(E0.out.keeps.mono fun x hx=>hx.1).tr ((HK.out.mono fun x hx=>⟨by have:=hx.1;omega,hx.2,by have:=hx.1;omega⟩).tr (K9.mono fun x hx=>by have:=hx.1;omega))
   ·have:=K9.size;have:=HK.out.size;omega
def eK (M X:Nat):Array Value:= #[.func (.func 198) #[] #[],.func (.func 199) #[] #[],.func (.func 200) #[] #[.pointer (some ⟨X,0,none⟩)],.func (.func 202) #[] #[.pointer (some ⟨X,0,none⟩)],
 .func (.func 204) #[] #[.pointer (some ⟨X,0,none⟩)],.func (.func 206) #[.pointer (some ⟨M,0,none⟩)] #[],.func (.func 207) #[] #[.pointer (some ⟨X,0,none⟩)]]
theorem MQ (M:Nat) (w:World):ah 163 #[.pointer (some ⟨M,0,none⟩)] w fun e w'=>e=.returned (.agg (eK M w.heap.size))/\Ext w w'/\w'.cell? ⟨w.heap.size,0,none⟩=some (.pointer (some ⟨M,0,none⟩)):=by
 go_enter Tryz.func163,Tryz.ntmps163
 go_wp2;refine bu ?_;intro V hV;have R1:Hid (ar V (w.heap.size+1) (eK M w.heap.size) 253):=by
  rw[hV];exact hid (ar.at (ar.new _ _ _) (by simp))
 have B0:Hid (ar V w.heap.size #[.pointer (some ⟨M,0,none⟩)] 174):=by rw[hV];exact hid ((ar.new _ _ _).alloc _)
 have X1:Ext w V:=by rw[hV];exact((Ext.refl w).alloc _).alloc _
 clear hV;have m0:=R1.out.cell 0;have m1:=R1.out.cell 1;have m2:=R1.out.cell 2;have m3:=R1.out.cell 3;have m4:=R1.out.cell 4;have m5:=R1.out.cell 5;have m6:=R1.out.cell 6;simp only[eK,List.getElem?_toArray,List.getElem?_cons_zero,List.getElem?_cons_succ]at m0 m1 m2 m3 m4 m5 m6;refine bodyPost_ret (v:=.agg (eK M w.heap.size)) (by simp[results,Tryz.results163,eK,go_sem,m0,m1,m2,m3,m4,m5,m6]) rfl ⟨rfl,X1,B0.out.cell 0⟩
def Wn (base M:Nat) (F:Nat->Prop) (w:World) (m:GM) (p:GP) (e:Ending) (w':World):Prop:=
 e=.returned (.agg (ay p))/\(∃ F',fM base M F' w' m/\(∀ x,F x->F' x)/\∀ x,F' x->F x\/w.heap.size<=x)/\ae (fun x=>x<w.heap.size/\¬F x) w w'
def kF (k:Nat):FuncId:=if k=1 then 199 else if k=2 then 200 else if k=3 then 202 else if k=4 then 204 else if k=5 then 206 else 207
def aca (k M X:Nat) (v:Value):Array Value:=if k=1 then #[v]else if k=5 then #[.pointer (some ⟨M,0,none⟩),v]else #[v,.pointer (some ⟨X,0,none⟩)]
def acb.tab (M n9:Nat):aZ (Move false (fun _=>False)) where
 P:=fun v=>∃ X,v=.agg (eK M X)/\n9<=X
 H:=fun v W=>∀ X,v=.agg (eK M X)->X<W.heap.size/\W.cell? ⟨X,0,none⟩=some (.pointer (some ⟨M,0,none⟩))
 nW:=.agg (eK M n9)
 pw:=⟨n9,rfl,aD _⟩
 st:=fun _ _ _ hm _ h X e=>⟨aA (h X e).1 hm.size,((ae.ak hm.below fun _ h=>h:ae (· <_) _ _).cell (p:=⟨X,0,none⟩) (h X e).1).trans (h X e).2⟩
theorem IQ {M X Y:Nat} (h:Value.agg (eK M X)=.agg (eK M Y)):X=Y:=by
 injection h with h
 have:=congrArg (fun a:Array Value=>a[2]?) h;simp[eK]at this;exact this
theorem lD (M X:Nat) (W:World): (Instr.index 253 (.agg (eK M X)) (.int .u8 1)).run Tryz.prog W=.ok (.func (.func 199) #[] #[]) W/\ (Instr.index 253 (.agg (eK M X)) (.int .u8 2)).run Tryz.prog W=.ok (.func (.func 200) #[] #[.pointer (some ⟨X,0,none⟩)]) W/\ (Instr.index 253 (.agg (eK M X)) (.int .u8 3)).run Tryz.prog W=.ok (.func (.func 202) #[] #[.pointer (some ⟨X,0,none⟩)]) W/\ (Instr.index 253 (.agg (eK M X)) (.int .u8 4)).run Tryz.prog W=.ok (.func (.func 204) #[] #[.pointer (some ⟨X,0,none⟩)]) W/\ (Instr.index 253 (.agg (eK M X)) (.int .u8 5)).run Tryz.prog W=.ok (.func (.func 206) #[.pointer (some ⟨M,0,none⟩)] #[]) W/\ (Instr.index 253 (.agg (eK M X)) (.int .u8 6)).run Tryz.prog W=.ok (.func (.func 207) #[] #[.pointer (some ⟨X,0,none⟩)]) W:=by refine⟨?_,?_,?_,?_,?_,?_⟩<;>simp[Instr.index,asIntOf,run_underlying Tryz.underlying253,part,Tryz.isAgg182,Tryz.sizeOf182,eK,go_sem]
theorem IU (n0 base M:Nat) (F:Nat->Prop) (m m2:GM) (p2:GP) (k:Nat) (s:BS) (mn mx:Int) (l:List RX) (p:Option Addr) (n c:Nat) (w:World) (dh:n0<=base) (h:fM base M F w m) (hr:aJ (· <n0) w (.agg (aq k s mn mx (.slice p n c))) (.nd k s mn mx l)) (h1:1<=k) (h6:k<=6) (HCl:∀ (W:World) (X:Nat),fM base M F W m->aJ (· <n0) W (.agg (aq k s mn mx (.slice p n c))) (.nd k s mn mx l)->W.cell? ⟨X,0,none⟩=some (.pointer (some ⟨M,0,none⟩))->¬F X->ah (kF k) (aca k M X (.agg (aq k s mn mx (.slice p n c)))) W (Wn base M F W m2 p2)): ah 102 #[.pointer (some ⟨M,0,none⟩),.agg (aq k s mn mx (.slice p n c))] w (jR base M F w m2 p2):=by
 have HM:=hid h;have HR:=hid hr;have HCL:=hid HCl;have Wh:M<w.heap.size:=(h.lt M h.fm).2;have ab2:n0<=w.heap.size:=by have:=(h.lt M h.fm).1;omega
 clear h hr HCl;unfold aq;go_enter Tryz.func102,Tryz.ntmps102;go_upto_region 1 with fail
 refine ax ?_;intro V hV;have N0:Hid (ar V w.heap.size (aq k s mn mx (.slice p n c)) 97):=by rw[hV];exact hid ((ar.new _ _ _).alloc _)
 have R0:Hid (ar V (w.heap.size+1) (zeroV false) 181):=by rw[hV];exact hid (ar.at (ar.new _ _ _) (by simp))
 have E0:Hid (Ext w V):=by rw[hV];exact hid (((Ext.refl w).alloc _).alloc _)
 have lI:Hid (V.heap.size=w.heap.size+1+1):=hid (by rw[hV];simp);clear hV;have yX:w.heap.size+1<V.heap.size:=by rw[lI.out];omega
 have e0:V.cell? ⟨w.heap.size,0,none⟩=some (.int .u8 k):=N0.out.cell 0;have e1:V.cell? ⟨w.heap.size,1,none⟩=some (.int .u64 (wd s 0).toNat):=N0.out.cell 1;have e2:V.cell? ⟨w.heap.size,2,none⟩=some (.int .u64 (wd s 1).toNat):=N0.out.cell 2;have e3:V.cell? ⟨w.heap.size,3,none⟩=some (.int .u64 (wd s 2).toNat):=N0.out.cell 3;have e4:V.cell? ⟨w.heap.size,4,none⟩=some (.int .u64 (wd s 3).toNat):=N0.out.cell 4;have e5:V.cell? ⟨w.heap.size,5,none⟩=some (.int .i64 mn):=N0.out.cell 5;have e6:V.cell? ⟨w.heap.size,6,none⟩=some (.int .i64 mx):=N0.out.cell 6;have e7:V.cell? ⟨w.heap.size,7,none⟩=some (.slice p n c):=N0.out.cell 7;have Wo:w.heap.size<V.heap.size:=N0.out.lt;have hk:k=1\/k=2\/k=3\/k=4\/k=5\/k=6:=by omega
 clear h1 h6;rcases hk with rfl | rfl | rfl | rfl | rfl | rfl
 all_goals
  refine aK false (fun _=>False) (by kernel_rfl) 6 [0,1,0,4,15,0,63,127] (fun i=>i==1 || i==6 || i==7) (by kernel_rfl) (fun i=>if i=1 then acb.tab M w.heap.size else aZ.any _) ?_;intro C hC hne;have HC:=hid hC;have f0:=aC hC (p:=⟨w.heap.size,0,none⟩) Wo (fun h=>h) e0;have f1:=aC hC (p:=⟨w.heap.size,1,none⟩) Wo (fun h=>h) e1;have f2:=aC hC (p:=⟨w.heap.size,2,none⟩) Wo (fun h=>h) e2;have f3:=aC hC (p:=⟨w.heap.size,3,none⟩) Wo (fun h=>h) e3;have f4:=aC hC (p:=⟨w.heap.size,4,none⟩) Wo (fun h=>h) e4;have f5:=aC hC (p:=⟨w.heap.size,5,none⟩) Wo (fun h=>h) e5;have f6:=aC hC (p:=⟨w.heap.size,6,none⟩) Wo (fun h=>h) e6;have f7:=aC hC (p:=⟨w.heap.size,7,none⟩) Wo (fun h=>h) e7;clear hC e0 e1 e2 e3 e4 e5 e6 e7
  repeat (refine au (fun K hK=>?_);first | (refine bX rfl ?_;try go_simp;refine hK _ _ ?_;clear hK K) | (refine bR rfl rfl ?_;unfold aB;go_simp;refine hK _ _ ?_;clear hK K))
  refine au (fun K hK=>?_);refine ck rfl rfl (acb.tab M w.heap.size) rfl (fun W hW hN=>?_) (fun v hv=>?_)
  ·have hM:=(HC.out W).1 hW
   clear hW hN hK K;go_simp;refine bM ((MQ M W).mono ?_);rintro e w' ⟨rfl,hx,hc⟩;have hz:=hM.size;exact⟨_,rfl,Move.ext hx,⟨_,rfl,by omega⟩,fun Y hY=>by have:=IQ hY;subst this;exact⟨World.block_lt_of_cell? _ _ hc,hc⟩⟩
  obtain⟨X,rfl,hXn⟩:=hv;have ix1:=fun W=>(lD M X W).1
  have ix2:=fun W=>(lD M X W).2.1
  have ix3:=fun W=>(lD M X W).2.2.1
  have ix4:=fun W=>(lD M X W).2.2.2.1
  have ix5:=fun W=>(lD M X W).2.2.2.2.1
  have ix6:=fun W=>(lD M X W).2.2.2.2.2
  go_simp;refine hK _ _ ?_;clear hK K
  repeat (refine au (fun K hK=>?_);first | (refine bX rfl ?_;try go_simp;refine hK _ _ ?_;clear hK K) | (refine bR rfl rfl ?_;unfold aB;go_simp;refine hK _ _ ?_;clear hK K))
  refine bG (fun W hW hH=>?_);have j5:=(HC.out W).1 hW;obtain⟨hXl,hXc⟩:X<W.heap.size/\W.cell? ⟨X,0,none⟩=some (.pointer (some ⟨M,0,none⟩)):=(hH _ (aw (show _=some _ from rfl:_[0]? =some _))) X rfl;have MW:Hid (fM base M F W m):=hid ((HM.out.keeps E0.out.keeps fun x hx=>(HM.out.lt x hx).2).keeps (ae.ak j5.below fun _ h=>h:ae (· <V.heap.size) V W) fun x hx=>by have:=(HM.out.lt x hx).2;omega);have IW:=hid ((HR.out.keeps E0.out.keeps fun x hx=>by omega).keeps (ae.ak j5.below fun _ h=>h:ae (· <V.heap.size) V W) fun x hx=>by omega);have RW:=hid (R0.out.below j5.below R0.out.lt);have KW:Hid (ae (· <w.heap.size) w W):=hid (E0.out.keeps.tr (ae.ak j5.below fun x hx=>by omega:ae (· <w.heap.size) V W));have sX:w.heap.size+1<W.heap.size:=by have:=j5.size;omega
  have hnX:¬F X:=fun e=>by have:=(HM.out.lt X e).2;omega
  have CC:=hid (HCL.out W X MW.out IW.out hXc hnX);clear j5 hW hH HC hne f0 f1 f2 f3 f4 f5 f6 f7 MW IW HCL hXc ix1 ix2 ix3 ix4 ix5 ix6;go_wp2_with fail
  refine CC.out.mono ?_;rintro e w3 ⟨rfl,hF',hx⟩;have oA:∀ k,w.heap.size<=k->¬F k:=fun k hk e=>by have:=(HM.out.lt k e).2;omega
  have R3:Hid (ar w3 (w.heap.size+1) (zeroV false) 181):=hid (RW.out.keeps hx ⟨by omega,oA _ (by omega)⟩);have QO:=hid hF';have HK:=hid hx;have hs3:=hx.size;clear hx hF' CC;go_wp2_with (refine wpList_store_row rfl 181 (.tmp 4) (.tmp 11) rfl (w.heap.size+1) (ay p2) rfl rfl 181 (zeroV false) R3.out (bE _) rfl (ez _) ?_;refine Hid.out ?_);refine hid ?_;obtain⟨V3,cT⟩:=ag (w3.setRow (w.heap.size+1) (ay p2));rw[<-cT];have R9:Hid (ar V3 (w.heap.size+1) (ay p2) 181):=by rw[cT];exact hid R3.out.setRow
  have K9:ae (· ≠w.heap.size+1) w3 V3:=by rw[cT];exact bI _ _ _
  clear cT;go_wp2;obtain⟨m0,m1,m2,m3,m4,m5,m6,m7,m8,m9,m10,m11,m12,m13,m14⟩:=R9.out.part;refine bodyPost_ret (v:=.agg (ay p2)) (by simp[results,Tryz.results102,ay,go_sem,m0,m1,m2,m3,m4,m5,m6,m7,m8,m9,m10,m11,m12,m13,m14]) rfl ⟨rfl,?_,?_,?_⟩
  ·obtain⟨F',h1,h2,h3⟩:=QO.out
   refine⟨F',h1.keeps K9 fun x hx e=>by(rcases h3 x hx with h | h;exact oA _ (by omega) h;omega),h2,fun x hx=>(h3 x hx).imp id fun h=>by omega⟩
  ·exact(KW.out.mono fun x hx=>hx.1).tr ((HK.out.mono fun x hx=>⟨by have:=hx.1;omega,hx.2⟩).tr (K9.mono fun x hx=>by have:=hx.1;omega))
  ·have:=K9.size;omega
theorem jR.clo {base M:Nat} {F:Nat->Prop} {w:World} {m:GM} {p:GP} {e:Ending} {w':World} (h:jR base M F w m p e w'):Wn base M F w m p e w':=⟨h.1,h.2.1,h.2.2.1⟩
theorem oD {l:List RX} :∀ {t:RX},t∈l->t.size<=RX.sizes l:=by
 induction l with
 | nil=>intro t h;cases h
 | cons x l ih=>
  intro t h;rw[RX.sizes];rcases List.mem_cons.1 h with rfl | h
  ·omega
  ·have:=ih h;omega
theorem wX:∀ (l:List RX),l.length<=RX.sizes l
 | []=>Nat.zero_le _
 | t::l=>by rw[RX.sizes,List.length_cons];have:=size_pos t;have:=wX l;omega
theorem Ra (n0:Nat) (t:RX):t.fine->t.size<=10000->IP n0 t:=by
 induction t using RX.ind with
 | h k s mn mx l ih=>
  intro hf hs;obtain⟨hr,hl⟩:=lV.1 hf;obtain⟨_,q2,q3,q4,q5,q6,_⟩:=sV hr;rw[RX.size]at hs;have hlen:=wX l;have ih:∀ t∈l,IP n0 t:=fun t ht=>ih t ht (hl t ht) (by have:=oD ht;omega)
  have wY:∀ t∈l,t.full=true:=fun t ht=>pU t (hl t ht)
  intro base M F m w v dh hm hv ok nY ace;obtain⟨p,c,rfl⟩:=hv.form;simp only[RX.kind,RX.set,RX.mn,RX.mx,RX.subs]at hv ⊢;refine IU n0 base M F m _ _ k s mn mx l p _ c w dh hm hv (by omega) q4 fun W X hW hvW hX EY=>?_
  have hk:k=1\/k=2\/k=3\/k=4\/k=5\/k=6:=by omega
  rcases hk with rfl | rfl | rfl | rfl | rfl | rfl
  ·have e:(RX.nd 1 s mn mx l).dy m=(m,⟨0,0,true⟩):=by rw[RX.dy];rfl
   rw[e];refine(IE 1 s mn mx _ W).mono ?_;rintro e w' ⟨rfl,hx⟩;exact⟨by show _=Ending.returned (.agg (ay ⟨0,0,true⟩));rw[iG],⟨F,hW.keeps hx fun x h=>(hW.lt x h).2,fun _ h=>h,fun _ h=>.inl h⟩,hx.mono fun _ h=>h.1⟩
  ·have e:(RX.nd 2 s mn mx l).dy m=(⟨m.aL++ [s],m.cF++ [0]⟩,⟨eJ m.aL.length,eJ m.aL.length,false⟩):=by rw[RX.dy];rfl
   rw[e];have hc1:(RX.nd 2 s mn mx l).cnt=1:=by rw[RX.cnt];rfl
   exact(II base M F m s mn mx _ X W hW hX EY nY (by omega)).mono fun e w' h=>h
  ·have e:(RX.nd 3 s mn mx l).dy m=RX.jg l (m,⟨0,0,true⟩):=by rw[RX.dy];rfl
   have hc1:(RX.nd 3 s mn mx l).cnt=RX.gF l:=by rw[RX.cnt];rfl
   rw[e];exact(QV n0 base M F m 3 s mn mx l p _ c X W dh hW hvW ih wY hX EY ok nY (by omega) (by omega)).mono fun e w' h=>h.clo
  ·have e:(RX.nd 4 s mn mx l).dy m=RX.fW l (m,⟨0,0,false⟩):=by rw[RX.dy];rfl
   have hc1:(RX.nd 4 s mn mx l).cnt=RX.gF l:=by rw[RX.cnt];rfl
   rw[e];exact(QS n0 base M F m 4 s mn mx l p _ c X W dh hW hvW ih wY hX EY ok nY (by omega) (by omega)).mono fun e w' h=>h.clo
  ·have hb:=q6 rfl
   obtain⟨g1,g2,g3⟩:=tZ hb;obtain⟨t,l',rfl⟩:∃ t l',l=t::l':=by
    cases l with
    | nil=>have:=q5 (.inl rfl);simp at this
    | cons t l'=>exact⟨t,l',rfl⟩
   have e:(RX.nd 5 s mn mx (t::l')).dy m=dV mn mx (fun m=>t.dy m) m (fe mn mx):=by rw[RX.dy];show RX.rpG mn mx (t::l') m=_;rw[RX.rpG]
   have hc1:(RX.nd 5 s mn mx (t::l')).cnt=fe mn mx*t.cnt:=by rw[RX.cnt];show fe mn mx*RX.cnt1 (t::l')=_;rw[RX.cnt1]
   rw[e];have hmx:mx= -1\/(1<=mx/\mx≠ -1):=by
    unfold iQ at hb;split at hb
    ·cases hb
    ·simp at hb
     omega
   rcases hmx with rfl | ⟨hmx,hne⟩
   ·refine(ab1 n0 base M F m 5 s mn (fe mn (-1)) t l' p _ c W dh hW hvW (ih t (aW ..)) (wY t (aW ..)) ok nY ?_ g3 rfl (by omega)).mono fun e w' h=>h.clo
    unfold fe;rw[if_pos rfl];omega
   ·obtain⟨N,rfl⟩:∃ N:Nat,mx=N:=⟨mx.toNat,by omega⟩
    have hN:fe mn (N:Int)=N:=by unfold fe;rw[if_neg hne];simp
    rw[hN]at g3 hc1 ⊢;exact(ab9 n0 base M F m 5 s mn N t l' p _ c W dh hW hvW (ih t (aW ..)) (wY t (aW ..)) ok nY (by omega) g3 hN (by omega)).mono fun e w' h=>h.clo
  ·obtain⟨t,l',rfl⟩:∃ t l',l=t::l':=by
    cases l with
    | nil=>have:=q5 (.inr rfl);simp at this
    | cons t l'=>exact⟨t,l',rfl⟩
   have e:(RX.nd 6 s mn mx (t::l')).dy m=t.dy m:=by rw[RX.dy];show RX.hdG (t::l') m=_;rw[RX.hdG]
   have hc1:(RX.nd 6 s mn mx (t::l')).cnt=t.cnt:=by rw[RX.cnt];show RX.cnt1 (t::l')=_;rw[RX.cnt1]
   rw[e];exact(UD n0 base M F m 6 s mn mx t l' p _ c X W dh hW hvW (ih t (aW ..)) hX EY ok nY (by omega)).mono fun e w' h=>h.clo
attribute [local go_sem] Oper.semAt_some gJ dB
theorem qh {T:Nat->Prop} :∀ (Ds:List Nat) (W:World),(∀ D∈Ds,T D)->Move true T W (Ds.foldl (fun W D=>W.putObj D (.deferred none)) W)
 | [],_,_=>Move.refl _ _ _
 | D::Ds,_,h=>(Move.put (h D (aW ..)) _).trans (qh Ds _ fun E hE=>h E (bF _ hE))
theorem jS:∀ (Ds:List Nat) (W:World),(Ds.foldl (fun W D=>W.putObj D (.deferred none)) W).heap.size=W.heap.size
 | [],_=>rfl
 | D::Ds,_=>by rw[List.foldl_cons,jS Ds];simp
theorem lY (c:Array Value) (w:World):ah 160 #[.agg c] w fun e w'=>e=.returned (.func (.func 195) #[] #[.pointer (some ⟨w.heap.size,0,none⟩)])/\w'=w.alloc (.cells c 97 (0,0)):=by
 go_enter Tryz.func160,Tryz.ntmps160
 go_wp2;go_ret;exact⟨rfl,rfl⟩
theorem oF:∀ args w,(callFunc 195 args).run Tryz.prog w=.ok (.enter 195 args) w:=enters_of Tryz.func195 (by kernel_rfl) rfl
abbrev j9:=Value×RX
def Fh (x:j9):Array Value:= #[x.1]
theorem Ai {l:List RX} (f:Nat->List j9) (hf:∀ i t,l[i]? =some t->(f i).map (·.2)=t.pre):∀ j,j<=l.length->((List.range j).flatMap f).map (·.2)=RX.lq (l.take j)
 | 0,_=>by simp[RX.lq]
 | j+1,hj=>by
  have hl:l[j]? =some (l[j]'(by omega)):=az (by omega);have pa:∀ a b:List RX,RX.lq (a++b)=RX.lq a++RX.lq b:=by
   intro a b;induction a with
   | nil=>rfl
   | cons x a ih=>rw[List.cons_append,RX.lq,RX.lq,ih,List.append_assoc]
  rw[List.range_succ,List.flatMap_append,List.map_append,Ai f hf j (by omega),List.take_add_one,hl,pa];congr 1;simp[hf j _ hl,RX.lq]
theorem Aj (f:Nat->List j9) (h:j9) {i n:Nat} (hi:i<=n):h::(List.range i).flatMap f<+:h::(List.range n).flatMap f:=by
 induction n with
 | zero=>rw[show i=0 by omega];exact List.prefix_rfl
 | succ n ih=>
  by_cases e:i=n+1
  ·subst e;exact List.prefix_rfl
  ·exact(ih (by omega)).trans (by rw[List.range_succ,List.flatMap_append];exact⟨_,by rw[List.cons_append]⟩)
theorem Cn (f:Nat->List j9) (h:j9) (i:Nat):h::(List.range (i+1)).flatMap f=(h::(List.range i).flatMap f)++f i:=by rw[List.range_succ,List.flatMap_append,List.cons_append];simp
theorem wZ:∀ {l:List RX} {t:RX},t∈l->t.size<=RX.sizes l
 | x::l,t,h=>by
  rw[RX.sizes];rcases List.mem_cons.1 h with rfl | h
  ·omega
  ·have:=wZ h;omega
theorem oG:∀ (l:List RX),l.length<=RX.sizes l
 | []=>by simp
 | x::l=>by
  rw[RX.sizes,List.length_cons];have:=oG l;have h1:1<=x.size:=by cases x;rw[RX.size];omega
  omega
def Wp (D:Nat):Deferred:= {target:=.collected D,args:= #[]}
theorem mF {P:Program} {fn:Func} {R:Ending->World->Prop} {tmps:Array Value} {v:Value} {Ds:List Nat} {W:World} {x:Exit} (hx:x=.normal\/x=.ret) (hn:Ds.Nodup) (hD:∀ D∈Ds,W.heap[D]? =some (.deferred (some []))) (hr:∀ W,(results fn tmps).run P W=.ok v W) (hR:R (.returned v) (Ds.foldl (fun W D=>W.putObj D (.deferred none)) W)):bodyPostM Fence.wide 0 P fn R x {tmps:=tmps,defers:=Ds.map Wp} W:=by
 have h:=pG (P:=P) (fn:=fn) (tmps:=tmps) (R:=R) Ds W hn hD (hr _) hR;rcases hx with rfl | rfl
 ·exact h
 ·exact h
structure gg (R:Nat->Prop) (J:List j9->(Nat->Prop)->World->Prop) (W1:World) (Y:Nat) (yv:Value) (pre:List j9) (Ds:List Nat) (T:Nat->Prop) (W:World):Prop where
 je:∀ k,T k->W1.heap.size<=k/\k<W.heap.size
 y:T Y
 yb:ar W Y #[yv] 172
 nodup:Ds.Nodup
 ds:∀ D∈Ds,T D/\W.heap[D]? =some (.deferred (some []))
 keep:ae R W1 W
 j:J pre T W
theorem gg.more {R:Nat->Prop} {J:List j9->(Nat->Prop)->World->Prop} {W1:World} {Y:Nat} {yv:Value} {pre:List j9} {Ds:List Nat} {T:Nat->Prop} {W W':World} (h:gg R J W1 Y yv pre Ds T W) (hJ:eR true W1.heap.size J) (hR:∀ k,R k->k<W1.heap.size) {T':Nat->Prop} (hx:Ext W W') (ht:∀ k,T k->T' k) (ht':∀ k,T' k->(T k\/W.heap.size<=k)/\k<W'.heap.size):gg R J W1 Y yv pre Ds T' W':=by
 have h1:W1.heap.size<=W.heap.size:=h.keep.size;have hr:∀ k,T' k->W1.heap.size<=k/\k<W'.heap.size:=fun k hk=>⟨by rcases(ht' k hk).1 with h2 | h2;exact(h.je k h2).1;omega,(ht' k hk).2⟩
 refine⟨hr,ht _ h.y,h.yb.ext hx,h.nodup,fun D hD=>⟨ht _ (h.ds D hD).1,?_⟩,h.keep.tr (hx.mono fun k hk=>by have:=hR k hk;omega),hJ _ _ _ _ _ h.j h.je hr ht (fun k hk=>(ht' k hk).1) (.ext hx)⟩;exact(hx.keep D (h.je D (h.ds D hD).1).2).trans (h.ds D hD).2
theorem gg.move {R:Nat->Prop} {J:List j9->(Nat->Prop)->World->Prop} {W1:World} {Y:Nat} {yv:Value} {pre:List j9} {Ds:List Nat} {T Ti Om:Nat->Prop} {W W':World} {B:Nat} (h:gg R J W1 Y yv pre Ds (fun k=>T k\/Ti k) W) (hJ:eR true W1.heap.size J) (hR:∀ k,R k->k<W1.heap.size) (hB:W1.heap.size<=B) (hYB:Y<B) (hDB:∀ D∈Ds,D<B) (h1:∀ k,Ti k->B<=k/\k<W.heap.size) (h2:∀ k,Om k->B<=k/\k<W'.heap.size) (h3:∀ k,Ti k->Om k) (h4:∀ k,Om k->Ti k\/W.heap.size<=k) (h5:Move true Ti W W'):gg R J W1 Y yv pre Ds (fun k=>T k\/Om k) W':=by
 have hs:=h5.size;have hr:∀ k,(T k\/Om k)->W1.heap.size<=k/\k<W'.heap.size:=fun k hk=>by
  rcases hk with hk | hk
  ·have:=h.je k (.inl hk);exact⟨this.1,by omega⟩
  ·have:=h2 k hk;exact⟨by omega,this.2⟩
 refine⟨hr,?_,h.yb.keeps h5.keeps ⟨h.yb.lt,fun e=>by have:=(h1 _ e).1;omega⟩,h.nodup,fun D hD=>⟨?_,?_⟩,h.keep.tr (h5.keeps.mono fun k hk=>⟨by have:=hR k hk;have:=h.keep.size;omega,fun e=>by have:=(h1 _ e).1;have:=hR k hk;omega⟩),hJ _ _ _ _ _ h.j h.je hr (fun k hk=>hk.imp id (h3 k)) (fun k hk=>hk.elim (fun h=>.inl (.inl h)) fun h=>(h4 k h).imp .inr id) (h5.mono fun k hk=>.inr hk)⟩
 ·exact h.y.imp id (h3 _)
 ·exact(h.ds D hD).1.imp id (h3 _)
 ·exact(h5.keeps.keep D ⟨(h.je D (h.ds D hD).1).2,fun e=>by have:=(h1 _ e).1;have:=hDB D hD;omega⟩).trans (h.ds D hD).2
theorem gg.round {R:Nat->Prop} {J:List j9->(Nat->Prop)->World->Prop} {W1:World} {Y:Nat} {yv:Value} {pre pre':List j9} {Ds:List Nat} {T:Nat->Prop} {W W':World} (h:gg R J W1 Y yv pre Ds T W) (hk:ae (fun k=>R k\/T k) W W') (hj:J pre' T W'):gg R J W1 Y yv pre' Ds T W':=
 ⟨fun k tD=>⟨(h.je k tD).1,aA (h.je k tD).2 hk.size⟩,h.y,h.yb.keeps hk (.inr h.y),h.nodup,fun D hD=>⟨(h.ds D hD).1,(hk.keep D (.inr (h.ds D hD).1)).trans (h.ds D hD).2⟩,h.keep.tr (hk.mono fun _ hk=>.inl hk),hj⟩
structure Co (Jx:List j9->(Nat->Prop)->World->Prop) (W1:World) (pre:List j9) (Ds:List Nat) (T:Nat->Prop) (W:World):Prop where
 je:∀ k,T k->W1.heap.size<=k/\k<W.heap.size
 ds:∀ D∈Ds,T D/\W.heap[D]? =some (.deferred (some []))
 j:Jx pre T W
theorem Co.move {Jx:List j9->(Nat->Prop)->World->Prop} {W1:World} {pre:List j9} {Ds:List Nat} {T Ti Om:Nat->Prop} {W W':World} {B:Nat} (h:Co Jx W1 pre Ds (fun k=>T k\/Ti k) W) (hJ:eR true W1.heap.size Jx) (hB:W1.heap.size<=B) (hDB:∀ D∈Ds,D<B) (h1:∀ k,Ti k->B<=k/\k<W.heap.size) (h2:∀ k,Om k->B<=k/\k<W'.heap.size) (h3:∀ k,Ti k->Om k) (h4:∀ k,Om k->Ti k\/W.heap.size<=k) (h5:Move true Ti W W'):Co Jx W1 pre Ds (fun k=>T k\/Om k) W':=by
 have hs:=h5.size;have hr:∀ k,(T k\/Om k)->W1.heap.size<=k/\k<W'.heap.size:=fun k hk=>by
  rcases hk with hk | hk
  ·have:=h.je k (.inl hk);exact⟨this.1,by omega⟩
  ·have:=h2 k hk;exact⟨by omega,this.2⟩
 refine⟨hr,fun D hD=>⟨(h.ds D hD).1.imp id (h3 _),?_⟩,hJ _ _ _ _ _ h.j h.je hr (fun k hk=>hk.imp id (h3 k)) (fun k hk=>hk.elim (fun h=>.inl (.inl h)) fun h=>(h4 k h).imp .inr id) (h5.mono fun k hk=>.inr hk)⟩;exact(h5.keeps.keep D ⟨(h.je D (h.ds D hD).1).2,fun e=>by have:=(h1 _ e).1;have:=hDB D hD;omega⟩).trans (h.ds D hD).2
theorem s4 (n0:Nat) (t:RX):t.size<=10000000->∀ (v:Value) (w:World),aJ (· <n0) w v t->n0<=w.heap.size->∃ xs:List j9,xs.map (·.2)=t.pre/\(∀ x∈xs,aJ (· <n0) w x.1 x.2)/\ ∀ (W:World) (B:Nat) (c:Array Value),v=.agg c->ae (· <n0) w W->ar W B c 97->Seq true Tryz.prog 195 #[.pointer (some ⟨B,0,none⟩)] Fh (fun k=>k<n0\/k=B) xs W:=by
 induction t using RX.ind with
 | h k s mn mx l ih=>
  intro hsz v w hv dh;obtain⟨p,cp,rfl⟩:=hv.form;obtain⟨n,hn⟩:=ag l.length;have HV:=hid hv;simp only[RX.kind,RX.set,RX.mn,RX.mx,RX.subs]at HV ⊢;rw[<-hn]at HV ⊢
  have hch:∀ i,∃ xs:List j9,∀ t,l[i]? =some t->xs.map (·.2)=t.pre/\(∀ x∈xs,aJ (· <n0) w x.1 x.2)/\∀ (p':Option Addr) (c':Nat),aJ (· <n0) w (.agg (aq t.kind t.set t.mn t.mx (.slice p' t.subs.length c'))) t->∀ b off,p=some ⟨b,off,none⟩->w.cell? ⟨b,off+i*8+7,none⟩=some (.slice p' t.subs.length c')->
    ∀ (W:World) (B:Nat),ae (· <n0) w W->ar W B (aq t.kind t.set t.mn t.mx (.slice p' t.subs.length c')) 97->Seq true Tryz.prog 195 #[.pointer (some ⟨B,0,none⟩)] Fh (fun k=>k<n0\/k=B) xs W:=fun i=>by
   cases hi:l[i]? with
   | none=>exact⟨[],fun t h=>by cases h⟩
   | some t=>
    obtain⟨b,off,p',c',ep,_,_,_,Yw,hr⟩:=HV.out.elem hi;obtain⟨xs,h1,h2,h3⟩:=ih t (aw hi) (Nat.le_trans (wZ (aw hi)) (by rw[RX.size]at hsz;omega)) _ w hr dh;refine⟨xs,fun t' e=>?_⟩;cases e;refine⟨h1,h2,fun p2 c2 _ b2 fV e2 hc2 W B hW hB=>?_⟩;rw[ep]at e2;cases e2;have e3:=Yw.2.2.2.2.2.2.2;rw[hc2]at e3;cases e3;exact h3 W B _ rfl hW hB
  obtain⟨f,hf⟩:=Classical.axiomOfChoice hch;clear hch ih;obtain⟨cv,hcv⟩:=ag (aq k s mn mx (.slice p n cp));obtain⟨x0,hx0⟩:=ag ((.agg cv,.nd k s mn mx l):j9);refine⟨x0::(List.range n).flatMap f,?_,fun x hx=>?_,?_⟩
  ·rw[List.map_cons,Ai f (fun i t h=>(hf i t h).1) n (by omega),hn,List.take_length,RX.pre,hx0]
  ·rcases List.mem_cons.1 hx with rfl | hx
   ·rw[hx0,hcv];exact HV.out
   ·obtain⟨i,hi,hxi⟩:=List.mem_flatMap.1 hx
    have gL:i<l.length:=by have:=List.mem_range.1 hi;omega
    exact(hf i _ (az gL)).2.1 x hxi
  intro WS B c ec hKS hB;cases ec;rw[<-hcv]at hB;have HF:=hid hf;have LJ:=hid hx0;clear hf hv hx0;intro ly J Jx W1 hK hJ Xo hY h0;have HY:=hid hY;have HJ:=hid hJ;have HJX:=hid Xo;clear hY hJ Xo;have B1:=hB.keeps hK hB.lt;have KW:ae (· <n0) w W1:=hKS.tr (hK.mono fun k hk=>aA hk (by have:=hKS.size;omega));have ach:n0<=W1.heap.size:=by have:=KW.size;omega
  have Yx:∀ k,(k<n0\/k=B)->k<W1.heap.size:=fun k hk=>by rcases hk with hk | rfl;omega;exact B1.lt
  have amL:n<=10000000:=by rw[hn];exact Nat.le_trans (oG l) (by rw[RX.size]at hsz;omega)
  refine callsIn_wide (n:=0).1 ?_;refine callsIn_of_wp_marks Tryz.func195 rfl trivial ?_ rfl;simp only[Tryz.ntmps195,List.size_toArray,List.length_cons,List.length_nil,Nat.reduceAdd,Nat.reduceSub,Array.replicate_succ,Array.replicate_zero,List.push_toArray,List.append_toArray,List.nil_append,List.cons_append];have I2:gg (fun k=>k<n0\/k=B) J W1 W1.heap.size (.func (.yield ly) #[] #[]) [] [] (fun k=>k=W1.heap.size) (W1.alloc (.cells #[.func (.yield ly) #[] #[]] 172 (0,0))):=
   ⟨fun k hk=>by rw[hk];simp,rfl,ar.new _ _ _,List.nodup_nil,fun D h=>by(cases h),((Ext.refl _).alloc _).mono fun k hk=>Yx k hk,HJ.out _ _ _ _ _ h0 (fun k h=>h.elim) (fun k hk=>by rw[hk];simp) (fun k h=>h.elim) (fun k hk=>.inr (by rw[hk];exact aD _)) (.ext ((Ext.refl _).alloc _))⟩
  obtain⟨fn,tm,DB,bd,hy,DZ⟩:=HY.out [] x0 _ _ ⟨_,rfl⟩ I2.je I2.keep I2.j;have Oc:=hid DZ;have I2H:=hid I2;have B2:=hid (B1.alloc (.cells #[.func (.yield ly) #[] #[]] 172 (0,0)));clear DZ I2 h0;rw[Fh,LJ.out]at hy;obtain⟨Yy,UJ⟩:=ag ((⟨W1.heap.size,0,none⟩:Addr));have q0:(W1.alloc (.cells #[.func (.yield ly) #[] #[]] 172 (0,0))).cell? ⟨W1.heap.size,0,none⟩=some (.func (.yield ly) #[] #[]):=(ar.new _ _ _).cell 0;rw[hcv]at B2 hy;obtain⟨b0,b1,b2,b3,b4,b5,b6,b7⟩:=(show _/\_/\_/\_/\_/\_/\_/\_ from⟨B2.out.cell 0,B2.out.cell 1,B2.out.cell 2,B2.out.cell 3,B2.out.cell 4,B2.out.cell 5,B2.out.cell 6,B2.out.cell 7⟩);simp only[aq,List.getElem?_toArray,List.getElem?_cons_zero,List.getElem?_cons_succ]at b0 b1 b2 b3 b4 b5 b6 b7;dsimp only[aq]at hy;clear UJ Yy;have HN:=hid hn;clear hn
  gi_wp2
  refine Oc.out.mono ?_;rintro e W2 (⟨rfl,kR,hk2⟩ | ⟨rfl,hjx,hk2⟩)
  rotate_left
  ·have UK:=I2H.out.je
   have h5:=hk2.size;clear hy
   gi_wp2
   exact yG rfl (results_none rfl _ _ _) ⟨⟨_,rfl⟩,_,fun k hk=>⟨(UK k hk).1,aA (UK k hk).2 h5⟩,.inr ⟨[x0],⟨_,rfl⟩,hjx⟩⟩
  have I3:=hid (I2H.out.round hk2 kR);have KB:Hid (ar W2 B (aq k s mn mx (.slice p n cp)) 97):=hid (B2.out.keeps hk2 (.inl (.inr rfl)));have g7:W2.cell? ⟨B,7,none⟩=some (.slice p n cp):=KB.out.cell 7;clear hy kR hk2 q0 b0 b1 b2 b3 b4 b5 b6 b7 B2 I2H Oc
  gi_wp2
  have HR:=hid Yx;have y9:=hid KW;clear g7 KB Yx KW hB hKS hK;refine wpIn_loop (fun a W=>∃ (i:Nat) (Ds:List Nat) (T:Nat->Prop) (u4 u14 u15 u16 u17 u18 u24:Value),i<=n/\a= {tmps:= #[.func (.yield ly) #[] #[],.pointer (some ⟨B,0,none⟩),.pointer (some ⟨W1.heap.size,0,none⟩),undef,u4,undef,.func (.yield ly) #[] #[],.agg (aq k s mn mx (.slice p n cp)),.bool true,.bool false,.pointer (some ⟨B,7,none⟩),.slice p n cp,.int .i64 n,.int .i64 i,u14,u15,u16,u17,u18,undef,undef,undef,undef,undef,u24],defers:=Ds.map Wp} /\gg (fun k=>k<n0\/k=B) J W1 W1.heap.size (.func (.yield ly) #[] #[]) (x0::(List.range i).flatMap f) Ds T W)
   (fun a _=>n-(intOf (a.tmps.getD 13 undef)).toNat) ⟨0,[],_,undef,undef,undef,undef,undef,undef,undef,by omega,rfl,I3.out⟩ ?_
  rintro a w4 ⟨i,Ds,T,u4,u14,u15,u16,u17,u18,u24,hi,rfl,hI⟩;have HI:=hid hI;clear I3;by_cases hlt:i<n
  rotate_left
  ·obtain rfl:i=n:=by omega
   have eG:¬ ((i:Int)<i):=by omega
   clear hI
   gi_wp2
   refine mF (.inl rfl) HI.out.nodup (fun D hD=>(HI.out.ds D hD).2) (fun W=>results_none rfl _ _ _) ⟨⟨_,rfl⟩,T,fun k hk=>by rw[jS];exact HI.out.je k hk,.inl ?_⟩;exact HJ.out _ _ _ _ _ HI.out.j HI.out.je (fun k hk=>by rw[jS];exact HI.out.je k hk) (fun _ h=>h) (fun _ h=>.inl h) (qh Ds w4 fun D hD=>(HI.out.ds D hD).1)
  have eG:(i:Int)<n:=by omega
  obtain⟨t,ht⟩:∃ t,l[i]? =some t:=⟨_,az (by have:=HN.out;omega)⟩;have KW4:Hid (ae (· <n0) w w4):=hid (y9.out.tr (hI.keep.mono fun k hk=>.inl hk));obtain⟨b,off,p',c',ep,hbF,hb,amM,⟨q0,q1,q2,q3,q4,q5,q6,q7⟩,hrt⟩:=HV.out.elem ht;have hf9:=(HF.out i t ht).2.2 p' c' hrt b off ep q7;have HFM:=hid ((HF.out i t ht).2.1);have hcell:∀ j,w4.cell? ⟨b,j,none⟩=w.cell? ⟨b,j,none⟩:=fun j=>KW4.out.cell (p:=⟨b,j,none⟩) hbF
  replace q0:=(hcell _).trans q0;replace q1:=(hcell _).trans q1;replace q2:=(hcell _).trans q2;replace q3:=(hcell _).trans q3;replace q4:=(hcell _).trans q4;replace q5:=(hcell _).trans q5;replace q6:=(hcell _).trans q6;replace q7:=(hcell _).trans q7;replace hb:b<w4.heap.size:=aA hb KW4.out.size;subst ep;have HF9:=hid hf9;have HT:=hid ht;clear hf9 hI ht hcell hrt
  gi_wp2_with (gi_at_call 160;refine(callsIn_wide.2 (lY _ _)).mono ?_;rintro e w5 ⟨rfl,rfl⟩)
  refine Hc ?_;intro w5 hw5;have amO:w5.heap.size=w4.heap.size+2:=by rw[hw5];simp
  have x45:Ext w4 w5:=by rw[hw5];exact((Ext.refl _).alloc _).alloc _
  have BN:ar w5 (w4.heap.size+1) (aq t.kind t.set t.mn t.mx (.slice p' t.subs.length c')) 97:=by rw[hw5];exact(ar.new _ _ _).at (by simp)
  have amP:W1.heap.size<=w4.heap.size:=HI.out.keep.size;obtain⟨T2,UK⟩:=ag (fun k=>T k\/k=w4.heap.size\/k=w4.heap.size+1:Nat->Prop)
  have i5:gg (fun k=>k<n0\/k=B) J W1 W1.heap.size (.func (.yield ly) #[] #[]) (x0::(List.range i).flatMap f) Ds T2 w5:=HI.out.more HJ.out HR.out x45 (fun k hk=>by rw[UK];exact .inl hk) (fun k hk=>by
   rw[UK]at hk;rcases hk with hk | hk | hk
   ·exact⟨.inl hk,by have:=(HI.out.je k hk).2;omega⟩
   ·exact⟨.inr (by omega),by omega⟩
   ·exact⟨.inr (by omega),by omega⟩)
  have hDs:∀ D∈Ds,D<w5.heap.size:=fun D hD=>(i5.je D (i5.ds D hD).1).2
  have agq:T2 (w4.heap.size+1):=by rw[UK];exact .inr (.inr rfl)
  have hseq:=HF9.out w5 (w4.heap.size+1) (KW4.out.tr (x45.mono fun k hk=>by have:k<n0:=hk;omega)) BN;have hY5:W1.heap.size<w5.heap.size:=by omega
  have i5':gg (fun k=>k<n0\/k=B) J W1 W1.heap.size (.func (.yield ly) #[] #[]) ((x0::(List.range i).flatMap f)++ []) Ds (fun k=>T2 k\/False) w5:=by
   rw[List.append_nil];exact i5.more HJ.out HR.out (Ext.refl _) (fun k h=>.inl h) fun k h=>by
    rcases h with h | h
    ·exact⟨.inl h,(i5.je k h).2⟩
    ·exact h.elim
  have HPF:Hid (∀ pre (x:j9),pre++ [x]<+:f i->((x0::(List.range i).flatMap f)++pre)++ [x]<+:x0::(List.range n).flatMap f):=hid fun pre x h=>by
   refine List.IsPrefix.trans ?_ (Aj f x0 (show i+1<=n by omega));rw[Cn,List.append_assoc];exact List.prefix_append_right_inj _ |>.2 h
  have TD:∀ k,(k<n0\/k=w4.heap.size+1)->k<w5.heap.size:=fun k hk=>by
   rcases hk with hk | hk
   ·have:=HR.out k (.inl hk);omega
   ·omega
  have HI5:=hid i5';have I5K:=hid i5;have HT2:=hid UK;have XW5:=hid x45;have HDS:=hid hDs;obtain⟨done,hdone⟩:=ag (x0::(List.range i).flatMap f);rw[<-hdone]at HI5 HPF I5K;have HDN:=hid hdone;clear i5 i5' UK x45 BN hw5 hDs q0 q1 q2 q3 q4 q5 q6 q7 eG hdone
  refine wpIn_wide.2 (vB (d:=true) hseq (by rfl) oF (by intro _;rfl) TD
   (fun pre Ti W=>gg (fun k=>k<n0\/k=B) J W1 W1.heap.size (.func (.yield ly) #[] #[]) (done++pre) Ds (fun k=>T2 k\/Ti k) W)
   (fun c pre Ti W=>c=.ret/\Co Jx W1 (done++pre) Ds (fun k=>T2 k\/Ti k) W)
   (fun s T T' W W' h h1 h2 h3 h4 h5=>h.move HJ.out HR.out (by omega) hY5 HDS.out h1 h2 h3 h4 h5)
   (fun c s T T' W W' h h1 h2 h3 h4 h5=>⟨h.1,h.2.move HJX.out (by omega) HDS.out h1 h2 h3 h4 h5⟩)
   HI5.out
   (fun z Ti W=>∃ b9:Nat,z.2.2= {tmps:= #[.func (.yield ly) #[] #[],.pointer (some ⟨B,0,none⟩),.pointer (some ⟨W1.heap.size,0,none⟩),undef,.pointer (some ⟨w4.heap.size,0,none⟩),.pointer (some ⟨b9,0,none⟩),.func (.yield ly) #[] #[],.agg (aq k s mn mx (.slice (some ⟨b,off,none⟩) n cp)),.bool true,.bool false,.pointer (some ⟨B,7,none⟩),.slice (some ⟨b,off,none⟩) n cp,.int .i64 n,.int .i64 i,.bool true,.pointer (some ⟨b,off+i*8,none⟩),.agg (aq t.kind t.set t.mn t.mx (.slice p' t.subs.length c')),.agg (aq t.kind t.set t.mn t.mx (.slice p' t.subs.length c')),.func (.func 195) #[] #[.pointer (some ⟨w4.heap.size+1,0,none⟩)],z.2.1.1,undef,undef,undef,undef,u24],defers:=[]} /\w5.heap.size<=b9/\b9<W.heap.size/\¬Ti b9/\(∃ c,z.2.1.1=.agg c/\ar W b9 c 97)/\gg (fun k=>k<n0\/k=B) J W1 W1.heap.size (.func (.yield ly) #[] #[]) (done++z.1) Ds (fun k=>T2 k\/Ti k) W)
   ?hIa ?assign ?body ?done ?stop)
  case hIa=>
   rintro⟨pre,x,a1⟩ Ti Om W W' ⟨b9,e1,e2,e3,e4,⟨c,e5,e6⟩,e7⟩ h1 h2 h3 h4 h5;have hs:=h5.size;refine⟨b9,e1,e2,by omega,fun h=>?_,⟨c,e5,e6.keeps h5.keeps ⟨e3,e4⟩⟩,e7.move HJ.out HR.out (by omega) hY5 HDS.out h1 h2 h3 h4 h5⟩;rcases h4 b9 h with h | h
   ·exact e4 h
   ·omega
  case assign=>
   rintro lr pre ⟨xv,xt⟩ Ti W hp Yz hk hI;have hx:=HFM.out (xv,xt) (hp.subset (by simp));obtain⟨p9,c9,e9⟩:=hx.form;dsimp only at e9;subst e9;have HI9:=hid hI;have HTI:=hid Yz;clear hI Yz hx hp hseq;dsimp only[aq,Fh]
   gi_wp2
   have sX:w5.heap.size<=W.heap.size:=hk.size;refine⟨((ae.refl _ _).alloc (fun j hj=>?_) _),W.heap.size,rfl,sX,by simp,fun h=>by have:=(HTI.out _ h).2;omega,⟨_,rfl,ar.new _ _ _⟩,HI9.out.more HJ.out HR.out ((Ext.refl _).alloc _) (fun _ h=>h) fun j hj=>⟨.inl hj,by have:=(HI9.out.je j hj).2;simp;omega⟩⟩;rcases hj with hj | hj
   ·have:=TD j hj;omega
   ·exact(HTI.out j hj).2
  case body=>
   rintro lr pre ⟨xv,xt⟩ Ti a1 W hp Yz hk yF sD ⟨b9,e1,e2,e3,e4,⟨c9,e5,e6⟩,e7⟩;have hx:=HFM.out (xv,xt) (hp.subset (by simp));obtain⟨p9,cp9,e9⟩:=hx.form;dsimp only at e1 e5 e7 e9;rw[e5]at e9;injection e9 with e9
   subst e1 e5 e9;obtain⟨fn,tm,DB,bd,hy,DZ⟩:=HY.out _ _ _ _ (HPF.out pre _ hp) e7.je e7.keep e7.j;have Oc:Hid (RoundIn (Fence.wide.inRound lr) 0 Tryz.prog ly fn tm DB bd W _):=hid DZ;have q0:W.cell? ⟨W1.heap.size,0,none⟩=some (.func (.yield ly) #[] #[]):=e7.yb.cell 0;have E7:=hid e7;obtain⟨b0,b1,b2,b3,b4,b5,b6,b7⟩:=(show _/\_/\_/\_/\_/\_/\_/\_ from⟨e6.cell 0,e6.cell 1,e6.cell 2,e6.cell 3,e6.cell 4,e6.cell 5,e6.cell 6,e6.cell 7⟩);simp only[aq,List.getElem?_toArray,List.getElem?_cons_zero,List.getElem?_cons_succ]at b0 b1 b2 b3 b4 b5 b6 b7;dsimp only[aq,Fh]at hy;have HTI:=hid Yz;clear DZ e7 e6 hx hp sD hseq yF Yz
   gi_wp2
   refine Oc.out.mono ?_;rintro e W2 (⟨rfl,kR,hk2⟩ | ⟨rfl,hjx,hk2⟩)
   ·clear hy q0 b0 b1 b2 b3 b4 b5 b6 b7
    gi_wp2
    refine⟨hk2.mono fun j hj=>?_,?_⟩
    ·rcases hj with(hj | hj) | hj
     ·exact .inl (.inl hj)
     ·exact .inr (.inl (by rw[hj];exact agq))
     ·exact .inr (.inr hj)
    ·dsimp only
     rw[<-List.append_assoc];exact E7.out.round hk2 kR
   ·clear hy q0 b0 b1 b2 b3 b4 b5 b6 b7
    gi_wp2
    refine⟨hk2.mono fun j hj=>.inr hj,rfl,?_⟩;rw[<-List.append_assoc];exact⟨fun j hj=>⟨(E7.out.je j hj).1,aA (E7.out.je j hj).2 hk2.size⟩,fun D hD=>⟨(E7.out.ds D hD).1,(hk2.keep D (E7.out.ds D hD).1).trans (E7.out.ds D hD).2⟩,hjx⟩
  case done=>
   rintro D Ti W hD yI Yz hI mI;have HI9:=hid hI;have yx:=hid mI;clear hI mI hseq;dsimp only
   gi_wp2
   refine⟨⟨i+1,D::Ds,fun k=>T2 k\/Ti k,_,_,_,_,_,_,_,by omega,rfl,?_⟩,?_⟩
   ·have e5:=HI9.out
    rw[HDN.out, <-Cn]at e5;refine⟨e5.je,e5.y,e5.yb,List.nodup_cons.2 ⟨fun h=>by have:=HDS.out D h;omega,e5.nodup⟩,fun E hE=>?_,e5.keep,e5.j⟩;rcases List.mem_cons.1 hE with rfl | hE
    ·exact⟨.inr yI,yx.out⟩
    ·exact e5.ds E hE
   ·simp[intOf];omega
  case stop=>
   rintro D c pre Ti W hD yI Yz hp ⟨rfl,ho⟩ mI;have HO:=hid ho;clear ho hseq;dsimp only;go_wp2;refine mF (Ds:=D::Ds) (.inr rfl) (List.nodup_cons.2 ⟨fun h=>by have:=HDS.out D h;omega,HI.out.nodup⟩) (fun E hE=>?_) (fun W=>results_none rfl _ _ _) ⟨⟨_,rfl⟩,fun k=>T2 k\/Ti k,fun k hk=>by rw[jS];exact HO.out.je k hk,.inr ⟨done++pre,?_,?_⟩⟩
   ·rcases List.mem_cons.1 hE with rfl | hE
    ·exact mI
    ·exact(HO.out.ds E hE).2
   ·refine List.IsPrefix.trans ?_ (Aj f x0 (show i+1<=n by omega))
    rw[Cn, <-HDN.out];exact List.prefix_append_right_inj _ |>.2 hp
   ·exact HJX.out _ _ _ _ _ HO.out.j HO.out.je (fun k hk=>by rw[jS];exact HO.out.je k hk) (fun _ h=>h) (fun _ h=>.inl h) (qh (D::Ds) W fun E hE=>by
     rcases List.mem_cons.1 hE with rfl | hE
     ·exact .inr yI
     ·exact(HO.out.ds E hE).1)
end Go.Proofs.YtjgccapbphadjaaGreatDoor
