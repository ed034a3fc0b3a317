/- Automata that are written out: lists of lists in blocks of their own; a row of automata in one block. -/
import Derived.Test.YtalombmiochpmaaGreatDoorOR34
set_option maxRecDepth 100000
set_option maxHeartbeats 16000000
open Go.Lib (hid)
namespace Go.Proofs.YtalombmiochpmaaGreatDoor
section
open Go Go.RowKit Go.Shelf Go.Maps
attribute [local go_sem] encS
theorem I9 (v:Value) (d:DF) (rt:Rt d) (sm:Sm d) (n:Nat) (tQ:n<=64) (most:Int) (oU:0<=most) (oQ:most<=eY) (w:World) (h:aT w v d): Calls Tryz.prog 18 #[v,.int .i64 n,.int .i64 most] w fun e w'=>e=.returned (.tuple #[.int .i64 (min ((dS d n).getD 0 0) most),.int .i64 0])/\Below w.heap.size w w':=by
 obtain⟨iI,Hh,pT,pU,pV⟩:=info_parts Tryz.tz;have CR:Hid (∀ W,Below w.heap.size w W->Calls Tryz.prog 13 #[v] W fun e w'=>e=.returned (.bool true)/\Below W.heap.size W w'):=fun W hW=>by
  have:=dJ v d W (h.below hW) sm;rwa[(aC d).2 rt]at this
 obtain⟨v0,v1,v2,rfl,h0,h1,h2⟩:=h;obtain⟨a0,c0,rfl⟩:=h0.1.form;obtain⟨a1,c1,rfl⟩:=h1.form;obtain⟨a2,c2,rfl⟩:=h2.form;have Vd:=rt.mr;rw[Vd]at h2 CR ⊢;obtain⟨N,hN⟩:∃ n,n=d.nx.length:=⟨_,rfl⟩;obtain⟨K,hK⟩:∃ n,n=d.cl.length:=⟨_,rfl⟩;have Wx:N<=4000:=by have:=rt.le;omega
 have gR:1<=N:=by have:=rt.pos;omega
 have hK2:K<=256:=by have:=rt.NJ;omega
 rw[<-hN]at h1 h2 CR ⊢;rw[<-hK]at h0 CR ⊢;have H0:=hid h0.1;have H1:=hid h1;have H2:=hid h2;have HN:=hid hN;have HK:=hid hK;have HMR:=hid Vd;have RT:=hid rt;have IN:Hid (∀ k t,0<=(dS d k).getD t 0/\(dS d k).getD t 0<=eY):=hid (Hq d);have g1:decide ((n:Int)<0)=false:=decide_eq_false (by omega);have g2:decide ((64:Int)<n)=false:=decide_eq_false (by omega);have g3:decide (most<0)=false:=decide_eq_false (by omega);have g4:decide ((1099511627776:Int)<most)=false:=decide_eq_false (by unfold eY at oQ;omega);have HM1:=hid oQ;obtain⟨y0,hy0⟩:∃ y,y=(dS d n).getD 0 0:=⟨_,rfl⟩;rw[<-hy0];have HY0:=hid hy0;clear hy0;have Zf:=hid oU;clear h0 h1 h2 hN hK Vd rt sm oQ oU;go_enter Tryz.func18,Tryz.ntmps18;go_wp2_with fail
 refine az ?_ --M1
 intro V hV;have B1:Hid (ah V w.heap.size #[.slice a0 K c0,.slice a1 N c1,.slice a2 N c2] 28):=by rw[hV];exact ah.new w _ _
 have X1:Hid (Below w.heap.size w V):=by rw[hV];exact((Ext.refl w).alloc _).below
 clear hV;refine(CR.out V X1.out).mono ?_;rintro e w2 ⟨rfl,hx⟩;have C1:=hid (B1.out.below hx B1.out.lt);have Yl:w.heap.size<w2.heap.size:=C1.out.lt;have X2:=hid (X1.out.trans (hx.mono X1.out.size));clear hx B1 X1 CR;obtain⟨⟨k0,k1,k2⟩,_⟩:=C1.out.three;go_wp2_with (at_make;refine wpList_make_full _ rfl (.tmp 37) (.tmp 37) 47 rfl w2.heap.size 3 iI (.int .i64 0) 1 Tryz.underlying47 Hh pT pU .i64 .i64 _ _ N rfl rfl rfl rfl (by rw[pV];omega) (by unfold maxLen;omega) (Nat.le_refl _) ?_;intro w3 hr hg;refine Hid.out ?_);refine hid ?_;have hs3:w2.heap.size<w3.heap.size:=by --M2
  rcases hr.2 with⟨h5,_⟩ | ⟨g,c,cur,h5,_,h6,_⟩
  ·cases h5
  ·cases h5;exact(Array.getElem?_eq_some_iff.1 h6).1
 have hb3:Below w2.heap.size w2 w3:=(aa.bG hg fun x hx=>⟨hx,fun e=>by cases e⟩:aa (· <w2.heap.size) w2 w3).below;rw[uW]at hr;have R3:=hid hr;have D1:=hid (C1.out.below hb3 C1.out.lt);have X3:=hid (X2.out.trans (hb3.mono X2.out.size));clear hr hg hb3 k0 k1 k2 C1 X2;obtain⟨g5,hg5⟩:∃ g,g=w2.heap.size:=⟨_,rfl⟩;rw[<-hg5]at R3 hs3 Yl ⊢;clear hg5;have kk:∀ wr:World,aa (fun x=>x<w3.heap.size/\x≠g5) w3 wr->Hid (ah wr w.heap.size #[.slice a0 K c0,.slice a1 N c1,.slice a2 N c2] 28/\Below w.heap.size w wr):=fun wr hx=>hid ⟨D1.out.keeps hx ⟨by omega,by omega⟩,X3.out.trans (hx.mono fun x h5=>by have:x<w.heap.size:=h5;exact⟨by omega,by omega⟩:aa (· <w.heap.size) w3 wr).below⟩
 have KK:=hid kk;clear kk;obtain⟨⟨k0,k1,k2⟩,_⟩:=D1.out.three;go_wp2;clear k0 k1 k2;clear Zf --M3
 go_loopw [42] (fun i wr=>∃ (k:Nat) (l:List Int),k<=N/\i=.int .i64 k/\yM (fun s=>if acc d s then 1 else 0) k N l/\wr.ownsRow g5 3 1 (.slice (some ⟨g5,0,none⟩) N N) N (l.map aS)/\aa (fun x=>x<w3.heap.size/\x≠g5) w3 wr) (fun i _=>N-(intOf i).toNat)
 case atStart=>exact⟨0,_,Nat.zero_le _,rfl,yM.zero _ _,R3.out,aa.refl _ _⟩
 case round=>
  obtain⟨k,l,hk,rfl,hu,hr,hx⟩:=hrel;obtain⟨wo,rfl⟩:∃ wo:World,wo=wr:=⟨_,rfl⟩;have HU:=hid hu;have HR:=hid hr;have HX:=hid hx;have BX:=KK.out wo hx;clear hu hr hx;obtain⟨⟨b0,b1,b2⟩,_⟩:=BX.out.1.three;by_cases hlt:k<N
  ·obtain⟨m,hm⟩:∃ m,d.mr[k]? =some m:=⟨_,List.getElem?_eq_getElem (by have:=HMR.out;have:=HN.out;omega)⟩
   obtain⟨bm,om,am,cm,e2,Yt,cmm,_⟩:=(H2.out.below BX.out.2).elem hm;cases e2;have gz:(k:Int)<N:=by omega
   obtain⟨cc,ff⟩:=tK HR.out hlt;have pD:=HU.out.set hlt;rw[show(if acc d k=true then(1:Int)else 0)=min (m.length:Int) 1 from aa1 d hm]at pD;have AO:=hid pD;obtain⟨ml,uC⟩:∃ n,n=m.length:=⟨_,rfl⟩;rw[<-uC]at cmm AO;clear pD hm uC;go_wp2 --M4
   go_roundw
   case rel=>
    refine⟨k+1,_,by omega,by go_num,AO.out,?_,HX.out.tr ((aa.refl _ wo).setCell (p:=⟨g5,k,none⟩) (fun h=>h.2 rfl) _)⟩;rw[List.map_set];exact(HR.out.stored k _).1
   case measure=>simp[intOf];omega
  ·obtain rfl:k=N:=by omega --M5
   have hl:l=dS d 0:=by have:=HU.out.full;rw[this,HN.out];rfl
   have Zd:Hid (wo.ownsRow g5 3 1 (.slice (some ⟨g5,0,none⟩) k k) k ((dS d 0).map aS)):=hid (by rw[<-hl];exact HR.out);clear hl HR HU b0 b1 b2;go_wp2;go_loopw [8,55] (fun mv iv wr=>∃ (r g:Nat),r<=n/\iv=.int .i64 r/\mv=.slice (some ⟨g,0,none⟩) k k/\wr.ownsRow g5 3 1 (.slice (some ⟨g,0,none⟩) k k) k ((dS d r).map aS)/\aa (fun x=>x<w3.heap.size/\x≠g5) w3 wr) (fun _ iv _=>n-(intOf iv).toNat);case atStart=>exact⟨0,g5,Nat.zero_le _,rfl,rfl,Zd.out,HX.out⟩
   case round=>
    obtain⟨r,g6,hr,rfl,rfl,hrow,hx⟩:=hrel;obtain⟨wa,rfl⟩:∃ wo:World,wo=wr:=⟨_,rfl⟩;have BX:=KK.out wa hx;have hg6:=hrow.lt g6 rfl;have HRO:=hid hrow;have HXA:=hid hx;have atw:w3.heap.size<=wa.heap.size:=hx.size;obtain⟨⟨b0,b1,b2⟩,_⟩:=BX.out.1.three;clear hrow hx;by_cases hlt:r<n
    ·have hri:(r:Int)<n:=by omega
     go_wp2_with (at_make;refine wpList_make_full _ rfl (.tmp 59) (.tmp 59) 47 rfl wa.heap.size 3 iI (.int .i64 0) 1 Tryz.underlying47 Hh pT pU .i64 .i64 _ _ k rfl rfl rfl rfl (by rw[pV];omega) (by unfold maxLen;omega) (Nat.le_refl _) ?_;intro w6 hr hg;refine Hid.out ?_)
     refine hid ?_;have hs6:wa.heap.size<w6.heap.size:=by
      rcases hr.2 with⟨h5,_⟩ | ⟨g,c,cur,h5,_,h6,_⟩
      ·cases h5
      ·cases h5;exact(Array.getElem?_eq_some_iff.1 h6).1
     have hb6:Below wa.heap.size wa w6:=(aa.bG hg fun x hx=>⟨hx,fun e=>by cases e⟩:aa (· <wa.heap.size) wa w6).below;rw[uW]at hr;have R6:=hid hr;have M6:=hid (aq HRO.out hb6);have X6:=hid (HXA.out.tr (aa.ag hb6 fun x hx=>by have:=hx.1;omega));clear hr hg hb6 b0 b1 b2 HRO;obtain⟨g7,hg7⟩:∃ g,g=wa.heap.size:=⟨_,rfl⟩;rw[<-hg7]at R6 hs6 ⊢;have aty:g6<g7:=by omega
     have atz:w3.heap.size<=g7:=by omega
     clear hg7;have kk:∀ wr:World,aa (fun x=>x<w6.heap.size/\x≠g7) w6 wr->Hid (ah wr w.heap.size #[.slice a0 K c0,.slice a1 k c1,.slice a2 k c2] 28/\Below w.heap.size w wr/\aa (fun x=>x<w3.heap.size/\x≠g5) w3 wr/\∀ t,t<k->wr.cell? ⟨g6,t,none⟩=some (.int .i64 ((dS d r).getD t 0))):=fun wr hx=>by
      have hy:aa (fun x=>x<w3.heap.size/\x≠g5) w3 wr:=X6.out.tr (hx.mono fun x h5=>⟨by have:=h5.1;omega,by have:=h5.1;omega⟩);have hz:=KK.out wr hy;exact hid ⟨hz.out.1,hz.out.2,hy,fun t ht=>(hx.cell (p:=⟨g6,t,none⟩) ⟨by show g6<_;omega,by show g6≠g7;omega⟩).trans (tK M6.out ht).1⟩
     have KJ:=hid kk;clear kk;have BJ:=KJ.out w6 (aa.refl _ _);obtain⟨⟨b0,b1,b2⟩,_⟩:=BJ.out.1.three;go_wp2;clear b0 b1 b2;go_loopw [64] (fun i wr=>∃ (s:Nat) (l:List Int),s<=k/\i=.int .i64 s/\yM (fun s=>ia d (dS d r) s K) s k l/\wr.ownsRow g7 3 1 (.slice (some ⟨g7,0,none⟩) k k) k (l.map aS)/\aa (fun x=>x<w6.heap.size/\x≠g7) w6 wr) (fun i _=>k-(intOf i).toNat);case atStart=>exact⟨0,_,Nat.zero_le _,rfl,yM.zero _ _,R6.out,aa.refl _ _⟩
     case round=>
      obtain⟨s,l,hs,rfl,hu,hr2,hx⟩:=hrel;obtain⟨wb,rfl⟩:∃ wo:World,wo=wr:=⟨_,rfl⟩;have BX:=KJ.out wb hx;have HU:=hid hu;have HR:=hid hr2;have HX:=hid hx;clear hu hr2 hx;by_cases rB:s<k
      ·have Yd:(s:Int)<k:=by omega
       have hsd:s<d.nx.length:=by rw[<-HN.out];exact rB
       have AO:=hid (HU.out.set rB);have hl0:l.getD s 0=0:=by rw[HU.out.2 s rB,if_neg (by omega)]
       have HL0:Hid (l.set s 0=l):=hid (Sv l s hl0);have HLL:Hid (s<l.length):=hid (by rw[HU.out.1];exact rB);obtain⟨rw0,YA⟩:∃ r,d.nx[s]? =some r:=⟨_,List.getElem?_eq_getElem hsd⟩;have hrK:rw0.length=K:=by have:=RT.out.len s hsd;rw[getD_some YA]at this;rw[this,HK.out]
       obtain⟨bl,ol,al,cl,e1,hbl,cll,fy⟩:=(H1.out.below BX.out.2.1).elem YA;cases e1;rw[hrK]at cll fy;have HRW:=hid YA;have SL0:Hid (aZ aS w (.slice al K cl) rw0):=by obtain⟨bl',ol',al',cl',e1',_,alc,afX⟩:=H1.out.elem YA;cases e1';have e5:=((aa.ag BX.out.2.1 (R:=(· <w.heap.size)) fun _ h=>h).cell (p:=⟨bl,ol+s,none⟩) ‹_›).trans alc;rw[cll]at e5;rw[hrK]at afX e5;cases e5;exact hid afX
       clear YA hl0 fy hrK;go_wp2;clear cll;go_loopw [71] (fun i wr=>∃ (q:Nat),q<=K/\i=.int .i64 q/\wr.ownsRow g7 3 1 (.slice (some ⟨g7,0,none⟩) k k) k ((l.set s (ia d (dS d r) s q)).map aS)/\aa (fun x=>x<wb.heap.size/\x≠g7) wb wr) (fun i _=>K-(intOf i).toNat);case atStart=>
        refine⟨0,Nat.zero_le _,rfl,?_,aa.refl _ _⟩;show wb.ownsRow _ _ _ _ _ ((l.set s 0).map aS);rw[HL0.out];exact HR.out
       case round=>
        obtain⟨q,hq,rfl,hr2,hx⟩:=hrel;obtain⟨wi,rfl⟩:∃ wo:World,wo=wr:=⟨_,rfl⟩;have hy:=HX.out.tr (hx.mono fun x h5=>⟨Nat.lt_of_lt_of_le h5.1 HX.out.size,h5.2⟩);have BI:=KJ.out wi hy;have HRI:=hid hr2;have HXI:=hid hx;have HYI:=hid hy;clear hr2 hx hy;by_cases hqK:q<K
        ·have hqi:(q:Int)<K:=by omega
         have hqd:q<d.cl.length:=by rw[<-HK.out];exact hqK
         obtain⟨t,ht⟩:∃ t,t=eJ d s q:=⟨_,rfl⟩;have yL:t<k:=by rw[ht,HN.out];exact RT.out.cK hsd hqd
         have hrq:rw0[q]? =some (t:Int):=by have:=RT.out.pN hsd hqd;rw[getD_some HRW.out, <-ht]at this;exact this
         have hsw:wb.heap.size<=wi.heap.size:=HXI.out.size;have kw:∀ p:Addr,p.block<w.heap.size->wi.cell? p=w.cell? p:=fun p hp=>(aa.ag BI.out.2.1 (R:=(· <w.heap.size)) fun _ h=>h).cell hp
         obtain⟨bz,oz,e9,YC,cz⟩:=(SL0.out.elem hrq);cases e9;replace cz:wi.cell? ⟨bz,oz+q,none⟩=some (.int .i64 t):=(kw ⟨bz,oz+q,none⟩ YC).trans cz;obtain⟨c,hc⟩:∃ c,d.cl[q]? =some c:=⟨_,List.getElem?_eq_getElem hqd⟩;obtain⟨bc,oc,e8,hbc,q0,q1,q2,q3⟩:=(H0.out.below BI.out.2.1).elem hc;cases e8;have q6:=BI.out.2.2.2 t yL;have Mm:=IN.out r t;obtain⟨mv,ab3⟩:∃ z,z=(dS d r).getD t 0:=⟨_,rfl⟩;rw[<-ab3]at q6 Mm;obtain⟨afY,ab4⟩:=Mm;have hcr:=uV (d:=d) (many:=dS d r) (IN.out r) s q;obtain⟨q5,_⟩:=tK HRI.out rB;rw[pX _ _ _ _ HLL.out,if_pos rfl]at q5;obtain⟨y,hy⟩:∃ y,y=ia d (dS d r) s q:=⟨_,rfl⟩;rw[<-hy]at q5 hcr;obtain⟨hy0,JM⟩:=hcr;have hsz:=Sk c;have hrow:ia d (dS d r) s (q+1)=min (y+oB c*mv) eY:=by show min (ia d (dS d r) s q+oB (d.cl.getD q 0)*(dS d r).getD (eJ d s q) 0) eY=_;rw[<-hy,getD_some hc, <-ht, <-ab3]
         have CSC:Hid (∀ W,Calls Tryz.prog 41 #[.agg (encS c)] W fun e w'=>e=.returned (.int .i64 (oB c))/\Ext W w'):=hid fun W=>Su c W
         obtain⟨sz,afZ⟩:∃ z,z=oB c:=⟨_,rfl⟩;rw[<-afZ]at CSC hrow hsz;have jH:(0:Int)<=(sz:Int)*mv:=Int.mul_nonneg (by omega) afY;have mq:(sz:Int)*mv<=256*1099511627776:=Int.mul_le_mul (by omega) (by unfold eY at ab4;exact ab4) afY (by omega);obtain⟨p,hp⟩:∃ p,p=(sz:Int)*mv:=⟨_,rfl⟩;rw[<-hp]at jH mq hrow;have Hi:p<=300000000000000:=by omega
         unfold eY at JM ab4;have hti:(t:Int)<k:=by omega
         have hw1:IntKind.i64.wrap ((sz:Int)*mv)=p:=by rw[<-hp];exact IntWalk.i64_in _ ⟨by omega,by omega⟩
         have gY:=hid hrow;have alh:g7<wi.heap.size:=by have:=HYI.out.size;omega
         have ali:g6<wi.heap.size:=by omega
         have alj:bz<wi.heap.size:=by have:=BI.out.2.1.size;omega
         obtain⟨⟨b0,b1,b2⟩,_⟩:=BI.out.1.three;have hlw:w.heap.size<wi.heap.size:=by omega
         have SZ:Hid (sz<=256):=hid hsz;clear hrow afZ hy ab3 hsz hc hrq ht hp kw mq;go_wp2;refine aD false (fun _=>False) (by kernel_rfl) 20 [0,0,0,0,12,28,0,64,0,448,960,1984,0,0,12288,28672,65472,131068,262140,524287,1048575] (fun i=>i==11 || i==20) (by kernel_rfl) (fun i=>if i=11 then aH.gU _ (.int .i64 sz)else aH.any _) ?_;intro C hC hne;have HC:=hid hC;have f0:=ak hC (p:=⟨w.heap.size,0,none⟩) hlw (fun h=>h) b0;have t2:=ak hC (p:=⟨bz,oz+q,none⟩) alj (fun h=>h) cz;have t5:=ak hC (p:=⟨g7,s,none⟩) alh (fun h=>h) q5;have t6:=ak hC (p:=⟨g6,t,none⟩) ali (fun h=>h) q6;have s0:=ak hC (p:=⟨bc,oc+q*4,none⟩) hbc (fun h=>h) q0;have s1:=ak hC (p:=⟨bc,oc+q*4+1,none⟩) hbc (fun h=>h) q1;have s2:=ak hC (p:=⟨bc,oc+q*4+2,none⟩) hbc (fun h=>h) q2;have s3:=ak hC (p:=⟨bc,oc+q*4+3,none⟩) hbc (fun h=>h) q3;clear hC b0 b1 b2 cz q5 q6 q0 q1 q2 q3
         repeat (refine ae (fun K hK=>?_);first | (refine aR rfl ?_;try go_simp;refine hK _ _ ?_;clear hK K) | (refine aO rfl rfl ?_;unfold ai;go_simp;refine hK _ _ ?_;clear hK K))
         refine ae (fun K hK=>?_);refine bg rfl rfl (aH.gU _ (.int .i64 sz)) rfl (fun W hW hN=>?_) (fun v hv=>?_)
         ·have hM:=(HC.out W).1 hW
          clear hW;go_simp;refine aB ((CSC.out _).mono ?_);rintro e w9 ⟨rfl,hx⟩;exact⟨_,rfl,Move.QL hx,rfl,trivial⟩
         replace hv:v=_:=hv;subst hv;go_simp;refine hK _ _ ?_;clear hK K
         repeat (refine ae (fun K hK=>?_);first | (refine aR rfl ?_;try go_simp;refine hK _ _ ?_;clear hK K) | (refine aO rfl rfl ?_;unfold ai;go_simp;refine hK _ _ ?_;clear hK K))
         refine bh (fun W hW hH=>?_);have hM:=(HC.out W).1 hW;have KW:Hid (aa (fun x=>x<wi.heap.size) wi W):=hid (aa.ag hM.below fun _ h=>h);have RW:=hid (aq HRI.out hM.below);obtain⟨c5,fz⟩:=tK RW.out rB;clear hM hW hH HC f0 t2 t5 t6 s0 s1 s2 s3;have xI:wi.heap.size<=W.heap.size:=KW.out.size;go_wp2;go_roundw;case rel=>
          refine⟨q+1,by omega,by go_num,?_,?_⟩ --M7
          ·have h9:=(RW.out.stored s (.int .i64 (min (y+p) eY))).1
           rw[gY.out];rw[show(l.set s (min (y+p) eY)).map aS=(((l.set s (ia d (dS d r) s q)).map aS).set s (.int .i64 (min (y+p) eY))) by rw[List.map_set,List.map_set,List.set_set];rfl];exact h9
          ·exact(HXI.out.tr (KW.out.mono fun x hx=>by have:=hx.1;omega)).setCell (p:=⟨g7,s,none⟩) (fun h=>h.2 rfl) _
         case measure=>simp[intOf];omega
        ·obtain rfl:q=K:=by omega
         have hcell:=KJ.out wi HYI.out;go_wp2;go_roundw;case rel=>exact⟨s+1,_,by omega,by go_num,AO.out,HRI.out,HYI.out⟩
         case measure=>simp[intOf];omega
      ·obtain rfl:s=k:=by omega
       have hl:l=dS d (r+1):=by have:=HU.out.full;rw[this,HN.out,HK.out];rfl
       have BX:=KJ.out wb HX.out;have HRL:Hid (wb.ownsRow g7 3 1 (.slice (some ⟨g7,0,none⟩) s s) s ((dS d (r+1)).map aS)):=hid (by rw[<-hl];exact HR.out);clear hl HR HU;go_wp2;go_roundw;case rel=>exact⟨r+1,g7,by omega,by go_num,rfl,aA HRL.out (by omega),BX.out.2.2.1⟩
       case measure=>simp[intOf];omega
    ·obtain rfl:r=n:=by omega
     obtain⟨q5,_⟩:=tK HRO.out gR;rw[<-HY0.out]at q5;clear b0 b1 b2;go_wp2;exact bodyPost_ret (v:=.tuple #[.int .i64 (min y0 most),.int .i64 0]) (by simp[results,Tryz.results18,go_sem]) rfl ⟨rfl,BX.out.2⟩
end
section
open Go Go.RowKit Go.Shelf Go.Maps
attribute [local go_sem] encS
def PO (n most:Int):Prop:=n<0\/64<n\/most<0\/1099511627776<most
theorem LL {d:DF} {n most:Int} (h:PO n most):kJ d n most=(0,2):=by unfold kJ;rw[if_pos];unfold eY;exact h
theorem PQ {d:DF} {n most:Int} (h:¬PO n most):kJ d n most=(min ((dS d n.toNat).getD 0 0) most,0):=by unfold kJ;rw[if_neg];unfold eY;exact h
def kT (d:DF) (n most:Int):Int×Int:=if d.right then kJ d n most else(0,182)
theorem zM (v:Value) (d:DF) (sm:Sm d) (hr:d.right=false) (n most:Int) (w:World) (h:aT w v d): Calls Tryz.prog 18 #[v,.int .i64 n,.int .i64 most] w fun e w'=>e=.returned (.tuple #[.int .i64 0,.int .i64 182])/\Below w.heap.size w w':=by
 have CR:Hid (∀ W,Below w.heap.size w W->Calls Tryz.prog 13 #[v] W fun e w'=>e=.returned (.bool false)/\Below W.heap.size W w'):=fun W hW=>by
  have:=dJ v d W (h.below hW) sm;rwa[hr]at this
 obtain⟨v0,v1,v2,rfl,h0,h1,h2⟩:=h;clear h0 h1 h2 sm hr;go_enter Tryz.func18,Tryz.ntmps18;go_wp2_with fail
 refine az ?_;intro V hV;have X1:Hid (Below w.heap.size w V):=by rw[hV];exact((Ext.refl w).alloc _).below
 clear hV;refine(CR.out V X1.out).mono ?_;rintro e w2 ⟨rfl,hx⟩;have X2:=hid (X1.out.trans (hx.mono X1.out.size));clear hx X1 CR;go_wp2;exact bodyPost_ret (v:=.tuple #[.int .i64 0,.int .i64 182]) (by simp[results,Tryz.results18,go_sem]) rfl ⟨rfl,X2.out⟩
theorem LN (v:Value) (d:DF) (sm:Sm d) (hr:d.right=true) (n most:Int) (hb:PO n most) (w:World) (h:aT w v d): Calls Tryz.prog 18 #[v,.int .i64 n,.int .i64 most] w fun e w'=>e=.returned (.tuple #[.int .i64 0,.int .i64 2])/\Below w.heap.size w w':=by
 have CR:Hid (∀ W,Below w.heap.size w W->Calls Tryz.prog 13 #[v] W fun e w'=>e=.returned (.bool true)/\Below W.heap.size W w'):=fun W hW=>by
  have:=dJ v d W (h.below hW) sm;rwa[hr]at this
 obtain⟨v0,v1,v2,rfl,h0,h1,h2⟩:=h;clear h0 h1 h2 sm hr;go_enter Tryz.func18,Tryz.ntmps18;go_wp2_with fail
 refine az ?_;intro V hV;have X1:Hid (Below w.heap.size w V):=by rw[hV];exact((Ext.refl w).alloc _).below
 clear hV;refine(CR.out V X1.out).mono ?_;rintro e w2 ⟨rfl,hx⟩;have X2:=hid (X1.out.trans (hx.mono X1.out.size));clear hx X1 CR;by_cases h1:n<0
 ·have g1:decide (n<0)=true:=decide_eq_true h1
  clear hb;go_wp2;exact bodyPost_ret (v:=.tuple #[.int .i64 0,.int .i64 2]) (by simp[results,Tryz.results18,go_sem]) rfl ⟨rfl,X2.out⟩
 ·have g1:decide (n<0)=false:=decide_eq_false h1
  by_cases h2:64<n
  ·have g2:decide (64<n)=true:=decide_eq_true h2
   clear hb;go_wp2;exact bodyPost_ret (v:=.tuple #[.int .i64 0,.int .i64 2]) (by simp[results,Tryz.results18,go_sem]) rfl ⟨rfl,X2.out⟩
  ·have g2:decide (64<n)=false:=decide_eq_false h2
   by_cases h3:most<0
   ·have g3:decide (most<0)=true:=decide_eq_true h3
    clear hb;go_wp2;exact bodyPost_ret (v:=.tuple #[.int .i64 0,.int .i64 2]) (by simp[results,Tryz.results18,go_sem]) rfl ⟨rfl,X2.out⟩
   ·have g3:decide (most<0)=false:=decide_eq_false h3
    have h4:1099511627776<most:=by unfold PO at hb;omega
    have g4:decide (1099511627776<most)=true:=decide_eq_true h4;clear hb;go_wp2;exact bodyPost_ret (v:=.tuple #[.int .i64 0,.int .i64 2]) (by simp[results,Tryz.results18,go_sem]) rfl ⟨rfl,X2.out⟩
theorem kU (v:Value) (d:DF) (sm:Sm d) (n most:Int) (w:World) (h:aT w v d): Calls Tryz.prog 18 #[v,.int .i64 n,.int .i64 most] w fun e w'=>e=.returned (.tuple #[.int .i64 (kT d n most).1,.int .i64 (kT d n most).2])/\Below w.heap.size w w':=by
 unfold kT;cases hr:d.right with
 | false=>exact zM v d sm hr n most w h
 | true=>
  rw[if_pos rfl];by_cases hb:PO n most
  ·rw[LL hb];exact LN v d sm hr n most hb w h
  ·rw[PQ hb]
   unfold PO at hb;have:=I9 v d ((aC d).1 hr) sm n.toNat (by omega) most (by omega) (by unfold eY;omega) w h;rwa[Int.toNat_of_nonneg (by omega)]at this
end
section
open Go Go.RowKit Go.Shelf Go.Maps
def cA:List BS:=[~~~(I8 [97]),I8 [97]]
def cAB:List BS:=[~~~(I8 [97,98]),I8 [97,98]]
theorem Ut:(bp cA).isPerm cA=true:=by kernel_rfl
theorem Uu:(bp (cA++cA)).isPerm cA=true:=by kernel_rfl
theorem Dx:decide (cA.Pairwise fun x y=>(!ltOf bM y x)=true)=true:=by kernel_rfl
theorem qA:partsOf cA=cA:=rU (List.isPerm_iff.1 Ut) (of_decide_eq_true Dx)
theorem rz:partsOf (cA++cA)=cA:=rU (List.isPerm_iff.1 Uu) (of_decide_eq_true Dx)
theorem Uv:(bp cAB).isPerm cAB=true:=by kernel_rfl
theorem LO:decide (cAB.Pairwise fun x y=>(!ltOf bM y x)=true)=true:=by kernel_rfl
theorem PR:partsOf cAB=cAB:=rU (List.isPerm_iff.1 Uv) (of_decide_eq_true LO)
theorem mY {d:DF} (hp:partsOf d.cl=d.cl) (h:(decide (1<=d.nx.length)&&decide (d.nx.length<=4000)&&decide (d.mr.length=d.nx.length)&&(List.range d.nx.length).all d.oL)=true):d.right=true:=by unfold DF.right;rw[hp];simp only[Bool.and_eq_true]at h ⊢;exact⟨⟨h.1,by simp⟩,h.2⟩
theorem kV:(bN 1).right=true:=mY qA (by kernel_rfl)
theorem zN:(bN 2).right=true:=mY qA (by kernel_rfl)
theorem tY {a b:DF} {P:List BS} (ha:a.right=true) (hb:b.right=true) (hP:partsOf (a.cl++b.cl)=P) (op fuel:Int) (h1:1<=op) (h2:op<=4) (f1:1<=fuel) (f2:fuel<=4000) {st:List (Nat×Nat)×List (List Nat)} (hst:cS fuel.toNat (fun p k=>(eJ a p.1 (cls a.cl (lb P k)),eJ b p.2 (cls b.cl (lb P k)))) P.length (0,0) fuel.toNat=some st): aP a b op fuel=(⟨P,st.2.map fun r=>r.map Int.ofNat,st.1.map (bX a b op)⟩,0):=by
 subst hP;have e1:bK a b op fuel.toNat=some ⟨partsOf (a.cl++b.cl),st.2.map fun r=>r.map Int.ofNat,st.1.map (bX a b op)⟩:=by
  unfold bK;rw[show eI a b=fun p k=>(eJ a p.1 (cls a.cl (lb (partsOf (a.cl++b.cl)) k)),eJ b p.2 (cls b.cl (lb (partsOf (a.cl++b.cl)) k))) from rfl,hst];rfl
 unfold aP;rw[ha,hb,if_neg (by decide),if_neg (by omega),if_neg (by omega),if_neg (by omega),e1]
def zO:DF:=⟨cA,[[1,2],[1,1],[1,0]],[[0],[],[]]⟩
def Dy:DF:=⟨cA,[[1,2],[1,1],[1,0]],[[],[],[0]]⟩
def Zg:DF:=⟨cA,[[1,2],[1,1],[1,0]],[[],[],[]]⟩
def Zh:DF:=⟨cA,[[1,0],[1,1]],[[],[]]⟩
def PS:DF:=⟨cAB,[[1,0],[1,1]],[[0],[]]⟩
theorem ab5:aP (bN 1) (bN 2) 1 99=(zO,0):=tY (st:=([(0,0),(1,2),(0,1)],[[1,2],[1,1],[1,0]])) kV zN rz 1 99 (by decide) (by decide) (by decide) (by decide) (by kernel_rfl)
theorem Nd:aP (bN 1) (bN 2) 3 99=(Dy,0):=tY (st:=([(0,0),(1,2),(0,1)],[[1,2],[1,1],[1,0]])) kV zN rz 3 99 (by decide) (by decide) (by decide) (by decide) (by kernel_rfl)
theorem Xx:aP (bN 2) (bN 1) 3 99=(Zg,0):=tY (st:=([(0,0),(2,1),(1,0)],[[1,2],[1,1],[1,0]])) zN kV rz 3 99 (by decide) (by decide) (by decide) (by decide) (by kernel_rfl)
theorem Xy:aP (bN 1) (bN 1) 4 99=(Zh,0):=tY (st:=([(0,0),(1,1)],[[1,0],[1,1]])) kV kV rz 4 99 (by decide) (by decide) (by decide) (by decide) (by kernel_rfl)
theorem zP:zO.right=true:=mY qA (by kernel_rfl)
theorem Ja:Dy.right=true:=mY qA (by kernel_rfl)
theorem LP:PS.right=true:=mY PR (by kernel_rfl)
theorem Jb:aJ Dy=some [97]:=by kernel_rfl
theorem Uw:aJ Zg=none:=by kernel_rfl
theorem Ux:aJ Zh=none:=by kernel_rfl
theorem Fy:(aK (bN 1)).right=true:=mY qA (by kernel_rfl)
theorem ab6:aJ (aK (bN 1))=some [0]:=by kernel_rfl
theorem ab7:zO.mr.getD (aU zO 0 [97,97]) []=[0]:=by kernel_rfl
theorem af0:zO.mr.getD (aU zO 0 [97]) []=[]:=by kernel_rfl
theorem PU:aX (bN 1) (bN 2) 3 99=([97],false,0):=by unfold aX;rw[Nd];simp only[Jb];rfl
theorem af1:aX (bN 2) (bN 1) 3 99=([],true,0):=by unfold aX;rw[Xx];simp only[Uw];rfl
theorem Uy:aX (bN 1) (bN 1) 4 99=([],true,0):=by unfold aX;rw[Xy];simp only[Ux];rfl
theorem Jc (most:Int) (h:most=100\/most=5):kT PS 3 most=(if most=100 then 8 else 5,0):=by
 have e:(dS PS 3).getD 0 0=8:=by kernel_rfl
 unfold kT;rw[LP];show kJ PS 3 most=_;unfold kJ eY;rcases h with rfl | rfl
 ·rw[if_neg (by decide),show(3:Int).toNat=3 from rfl,e];rfl
 ·rw[if_neg (by decide),show(3:Int).toNat=3 from rfl,e];rfl
theorem Dz (n:Nat) (hn:n<=1000):Sm (bN n):=by
 refine⟨by simp[bN],by simp[bN,jr];omega,by simp[bN];omega,fun l hl=>?_,fun l hl=>?_⟩
 ·simp only[bN,jr,List.mem_append,List.mem_map,List.mem_singleton]at hl
  rcases hl with⟨s,_,rfl⟩ | rfl<;>simp
 ·simp only[bN,List.mem_cons,List.mem_replicate]at hl
  rcases hl with rfl | ⟨_,rfl⟩<;>simp
attribute [local go_sem] encS
theorem Jd {d:DF} (h:Rt d):Rt (aK d)/\Sm (aK d):=by
 have hl:(aK d).mr.length=d.mr.length:=by simp[aK]
 have key:Rt (aK d):=by
  refine(aC _).1 ?_;have h5:=(aC d).2 h;unfold DF.right at h5 ⊢;rw[hl];simp only[Bool.and_eq_true]at h5 ⊢;refine⟨h5.1,?_⟩;have h6:=h5.2;rw[List.all_eq_true]at h6 ⊢;intro s hs;have h7:=h6 s hs;unfold DF.oL at h7 ⊢;simp only[Bool.and_eq_true]at h7 ⊢;refine⟨h7.1,?_⟩;show jl ((d.mr.map fun m=>if m.isEmpty then [0]else []).getD s [])=true;rw[List.getD_eq_getElem?_getD,List.getElem?_map];cases d.mr[s]? with
  | none=>rfl
  | some m=>
   show jl (if m.isEmpty then [0]else [])=true;split
   ·exact kf
   ·rfl
 exact⟨key,key.sm⟩
end
section
open Go Go.RowKit Go.Shelf Go.Maps
attribute [local go_sem] encS
theorem lW (v v':Value) (a b:DF) (sa:Sm a) (sb:Sm b) (f:Int) (w:World) (h:aT w v a) (h':aT w v' b): Calls Tryz.prog 22 #[v,v',.int .i64 f] w fun e w'=>∃ u,e=.returned (.tuple #[u,.bool (aX a b 3 f).2.1,.int .i64 (aX a b 3 f).2.2])/\w'.ownsRow w.heap.size 5 1 u (aX a b 3 f).1.length ((aX a b 3 f).1.map bu)/\Below w.heap.size w w':=by
 have CP:Hid (∀ W,Below w.heap.size w W->Calls Tryz.prog 40 #[v,v',.int .u8 3,.int .i64 f] W fun e w'=>∃ u,e=.returned (.tuple #[u,.bool (aX a b 3 f).2.1,.int .i64 (aX a b 3 f).2.2])/\w'.ownsRow W.heap.size 5 1 u (aX a b 3 f).1.length ((aX a b 3 f).1.map bu)/\Below W.heap.size W w'):=fun W hW=>zJ v v' a b sa sb 3 f W (h.below hW) (h'.below hW)
 generalize aX a b 3 f=q at*;obtain⟨l,bo,er⟩:=q;obtain⟨v0,v1,v2,rfl,h0,h1,h2⟩:=h;obtain⟨u0,u1,u2,rfl,g0,g1,g2⟩:=h';clear h0 h1 h2 g0 g1 g2 sa sb;simp only at CP ⊢;go_enter Tryz.func22,Tryz.ntmps22;go_wp2_with fail
 refine az ?_;intro V hV;have X1:Hid (Below w.heap.size w V):=by rw[hV];exact(((Ext.refl w).alloc _).alloc _).below
 clear hV;refine(CP.out V X1.out).mono ?_;rintro e w2 ⟨u,rfl,hr,hx⟩;have X2:=hid (X1.out.trans (hx.mono X1.out.size));have R2:=hid (aA hr X1.out.size);obtain⟨ua,uc,rfl⟩:=ownsRow_form hr;clear hx hr X1 CP;go_wp2;exact bodyPost_ret (v:=.tuple #[.slice ua l.length uc,.bool bo,.int .i64 er]) (by simp[results,Tryz.results22,go_sem]) rfl ⟨_,rfl,R2.out,X2.out⟩
theorem nS (v v':Value) (a b:DF) (sa:Sm a) (sb:Sm b) (f:Int) (w:World) (h:aT w v a) (h':aT w v' b): Calls Tryz.prog 17 #[v,v',.int .i64 f] w fun e w'=>∃ u,e=.returned (.tuple #[u,.bool (aX a b 4 f).2.1,.int .i64 (aX a b 4 f).2.2])/\w'.ownsRow w.heap.size 5 1 u (aX a b 4 f).1.length ((aX a b 4 f).1.map bu)/\Below w.heap.size w w':=by
 have CP:Hid (∀ W,Below w.heap.size w W->Calls Tryz.prog 40 #[v,v',.int .u8 4,.int .i64 f] W fun e w'=>∃ u,e=.returned (.tuple #[u,.bool (aX a b 4 f).2.1,.int .i64 (aX a b 4 f).2.2])/\w'.ownsRow W.heap.size 5 1 u (aX a b 4 f).1.length ((aX a b 4 f).1.map bu)/\Below W.heap.size W w'):=fun W hW=>zJ v v' a b sa sb 4 f W (h.below hW) (h'.below hW)
 generalize aX a b 4 f=q at*;obtain⟨l,bo,er⟩:=q;obtain⟨v0,v1,v2,rfl,h0,h1,h2⟩:=h;obtain⟨u0,u1,u2,rfl,g0,g1,g2⟩:=h';clear h0 h1 h2 g0 g1 g2 sa sb;simp only at CP ⊢;go_enter Tryz.func17,Tryz.ntmps17;go_wp2_with fail
 refine az ?_;intro V hV;have X1:Hid (Below w.heap.size w V):=by rw[hV];exact(((Ext.refl w).alloc _).alloc _).below
 clear hV;refine(CP.out V X1.out).mono ?_;rintro e w2 ⟨u,rfl,hr,hx⟩;have X2:=hid (X1.out.trans (hx.mono X1.out.size));have R2:=hid (aA hr X1.out.size);obtain⟨ua,uc,rfl⟩:=ownsRow_form hr;clear hx hr X1 CP;go_wp2;exact bodyPost_ret (v:=.tuple #[.slice ua l.length uc,.bool bo,.int .i64 er]) (by simp[results,Tryz.results17,go_sem]) rfl ⟨_,rfl,R2.out,X2.out⟩
end
end Go.Proofs.YtalombmiochpmaaGreatDoor
namespace Go.Proofs.YtalombmiochpmaaGreatDoor.RegF
open Go Go.RowKit
section
variable {P:Program} {ops:Array Oper} {eff:Nat→Bool} {cD:Nat→Nat} {M:World→World→Prop} {EP:Nat→aH M} {C:World→Prop} {al:Nat→Bool} {Fin:List Oper→Act→World→Prop} {fw:Bool} {m:Nat} {E:aH M} {o:Oper} {k:Nat} {aV:List (Nat× (World→Prop))} {a:Act} {K:List (Nat× (World→Prop))→Act→Prop} {l:List Oper}
def gW (P:Program) (ops:Array Oper) (eff:Nat->Bool) (cD:Nat->Nat) (EP:Nat->aH M) (C:World->Prop) (al:Nat->Bool) (Fin:List Oper->Act->World->Prop) (n:Nat) (l:List Oper) (k:Nat) (aV:List (Nat× (World->Prop))) (a:Act):Prop:=
 gV.gW P (Calls P) iG ops eff cD (fun _=>none) (fun i=>RegQ.up (EP i)) C (fun _ _=>True) al Fin n l k aV a
def cR (P:Program) (ops:Array Oper) (fw:Bool) (m:Nat) (E:aH M) (C:World->Prop) (al:Nat->Bool) (o:Oper) (k:Nat) (aV:List (Nat× (World->Prop))) (a:Act) (K:List (Nat× (World->Prop))->Act->Prop):Prop:=
 gV.cR P (Calls P) iG ops fw m none (RegQ.up E) C (fun _ _=>True) al o k aV a K
theorem ae (h:∀ K:List (Nat× (World->Prop))->Act->Prop,(∀ hi a,eG (gW P ops eff cD EP C al Fin m l (k+1) hi a)->K hi a)->cR P ops (eff k) (cD k) (EP k) C al o k aV a K):eG (gW P ops eff cD EP C al Fin (m+1) (o::l) k aV a):=
 ⟨(gV.ae (D:=(fun _ _=>True)) (al:=al) (on:=(fun _=>none)) fun K hK=>h K fun hi a hl=>hK hi a ⟨hl.out⟩).out⟩
theorem bh (h:∀ W,C W->(∀ x∈aV,x.2 W)->Fin l a W):eG (gW P ops eff cD EP C al Fin 0 l k aV a):=⟨h⟩
end
end Go.Proofs.YtalombmiochpmaaGreatDoor.RegF
namespace Go.Proofs.YtalombmiochpmaaGreatDoor
section
open Go Go.RowKit
end
section
open Go Go.RowKit Go.Shelf Go.Maps
def lX (w:World):List Value->List (List Int)->Prop
 | [],[]=>True
 | u::us,l::ll=>aZ aS w u l/\lX w us ll
 | _,_=>False
theorem lX.len {w:World} :∀ {us:List Value} {ll:List (List Int)},lX w us ll->us.length=ll.length
 | [],[],_=>rfl
 | u::us,l::ll,h=>by simp only[List.length_cons];rw[lX.len h.2]
 | [],_::_,h=>h.elim
 | _::_,[],h=>h.elim
theorem lX.at {w:World} :∀ {us:List Value} {ll:List (List Int)},lX w us ll->∀ (i:Nat) (u:Value) (l:List Int),us[i]? =some u->ll[i]? =some l->aZ aS w u l
 | [],[],_,i,u,l,hu,_=>by simp at hu
 | x::us,y::ll,h,i,u,l,hu,hl=>by
  cases i with
  | zero=>
   simp at hu hl;subst hu hl;exact h.1
  | succ i=>exact lX.at h.2 i u l (by simpa using hu) (by simpa using hl)
 | [],_::_,h,_,_,_,_,_=>h.elim
 | _::_,[],h,_,_,_,_,_=>h.elim
theorem Nf {w:World} {B n:Nat} {c:Array Value} {t:TypeId} (us:List Value) {ll:List (List Int)} (h:ah w B c t) (hc:c.toList=us) (hn:n=us.length) (hr:lX w us ll):mh w (.slice (some ⟨B,0,none⟩) n n) ll:=by subst hn;exact⟨us,hr.len,pG us h (by rw[hc];simp) rfl (Nat.le_refl _),hr.at⟩
theorem LQ {w:World} {B n:Nat} {c:Array Value} {t:TypeId} (l:List BS) (h:ah w B c t) (hc:c.toList=aN l) (hn:n=l.length):qO w (.slice (some ⟨B,0,none⟩) n n) l:=⟨yq l h hc hn,fun a n cap e=>by cases e;exact Nat.le_refl _⟩
theorem LR {w:World} {B n:Nat} {c:Array Value} {t:TypeId} (l:List Int) (h:ah w B c t) (hc:c.toList=l.map aS) (hn:n=l.length):aZ aS w (.slice (some ⟨B,0,none⟩) n n) l:=by subst hn;exact pG l h hc rfl (Nat.le_refl _)
theorem Xz {w:World} :aZ aS w (.slice none 0 0) []:=.inl ⟨rfl,rfl⟩
end
end Go.Proofs.YtalombmiochpmaaGreatDoor
