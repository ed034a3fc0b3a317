/- The law for drawn regions with effects whose values bear new blocks, pairwise others. -/
import Derived.Test.YtjgccapbphadjaaGreatDoorOM20
set_option maxRecDepth 100000
set_option maxHeartbeats 16000000
open Go.Lib (hid)
namespace Go.Proofs.YtjgccapbphadjaaGreatDoor
section
open Go Go.RowKit Go.Shelf Go.Maps
attribute [local go_sem] encS
theorem qx (d:DF) (p:Nat->Nat):∀ n,(bn d p n).2.length=(bn d p n).1.length
 | 0=>rfl
 | n+1=>by
  have h:=qx d p n;rw[bn];split
  ·exact h
  ·rw[aG,aG,h];rfl
theorem pJ (d:DF) (p:Nat->Nat):∀ n,(bn d p n).1.length<=n
 | 0=>aD _
 | n+1=>by
  have h:=pJ d p n;rw[bn];split
  ·omega
  ·rw[aG,List.length_singleton];omega
theorem Jz (v pv:Value) (d:DF) (rt:Rt d) (sm:Sm d) (p:Nat->Nat) (w:World) (h:cS w v d) (hp:bZ (fun u:Value=>u) w pv ((List.range d.nx.length).map fun s=>cQ (p s))): ah 81 #[v,pv] w fun e w'=>∃ u,e=.returned u/\bA w.heap.size w' u (cA d p)/\aa w w':=by
 obtain⟨iI,y7,kJ,kK,kL⟩:=info_parts Tryz.mB;obtain⟨iL,zX,mK,mL,mM⟩:=info_parts Tryz.tR;obtain⟨v0,v1,v2,rfl,h0,h1,h2⟩:=h;obtain⟨a0,c0,rfl⟩:=h0.1.form;obtain⟨a1,c1,rfl⟩:=h1.form;obtain⟨a2,c2,rfl⟩:=h2.form;obtain⟨pa,pc,rfl⟩:=hp.form;rw[aQ,List.length_range]at hp ⊢;have yA:=rt.mr;rw[yA]at h2 ⊢;obtain⟨n,hn⟩:=ag d.nx.length;obtain⟨K,hK⟩:=ag d.cl.length;have Tu:n<=4000:=by have:=rt.le;omega
 have hK2:K<=256:=by have:=rt.En;omega
 rw[<-hn]at h1 h2 hp ⊢;rw[<-hK]at h0 ⊢;have HPV:Hid (∀ s,s<n->∃ (b:Nat) (off:Nat),pa=some ⟨b,off,none⟩/\b<w.heap.size/\w.cell? ⟨b,off+s,none⟩=some (.int .i64 (p s))):=hid fun s hs=>by
  obtain⟨b,o,e,h2,h3⟩:=hp.elem (i:=s) (x:=cQ (p s)) (by rw[aO,List.getElem?_range hs];rfl);exact⟨b,o,e,h2,h3⟩
 have HMK:Hid (∀ s,s<n->∃ (b:Nat) (off:Nat) (ad:Option Addr) (cp:Nat),a2=some ⟨b,off,none⟩/\b<w.heap.size/\w.cell? ⟨b,off+s,none⟩=some (.slice ad (d.mr.getD s []).length cp)/\bZ aN w (.slice ad (d.mr.getD s []).length cp) (d.mr.getD s [])):=hid fun s hs=>by
  have hrow:d.mr[s]? =some (d.mr.getD s []):=by rw[bh,az (by rw[yA, <-hn];exact hs)];rfl
  obtain⟨b,off,a',c',e1,e2,e3,e4⟩:=h2.elem hrow;exact⟨b,off,a',c',e1,e2,e3,e4⟩
 have GV:Hid (∀ s,s<n->∃ (b:Nat) (off:Nat) (ad:Option Addr) (cp:Nat),a1=some ⟨b,off,none⟩/\b<w.heap.size/\w.cell? ⟨b,off+s,none⟩=some (.slice ad K cp)/\bZ aN w (.slice ad K cp) (d.nx.getD s [])):=hid fun s hs=>by
  have hrow:d.nx[s]? =some (d.nx.getD s []):=by rw[bh,az (by rw[<-hn];exact hs)];rfl
  obtain⟨b,off,a',c',e1,e2,e3,e4⟩:=h1.elem hrow;rw[rt.len s (by rw[<-hn];exact hs), <-hK]at e3 e4;exact⟨b,off,a',c',e1,e2,e3,e4⟩
 have H0:=hid h0;have HN:=hid hn;have HK:=hid hK;have RT:=hid rt;have SM:=hid sm;clear h0 h1 h2 hp hn hK yA rt sm;go_enter Tryz.func81,Tryz.ntmps81;go_wp2_with fail
 refine aH ?_;intro V hV;have B1:Hid (ar V w.heap.size #[.slice a0 K c0,.slice a1 n c1,.slice a2 n c2] 29):=hid (by rw[hV];exact(ar.new w _ _).alloc _);have R1:Hid (ar V (w.heap.size+1) #[.slice none 0 0,.slice none 0 0,.slice none 0 0] 29):=hid (by rw[hV];exact(ar.new (w.alloc _) _ _).at (by simp));have X1:Hid (aa w V):=hid (by rw[hV];exact(((Ext.refl w).alloc _).alloc _).below);clear hV;have hsV:w.heap.size+1<V.heap.size:=R1.out.lt;refine(pq (.slice a0 K c0) d.cl V ⟨H0.out.1.below X1.out,H0.out.2⟩ SM.out.cl).mono ?_;rintro e w5 ⟨u,rfl,ho,hx⟩;rw[<-HK.out]at ho;obtain⟨ca,cc,rfl⟩:=ownsRow_form ho;have C5:=hid ho;have B5:=hid (B1.out.below hx B1.out.lt);have R5:=hid (R1.out.below hx R1.out.lt);have X5:=hid (X1.out.trans (hx.mono X1.out.size));have hs5:V.heap.size<=w5.heap.size:=hx.size;clear ho hx B1 R1 X1;go_wp2;refine ax ?_;intro V6 UO;obtain⟨ob,hob⟩:=ag w5.heap.size;have D6:Hid (ar V6 ob #[.slice ca K cc,.slice none 0 0,.slice none 0 0] 29):=hid (by rw[UO,hob];exact ar.new _ _ _);have qK:aa w5 V6:=by rw[UO];exact((Ext.refl _).alloc _).below
 rw[<-hob];clear UO;have hs6:ob<V6.heap.size:=D6.out.lt;have B6:=hid (B5.out.below qK B5.out.lt);have R6:=hid (R5.out.below qK R5.out.lt);have X6:=hid (X5.out.trans (qK.mono X5.out.size));have C6:=hid (aj C5.out qK);have hwo:w.heap.size+1<ob:=by omega
 clear qK B5 R5 X5 C5 hob;go_loopw [17] (fun kv wr=>∃ (k m:Nat) (nx mk:Value),k<=n/\kv=.int .i64 k/\m=(bn d p k).1.length/\ar wr ob #[.slice ca K cc,nx,mk] 29/\br V6.heap.size wr nx (bn d p k).1/\br V6.heap.size wr mk (bn d p k).2/\py nx mk/\ae (fun x=>x<V6.heap.size/\x≠ob) V6 wr) (fun kv _=>n-(intOf kv).toNat);case atStart=>exact⟨0,0,_,_,Nat.zero_le _,rfl,rfl,D6.out,br.nil _ _,br.nil _ _,.inl rfl,ae.refl _ _⟩
 case round=>
  obtain⟨k,m,nx,mk,hk,rfl,hm,hb,Dy,lC,hfar,hx⟩:=hrel;obtain⟨ja,rfl⟩:=ag (wr:World);obtain⟨na,nc,rfl⟩:=Dy.form;obtain⟨ma,mc,rfl⟩:=lC.form;rw[qx]at lC hfar hb;rw[<-hm]at Dy lC hfar hb;have aof:m<=k:=by rw[hm];exact pJ _ _ _
  have WI:=hid hb;have zh:=hid Dy;have zi:=hid lC;have HM:=hid hm;have WJ:=hid hfar;have HX:=hid hx
  have CO:=hid (ai C6.out hx fun x e=>by
   have h5:=C6.out.lt x e
   exact⟨h5.2,fun e2=>cm D6.out C6.out (by decide) x e e2⟩)
  have BO:=hid (B6.out.keeps hx ⟨by omega,by omega⟩);have RO:=hid (R6.out.keeps hx ⟨by omega,by omega⟩);have XO:Hid (aa w ja):=hid (X6.out.trans (hx.mono fun x (hx:x<w.heap.size)=>⟨by omega,by omega⟩:ae (· <w.heap.size) V6 ja).below);have ahB:V6.heap.size<=ja.heap.size:=hx.size;clear hb Dy lC hfar hx hm;by_cases hlt:k<n
  ·obtain⟨bp,op,rfl,hbp,LU⟩:=HPV.out k hlt
   have ac9:ja.cell? ⟨bp,op+k,none⟩=some (.int .i64 (p k)):=((ae.ak XO.out fun _ h=>h:ae (· <w.heap.size) w ja).cell (p:=⟨bp,op+k,none⟩) hbp).trans LU;obtain⟨o0,o1,o2⟩:=bA.mO WI.out;have eG:(k:Int)<n:=by omega
   obtain⟨pk,T9⟩:=ag (p k);rw[<-T9]at ac9;have HPK:=hid T9;clear LU T9;by_cases J9:pk<m
   ·have hpi:(pk:Int)<m:=by omega
    have hst:bn d p (k+1)=bn d p k:=by rw[bn,if_pos (by rw[<-HPK.out, <-HM.out];exact J9)]
    have Zy:=hid hst;clear hst;go_wp2;go_roundw;case rel=>exact⟨k+1,m,_,_,by omega,by go_num,by rw[Zy.out];exact HM.out,WI.out,by rw[Zy.out];exact zh.out,by rw[Zy.out];exact zi.out,WJ.out,HX.out⟩
    case measure=>simp[intOf];omega
   ·have hpi:¬ ((pk:Int)<m):=by omega
    have hst:bn d p (k+1)=((bn d p k).1++ [(d.nx.getD k []).map fun t=>((p t.toNat:Nat):Int)],(bn d p k).2++ [d.mr.getD k []]):=by rw[bn,if_neg (by rw[<-HPK.out, <-HM.out];exact J9)]
    have HT1:Hid ((bn d p (k+1)).1=(bn d p k).1++ [(d.nx.getD k []).map fun t=>((p t.toNat:Nat):Int)]):=hid (by rw[hst]);have HT2:Hid ((bn d p (k+1)).2=(bn d p k).2++ [d.mr.getD k []]):=hid (by rw[hst]);obtain⟨b1,ND,ad1,cp1,rfl,hb1,hc1,hsl1⟩:=GV.out k hlt;replace hc1:ja.cell? ⟨b1,ND+k,none⟩=some (.slice ad1 K cp1):=((ae.ak XO.out fun _ h=>h:ae (· <w.heap.size) w ja).cell (p:=⟨b1,ND+k,none⟩) hb1).trans hc1;have Ez:=hid hsl1;have Vm:=BO.out.cell 1;simp only[List.getElem?_toArray,List.getElem?_cons_zero,List.getElem?_cons_succ]at Vm;clear hst hsl1;go_wp2;clear Vm hc1 ac9 o0 o1 o2;go_loopw [8,33] (fun tv jv wr=>∃ j:Nat,j<=K/\jv=.int .i64 j/\wr.ownsRow ja.heap.size 3 1 tv j (((d.nx.getD k []).take j).map fun t=>cQ (p t.toNat))/\ae (fun x=>x<ja.heap.size) ja wr) (fun _ jv _=>K-(intOf jv).toNat);case atStart=>exact⟨0,Nat.zero_le _,rfl,World.ownsRow_nil _ _ _ _,ae.refl _ _⟩
    case round=>
     obtain⟨j,hj,rfl,ht,hx⟩:=hrel;obtain⟨wi,rfl⟩:=ag (wr:World);have HT:=hid ht;have KI:=hid hx;have XI:Hid (aa w wi):=hid (XO.out.trans (hx.mono fun x (hx:x<w.heap.size)=>by show x<ja.heap.size;omega:ae (· <w.heap.size) ja wi).below);have ahD:ja.heap.size<=wi.heap.size:=hx.size;clear ht hx;obtain⟨ta,tc,rfl⟩:=ownsRow_form HT.out;by_cases Dt:j<K
     ·obtain⟨x,hxj⟩:∃ x,(d.nx.getD k [])[j]? =some x:=⟨_,az (by rw[RT.out.len k (by rw[<-HN.out];exact hlt), <-HK.out];exact Dt)⟩
      have Ut:=RT.out.je k (by rw[<-HN.out];exact hlt) x (aw hxj);obtain⟨t,rfl⟩:∃ t:Nat,x=(t:Int):=⟨x.toNat,by omega⟩;have s7:t<n:=by have:=HN.out;omega
      obtain⟨b',off',rfl,hb',hc'⟩:=(Ez.out.below XI.out).elem hxj;replace hc':wi.cell? ⟨b',off'+j,none⟩=some (.int .i64 (t:Int)):=hc';obtain⟨b6,o6,e6,qK,hc6⟩:=HPV.out t s7;cases e6;have hc7:wi.cell? ⟨bp,op+t,none⟩=some (.int .i64 (p t)):=((ae.ak XI.out fun _ h=>h:ae (· <w.heap.size) w wi).cell (p:=⟨bp,op+t,none⟩) hbp).trans hc6;have ki:(j:Int)<K:=by omega
      have hti:(t:Int)<n:=by omega
      have ada:Hid (((d.nx.getD k []).take (j+1)).map (fun t=>cQ (p t.toNat))=(((d.nx.getD k []).take j).map fun t=>cQ (p t.toNat))++ [cQ (p t)]):=hid (by rw[List.take_add_one,hxj,List.map_append];rfl);obtain⟨ix,U9⟩:=ag (p t);rw[<-U9]at hc7 ada;clear hxj Ut hc6 qK U9;go_wp2_with (at_builtin;refine wpList_append_own_at _ rfl (.tmp 37) (.tmp 42) 39 rfl ja.heap.size 3 iI (.int .i64 0) 1 8 Tryz.underlying39 y7 kJ kK kL rfl (by decide) _ _ _ rfl (HT.out.alloc _) ⟨wi.heap.size,0,none⟩ 1 1 [cQ ix] rfl rfl (eX _ _ _) (by simp[Value.oneCell',cQ]) (by unfold maxLen;omega) (by omega) (by simp;omega) ?_;intro v' w6 hown' hgrow hh hat;have j8:=hid hown';have HG:=hid hgrow;clear hown' hgrow hh hat);go_roundw;case rel=>
       have AY:∀ x,(Value.slice ta j tc).ownBlock=some x->ja.heap.size<=x:=fun x hx=>(HT.out.lt x hx).1
       refine⟨j+1,by omega,by go_num,by rw[ada.out];exact j8.out,?_⟩;exact(KI.out.tr (ae.ak ((Ext.refl _).alloc _).below fun x (hx:x<ja.heap.size)=>by show x<wi.heap.size;omega)).tr (ae.bw HG.out fun x (hx:x<ja.heap.size)=>⟨by simp;omega,fun e=>by have:=AY x e.symm;omega⟩)
      case measure=>simp[intOf];omega
     ·obtain rfl:j=K:=by omega
      have ki:¬ ((j:Int)<j):=by omega
      have zv:((d.nx.getD k []).map fun t=>((p t.toNat:Nat):Int)).length=j:=by rw[aQ,RT.out.len k (by rw[<-HN.out];exact hlt), <-HK.out]
      have TV:Hid (wi.ownsRow ja.heap.size 3 1 (.slice ta j tc) j (((d.nx.getD k []).map fun t=>((p t.toNat:Nat):Int)).map aN)):=hid (by
       have h5:=HT.out;rw[List.take_of_length_le (by rw[aQ]at zv;rw[zv];exact aD _)]at h5
       rw[List.map_map];exact h5)
      have Yf:=hid zv;clear zv HT;obtain⟨b2,fV,WK,WM,rfl,hb2,hc2,xE⟩:=HMK.out k hlt;have hcw:wi.cell? ⟨b2,fV+k,none⟩=some (.slice WK (d.mr.getD k []).length WM):=((ae.ak XI.out fun _ h=>h:ae (· <w.heap.size) w wi).cell (p:=⟨b2,fV+k,none⟩) hb2).trans hc2;have Sz:(d.mr.getD k []).length<=1000000:=by
       by_cases h5:k<d.mr.length
       ·exact SM.out.mks _ (aw (by rw[bh,az h5];rfl:d.mr[k]? =some _))
       ·rw[bh,aX (by omega)];exact Nat.zero_le _
      obtain⟨ml,sr⟩:=ag ((d.mr.getD k []).length);obtain⟨mx,hmx⟩:=ag ((d.mr.getD k []).map aN);have Ku:Hid (∀ W,aa w W->ah 22 #[.slice WK ml WM] W fun e w'=>∃ u,e=.returned u/\w'.ownsRow W.heap.size 3 1 u ml mx/\aa W w'):=hid fun W hW=>by
       rw[sr,hmx];exact pA _ (d.mr.getD k []) W (xE.below hW) Sz
      rw[<-sr]at hcw;have NXI:=zh.out.keeps KI.out fun x _ h2=>h2
      have MKI:=zi.out.keeps KI.out fun x _ h2=>h2
      obtain⟨us,u1,u2,u3⟩:=NXI;obtain⟨ms,m1,m2,m3⟩:=MKI;have Rf:us.length=m:=by rw[u1, <-HM.out]
      have Jc:ms.length=m:=by rw[m1,qx, <-HM.out]
      rw[Rf]at u2;rw[Jc]at m2;have Jv:=hid (WI.out.keeps KI.out (by show ob<ja.heap.size;omega));have BI:=hid (BO.out.keeps KI.out (by show w.heap.size<ja.heap.size;omega));have Zx:Hid (∀ x,(Value.slice na m nc).ownBlock=some x->x<ja.heap.size/\V6.heap.size<=x):=hid (by obtain⟨Vn,h0,h2,_⟩:=zh.out;exact fun x e=>⟨(h2.lt x e).2,(h2.lt x e).1⟩);have Vo:Hid (∀ x,(Value.slice ma m mc).ownBlock=some x->x<ja.heap.size/\V6.heap.size<=x):=hid (by obtain⟨Vn,h0,h2,_⟩:=zi.out;exact fun x e=>⟨(h2.lt x e).2,(h2.lt x e).1⟩);have U1:=hid u1;have U2:=hid u2;have U3:=hid u3;have M1:=hid m1;have M2:=hid m2;have M3:=hid m3;have HUS:=hid Rf;have WN:=hid Jc;have za:=hid sr;have YY:=hid hmx;have HCW:=hid hcw;clear u1 u2 u3 m1 m2 m3 Rf Jc sr hmx zh zi hc2 xE hcw Sz;have HL9:Hid (m+1=(bn d p (k+1)).1.length):=hid (by rw[HT1.out,aG, <-HM.out];rfl);obtain⟨PL,vn⟩:=ag ([(jl wi.heap.size (.slice na m nc) m us (.slice ta j tc)),(mkApp wi.heap.size (.slice ma m mc) m ms ml mx)]:List il.App);have oT:PL[0]? =some (jl wi.heap.size (.slice na m nc) m us (.slice ta j tc)):=by rw[vn];rfl
      have xy:PL[1]? =some (mkApp wi.heap.size (.slice ma m mc) m ms ml mx):=by rw[vn];rfl
      have hall:∀ q∈PL,q=(jl wi.heap.size (.slice na m nc) m us (.slice ta j tc))\/q=(mkApp wi.heap.size (.slice ma m mc) m ms ml mx):=fun q hq=>by rw[vn]at hq;simpa using hq
      have Dd:Hid (il.kj wi PL):=hid ⟨fun q hq=>by rcases hall q hq with rfl | rfl<;>exact aD _,fun q hq x e=>by
       rcases hall q hq with rfl | rfl
       ·have:=Zx.out x e;omega
       ·have:=Vo.out x e;omega,fun i j q q' hi hj mz=>by
       have hl:PL.length=2:=by rw[vn];rfl
       have h1:=(List.getElem?_eq_some_iff.1 hi).1;have h2:=(List.getElem?_eq_some_iff.1 hj).1;rcases(show i=0\/i=1 by omega)with rfl | rfl<;>rcases(show j=0\/j=1 by omega)with rfl | rfl<;>(first | (exact absurd rfl mz) | skip)<;>(first | rw[oT]at hi | rw[xy]at hi)<;>(first | rw[oT]at hj | rw[xy]at hj)<;>cases hi<;>cases hj
       ·exact WJ.out
       ·exact WJ.out.symm⟩
      have Jh:∀ x,(x<V6.heap.size\/ja.heap.size<=x)->¬ ∃ q∈PL,q.v.ownBlock=some x:=fun x hx ⟨q,hq,e⟩=>by
       rcases hall q hq with rfl | rfl
       ·have:=Zx.out x e;omega
       ·have:=Vo.out x e;omega
      have Cy:=hid hall;have Gh:=hid Jh;have y9:Hid (∀ W',il.bT V6.heap.size wi PL wi W'->aa w W'):=hid fun W' h=>XI.out.trans (h.keeps.mono fun x hx=>⟨by have:x<w.heap.size:=hx;omega,Jh x (by have:x<w.heap.size:=hx;omega)⟩:ae (· <w.heap.size) wi W').below
      clear vn hall Jh;go_upto_region 12 with fail
      have HST:Hid (∀ W W' u,il.bT V6.heap.size wi PL W W'->(u.oneCell'=true/\W.ownsRow wi.heap.size 3 1 u ml mx)->(u.oneCell'=true/\W'.ownsRow wi.heap.size 3 1 u ml mx)):=hid fun W W' u hm h=>⟨h.1,ai h.2 hm.keeps fun x hx=>⟨(h.2.lt x hx).2,Gh.out x (.inr (by have:=(h.2.lt x hx).1;omega))⟩⟩
      refine RegG.bB (il.bT V6.heap.size wi PL) (il.bT.drew) (fun _ _ _ h k=>h.trans k) (by kernel_rfl) 16 [0,1,0,4,15,0,32,0,128,0,896,1920,3999,8095,16383,127,65535,131071,262143] (fun i=>i==3 || i==4 || i==12 || i==13 || i==14) (by kernel_rfl) (fun j=>if j=14 then some 49 else none) (fun j hj=>(by first | rfl | (have kR:19<=j:=hj;first | exact if_neg (by omega) | (split<;>first | omega | rfl)))) (by kernel_rfl) (fun i=>if i=3 then il.ij.vR V6.heap.size wi PL 1 #[.slice ta j tc] 39 else if i=4 then il.ij.app V6.heap.size wi PL (jl wi.heap.size (.slice na m nc) m us (.slice ta j tc)) (aw oT)else if i=12 then il.ij.row V6.heap.size wi PL Dd.out wi.heap.size (aD _) 3 1 ml mx else if i=13 then il.ij.Ul V6.heap.size wi PL 39 (fun W u=>u.oneCell'=true/\W.ownsRow wi.heap.size 3 1 u ml mx) HST.out else if i=14 then il.ij.Bn V6.heap.size wi PL (mkApp wi.heap.size (.slice ma m mc) m ms ml mx) (aw xy)else RegG.aZ.any _) ?_;intro C hC hne;have HC:=hid hC;have jY:∀ {x:Nat},x<wi.heap.size->(¬ ∃ q∈PL,q.v.ownBlock=some x)->∀ W: {W//C W},W.1.heap[x]? =wi.heap[x]? :=fun {x} h1 h2 W=>((hC W.1).1 W.2).keeps.keep x ⟨h1,h2⟩
      have o1:∀ W: {W//C W},W.1.cell? ⟨ob,1,none⟩=some (.slice na m nc):=fun W=>(Jv.out.same (jY Jv.out.lt (Gh.out _ (by omega)) W)).cell 1
      have o2:∀ W: {W//C W},W.1.cell? ⟨ob,2,none⟩=some (.slice ma m mc):=fun W=>(Jv.out.same (jY Jv.out.lt (Gh.out _ (by omega)) W)).cell 2
      have o3:∀ W: {W//C W},W.1.cell? ⟨w.heap.size,2,none⟩=some (.slice (some ⟨b2,fV,none⟩) n c2):=fun W=>(BI.out.same (jY BI.out.lt (Gh.out _ (by omega)) W)).cell 2
      have o4:∀ W: {W//C W},W.1.cell? ⟨b2,fV+k,none⟩=some (.slice WK ml WM):=fun W=>by
       have e:W.1.cell? ⟨b2,fV+k,none⟩=wi.cell? ⟨b2,fV+k,none⟩:=by unfold World.cell?;rw[jY (x:=b2) (by have:=XI.out.size;omega) (Gh.out b2 (by omega)) W]
       exact e.trans HCW.out
      clear hC jY
      repeat (refine RegG.au (fun K hK=>?_);first | (refine RegG.bX rfl ?_;try go_simp;refine hK _ _ ?_;clear hK K) | (refine RegG.bR rfl rfl ?_;unfold aB;go_simp;refine hK _ _ ?_;clear hK K))
      refine RegG.au (fun K hK=>?_);refine RegG.ck rfl rfl (il.ij.vR V6.heap.size wi PL 1 #[.slice ta j tc] 39) rfl (fun W hW hN=>?_) (fun v hv=>?_)
      ·have hM:=(HC.out W).1 hW
       clear hW hK K
       (go_simp;exact⟨.below ((Ext.refl _).alloc _).below,⟨_,rfl⟩,fun b hb=>by cases hb;exact⟨ar.new _ _ _,Dd.out.fresh hM.size⟩⟩)
      obtain⟨x3,rfl⟩:=hv;go_simp;refine hK _ _ ?_;clear hK K;refine RegG.au (fun K hK=>?_);refine RegG.ck rfl rfl (il.ij.app V6.heap.size wi PL (jl wi.heap.size (.slice na m nc) m us (.slice ta j tc)) (aw oT)) rfl (fun W hW hN=>?_) (fun v hv=>?_)
      ·have hM:=(HC.out W).1 hW
       clear hW hK K;refine il.dI (w0:=wi) (PL:=PL) (p:=(jl wi.heap.size (.slice na m nc) m us (.slice ta j tc))) (.tmp 46) (.tmp 48) 27 rfl iL (.slice none 0 0) 24 Tryz.underlying27 zX mK mL mM rfl (show(0:Nat)<1 from by decide) Dd.out oT rfl (hM.old _ (aw oT) U2.out) ⟨x3,0,none⟩ 1 rfl [.slice ta j tc] rfl rfl (cK (hN.at 0 rfl (by kernel_rfl) x3 rfl).1) (by intro u hu;simp at hu;rw[hu];rfl) (by show m+1<=maxLen;unfold maxLen;omega) (by show(m+1)*24<=_;omega) (Nat.le_trans (by omega) hM.size) (show(0:Nat)<1 from by decide) hM.size (fun v W2 g1 g2 g3 _=>⟨g1,g2,g3⟩)
      obtain⟨yf,yg,hv2⟩:=hv;replace hv2:v=.slice yf (m+1) yg:=hv2;subst hv2;go_simp;refine hK _ _ ?_;clear hK K
      repeat (refine RegG.au (fun K hK=>?_);first | (refine RegG.bX rfl ?_;try go_simp;refine hK _ _ ?_;clear hK K) | (refine RegG.bR rfl rfl ?_;unfold aB;go_simp;refine hK _ _ ?_;clear hK K))
      refine RegG.au (fun K hK=>?_);refine RegG.ck rfl rfl (il.ij.row V6.heap.size wi PL Dd.out wi.heap.size (aD _) 3 1 ml mx) rfl (fun W hW hN=>?_) (fun v hv=>?_)
      ·have hM:=(HC.out W).1 hW
       clear hW hK K
       (go_simp;refine bM ((Ku.out W (y9.out _ hM)).mono ?_);rintro e w2 ⟨um,rfl,ho,hx⟩;exact⟨_,rfl,.below hx,ownsRow_form ho,aF ho hM.size⟩)
      obtain⟨a9,c9,rfl⟩:=hv;go_simp;refine hK _ _ ?_;clear hK K;refine RegG.au (fun K hK=>?_);refine RegG.ck rfl rfl (il.ij.Ul V6.heap.size wi PL 39 (fun W u=>u.oneCell'=true/\W.ownsRow wi.heap.size 3 1 u ml mx) HST.out) rfl (fun W hW hN=>?_) (fun v hv=>?_)
      ·have hM:=(HC.out W).1 hW
       clear hW hK K
       (go_simp;exact⟨.below ((Ext.refl _).alloc _).below,⟨_,rfl⟩,fun b hb=>by cases hb;exact⟨⟨_,ar.new _ _ _,rfl,(show W.ownsRow wi.heap.size 3 1 (.slice a9 ml c9) ml mx from hN.at 0 rfl (by kernel_rfl)).alloc _⟩,Dd.out.fresh hM.size⟩⟩)
      obtain⟨WE,rfl⟩:=hv;go_simp;refine hK _ _ ?_;clear hK K;refine RegG.au (fun K hK=>?_);refine RegG.ck rfl rfl (il.ij.Bn V6.heap.size wi PL (mkApp wi.heap.size (.slice ma m mc) m ms ml mx) (aw xy)) rfl (fun W hW hN=>?_) (fun v hv=>?_)
      ·have hM:=(HC.out W).1 hW
       have hq:il.After V6.heap.size wi (jl wi.heap.size (.slice na m nc) m us (.slice ta j tc)) W (.slice yf (m+1) yg):=hN.at 2 rfl (by kernel_rfl);obtain⟨⟨ub,hb1,hb2,hb3⟩,_⟩:=hN.at 0 rfl (by kernel_rfl) WE rfl;clear hW hK K;refine il.dI (w0:=wi) (PL:=PL) (p:=(mkApp wi.heap.size (.slice ma m mc) m ms ml mx)) (.tmp 51) (.tmp 58) 27 rfl iL (.slice none 0 0) 24 Tryz.underlying27 zX mK mL mM rfl (show(0:Nat)<1 from by decide) Dd.out xy rfl (hM.old _ (aw xy) M2.out) ⟨WE,0,none⟩ 1 rfl [ub] ⟨ub,rfl,hb2,hb3⟩ rfl (cK hb1) (by intro u hu;simp at hu;rw[hu];exact hb2) (by show m+1<=maxLen;unfold maxLen;omega) (by show(m+1)*24<=_;omega) (Nat.le_trans (by omega) hM.size) (show(0:Nat)<1 from by decide) hM.size (fun v W2 g1 g2 g3 g4=>⟨g1,g2,g3,?_⟩);rcases g4 with g4 | g4
       ·exact .inl g4
       ·refine .inr (.inr fun e=>?_)
        rw[g4]at e;obtain⟨⟨ns,h5,_⟩,_⟩:=hq;have:=(h5.lt _ e.symm).2;omega
      obtain⟨Jw,Jy,hv2⟩:=hv;replace hv2:v=.slice Jw (m+1) Jy:=hv2;subst hv2;go_simp;refine hK _ _ ?_;clear hK K
      repeat (refine RegG.au (fun K hK=>?_);first | (refine RegG.bX rfl ?_;try go_simp;refine hK _ _ ?_;clear hK K) | (refine RegG.bR rfl rfl ?_;unfold aB;go_simp;refine hK _ _ ?_;clear hK K))
      refine RegG.bG (fun W7 hW hH=>?_);have hM:=(HC.out W7).1 hW;have Q0:Hid (il.After V6.heap.size wi (jl wi.heap.size (.slice na m nc) m us (.slice ta j tc)) W7 (.slice yf (m+1) yg)):=hid (hH _ (aw (show _=some _ from rfl:_[3]? =some _)));have Q1:Hid (il.After V6.heap.size wi (mkApp wi.heap.size (.slice ma m mc) m ms ml mx) W7 (.slice Jw (m+1) Jy)/\((Value.slice Jw (m+1) Jy).ownBlock=(Value.slice ma m mc).ownBlock\/py (.slice Jw (m+1) Jy) (.slice yf (m+1) yg))):=hid (hH _ (aw (show _=some _ from rfl:_[0]? =some _)));have K7:Hid (ae (fun x=>x<wi.heap.size/\¬ ∃ q∈PL,q.v.ownBlock=some x) wi W7):=hid hM.keeps
      have KR:Hid (∀ (e:TypeId) (bs sz m:Nat) (u:Value) (ys:List Value),e≠39->wi.ownsRow bs e sz u m ys->W7.ownsRow bs e sz u m ys):=hid (by
       intro e bs sz m u ys he ho;refine ai ho K7.out fun x hx=>⟨(ho.lt x hx).2,?_⟩
       rintro⟨q,hq,Ma⟩;rcases Cy.out q hq with rfl | rfl
       ·rcases ownBlock_ne he ho U2.out with h5 | h5
        ·rw[h5]at hx;cases hx
        ·exact h5 (hx.trans Ma.symm)
       ·rcases ownBlock_ne he ho M2.out with h5 | h5
        ·rw[h5]at hx;cases hx
        ·exact h5 (hx.trans Ma.symm))
      have B7:=hid (Jv.out.keeps K7.out ⟨Jv.out.lt,Gh.out _ (.inl (by omega))⟩);have K8:Hid (ae (fun x=>x<V6.heap.size/\x≠ob) V6 W7):=hid ((HX.out.tr (KI.out.mono fun x hx=>by have:=hx.1;show x<ja.heap.size;omega)).tr (K7.out.mono fun x hx=>⟨by have:=hx.1;omega,Gh.out x (.inl hx.1)⟩))
      have O7:Hid (br V6.heap.size W7 (.slice yf (m+1) yg) (bn d p (k+1)).1):=hid (by
       obtain⟨⟨ns,h5,h6⟩,_⟩:=Q0.out;have h6:ns=[.slice ta j tc]:=h6;subst h6;rw[HT1.out];refine br.more U1.out HUS.out h5 (fun i u l hu hl=>KR.out _ _ _ _ _ _ (by decide) (U3.out i u l hu hl)) ?_;rw[Yf.out]
       exact aF (KR.out _ _ _ _ _ _ (by decide) TV.out) (by omega))
      have P7:Hid (br V6.heap.size W7 (.slice Jw (m+1) Jy) (bn d p (k+1)).2):=hid (by
       obtain⟨⟨⟨ns,h5,u,h6,_,h7⟩,_⟩,_⟩:=Q1.out;have h6:ns=[u]:=h6;subst h6;rw[HT2.out];refine br.more M1.out WN.out h5 (fun i u l hu hl=>KR.out _ _ _ _ _ _ (by decide) (M3.out i u l hu hl)) ?_;rw[<-za.out, <-YY.out]
       exact aF h7 (by omega))
      have FR:Hid (py (.slice yf (m+1) yg) (.slice Jw (m+1) Jy)):=hid (by
       rcases Q1.out.2 with h | h
       ·rcases Q0.out.2 with h' | h'
        ·rcases WJ.out with h3 | h3
         ·exact .inl (h'.trans h3)
         ·exact .inr (by rw[h',h];exact h3)
        ·by_cases e:(Value.slice yf (m+1) yg).ownBlock=none
         ·exact .inl e
         ·right
          intro e2;rw[h]at e2;cases e3:(Value.slice ma m mc).ownBlock with
          | none=>rw[e3]at e2;exact e e2
          | some x=>rw[e3]at e2;have:=h' x e2;have:=(Vo.out x e3).1;omega
       ·exact h.symm)
      clear hM hW hH HC o1 o2 o3 o4 oT xy Dd Cy Gh y9 HST K7 KR Jv BI TV Q0 Q1 Zx Vo U1 U2 U3 M1 M2 M3 HUS WN za YY Ku HT1 HT2 hne;obtain⟨⟨k0,k1,k2⟩,z0,z1,z2⟩:=B7.out.three;go_wp2;go_roundw;case rel=>
       have kg:ae (· ≠ob) W7 ((W7.setCell ⟨ob,1,none⟩ (.slice yf (m+1) yg)).setCell ⟨ob,2,none⟩ (.slice Jw (m+1) Jy)):=
        ((ae.refl _ _).setCell (p:=⟨ob,1,none⟩) (fun h=>h rfl) _).setCell (p:=⟨ob,2,none⟩) (fun h=>h rfl) _
       exact⟨k+1,m+1,_,_,by omega,by go_num,HL9.out,(B7.out.set 1 _).set 2 _,O7.out.keeps kg (fun x h1 _ e=>by omega),P7.out.keeps kg (fun x h1 _ e=>by omega),FR.out,K8.out.tr (kg.mono fun x hx=>hx.2)⟩
      case measure=>simp[intOf];omega
  ·obtain rfl:k=n:=by omega
   have eG:¬ ((k:Int)<k):=by omega
   have NXF:=hid zh.out;have MKF:=hid zi.out;obtain⟨⟨k0,k1,k2⟩,_⟩:=WI.out.three;obtain⟨⟨l0,l1,l2⟩,z0,z1,z2⟩:=RO.out.three;go_wp2;refine bu ?_;intro W9 gq;have E9:Hid (ar W9 (w.heap.size+1) #[.slice ca K cc,.slice na m nc,.slice ma m mc] 29/\ae (· ≠w.heap.size+1) ja W9):=by rw[gq];exact hid ⟨RO.out.yT,eE _ _ _ _ _⟩
   clear gq z0 z1 z2 k0 k1 k2 l0 l1 l2;obtain⟨⟨m0,m1,m2⟩,_⟩:=E9.out.1.three;refine bodyPost_ret (v:=.agg #[.slice ca K cc,.slice na m nc,.slice ma m mc]) (by simp[results,Tryz.results81,go_sem,m0,m1,m2]) rfl ⟨_,rfl,⟨_,_,_,rfl,?_,?_,?_⟩,XO.out.trans (E9.out.2.mono fun x (hx:x<w.heap.size)=>by show x≠w.heap.size+1;omega:ae (· <w.heap.size) ja W9).below⟩
   ·have h5:=aF (base':=w.heap.size) (ai CO.out E9.out.2 fun x e=>by have:=(CO.out.lt x e).1;show x≠_;omega) (by omega)
    show W9.ownsRow w.heap.size 56 4 _ d.cl.length _;rw[<-HK.out];exact h5
   ·show br _ _ _ (bn d p d.nx.length).1
    rw[<-HN.out];exact(NXF.out.keeps E9.out.2 fun x h1 _=>by show x≠_;omega).base (by omega)
   ·show br _ _ _ (bn d p d.nx.length).2
    rw[<-HN.out];exact(MKF.out.keeps E9.out.2 fun x h1 _=>by show x≠_;omega).base (by omega)
end
section
open Go Go.RowKit Go.Shelf Go.Maps
structure dt (W:World) (base n:Nat) (us:List Value) (ll:List (List Int)):Prop where
 l1:us.length=n
 l2:ll.length=n
 rows:RowsIn W base us ll
 far:∀ (i j:Nat) (u v:Value),us[i]? =some u->us[j]? =some v->i≠j->py u v
theorem dt.start (W:World) (base n:Nat):dt W base n (List.replicate n (.slice none 0 0)) (List.replicate n []) where
 l1:=List.length_replicate
 l2:=List.length_replicate
 rows:=fun i u l hu hl=>by
  rw[List.getElem?_replicate]at hu hl;split at hu
  ·rename_i h
   rw[if_pos h]at hl;cases hu;cases hl;exact World.ownsRow_nil _ _ _ _
  ·cases hu
 far:=fun i j u v hu _ _=>by
  rw[List.getElem?_replicate]at hu;split at hu
  ·cases hu;exact .inl rfl
  ·cases hu
theorem dt.keeps {W W':World} {base n:Nat} {us:List Value} {ll:List (List Int)} (h:dt W base n us ll) {R:Nat->Prop} (hk:ae R W W') (hr:∀ u x,u∈us->u.ownBlock=some x->x<W.heap.size->R x):dt W' base n us ll:=⟨h.l1,h.l2,h.rows.keeps hk hr,h.far⟩
theorem dt.below {W W':World} {base n:Nat} {us:List Value} {ll:List (List Int)} (h:dt W base n us ll) (hk:aa W W'):dt W' base n us ll:=⟨h.l1,h.l2,h.rows.below hk,h.far⟩
theorem dt.more {W W':World} {base n i:Nat} {us:List Value} {ll:List (List Int)} {u v:Value} {l m:List Int} (h:dt W base n us ll) (hu:us[i]? =some u) (hl:ll[i]? =some l) (hk:ae (fun x=>x<W.heap.size/\u.ownBlock≠some x) W W') (ho:W'.ownsRow base 3 1 v m.length (m.map aN)) (hv:v.ownBlock=u.ownBlock\/∀ x,v.ownBlock=some x->W.heap.size<=x):dt W' base n (us.set i v) (ll.set i m):=by
 have hlt:=fun {j:Nat} {x:Value} (hj:us[j]? =some x)=>h.rows.lt h.l1 h.l2 (aw hj)
 refine⟨by rw[List.length_set];exact h.l1,by rw[List.length_set];exact h.l2,fun j x y hx hy=>?_,fun j k x y hx hy hne=>?_⟩
 ·by_cases e:j=i
  ·subst e
   have h1:=(List.getElem?_eq_some_iff.1 hu).1;have h2:=(List.getElem?_eq_some_iff.1 hl).1;rw[List.getElem?_set_self h1]at hx;rw[List.getElem?_set_self h2]at hy;cases hx;cases hy;exact ho
  ·rw[List.getElem?_set_ne (Ne.symm e)]at hx hy
   have hr:=h.rows j x y hx hy;refine ai hr hk fun b hb=>⟨(hr.lt b hb).2,fun e2=>?_⟩
   rcases h.far j i x u hx hu e with h3 | h3
   ·rw[h3]at hb;cases hb
   ·exact h3 (hb.trans e2.symm)
 ·have hi:=(List.getElem?_eq_some_iff.1 hu).1
  by_cases e:j=i
  ·subst e
   rw[List.getElem?_set_self hi]at hx;cases hx;rw[List.getElem?_set_ne (fun e=>hne (by omega))]at hy;exact((h.far k j y u hy hu (Ne.symm hne)).step hv fun b e=>(hlt hy b e).2).symm
  ·rw[List.getElem?_set_ne (Ne.symm e)]at hx
   by_cases e2:k=i
   ·subst e2
    rw[List.getElem?_set_self hi]at hy;cases hy;exact(h.far j k x u hx hu e).step hv fun b e=>(hlt hx b e).2
   ·rw[List.getElem?_set_ne (Ne.symm e2)]at hy
    exact h.far j k x y hx hy hne
theorem Vp {p:Nat->Nat} {n:Nat} (h:Nv p n) {b:Nat} (hb:b<eC p n):∃ s,s<n/\p s=b:=by obtain⟨s,h1,h2,_⟩:=jV (d:=⟨[],[],[]⟩) h b hb;exact⟨s,h1,h2⟩
theorem Gi {cl:List BS} {p:Nat->Nat} {b:Nat} :∀ {k:Nat},k<=cl.length->(∀ x∈cl,x≠0)->(tk cl p b k=0↔ ∀ j,j<k->p j≠b)
 | 0,_,_=>⟨fun _ j hj=>absurd hj (Nat.not_lt_zero _),fun _=>rfl⟩
 | k+1,hk,hz=>by
  have ih:=Gi (cl:=cl) (p:=p) (b:=b) (k:=k) (by omega) hz;rw[tk];split
  ·rename_i e
   constructor
   ·intro h0
    have h1:cl.getD k 0=0:=by
     apply BitVec.eq_of_getLsbD_eq;intro i hi;have h2:(tk cl p b k ||| cl.getD k 0).getLsbD i=false:=by rw[h0];exact BitVec.getLsbD_zero
     simp only[BitVec.getLsbD_or,Bool.or_eq_false_iff]at h2;rw[h2.2];exact BitVec.getLsbD_zero.symm
    exact absurd h1 (hz _ (by rw[bh,az (by omega)];exact List.getElem_mem _))
   ·intro h
    exact absurd e (h k (Nat.lt_succ_self k))
  ·rename_i e
   rw[ih];constructor
   ·intro h j hj
    by_cases ej:j=k
    ·subst ej;exact e
    ·exact h j (by omega)
   ·exact fun h j hj=>h j (by omega)
theorem Vq {p:Nat->Nat} {n k:Nat} (hp:Nv p n) (hk:k<n):p k<(cV p k).length↔ ∃ j,j<k/\p j=p k:=by
 have T9:Nv p k:=fun s hs=>hp s (by omega)
 rw[rZ T9];constructor
 ·exact fun h=>Vp T9 h
 ·rintro⟨j,hj,e⟩
  rw[<-e];exact iR hj
theorem SD (p:Nat->Nat):∀ k,(cV p k).length<=k
 | 0=>aD _
 | k+1=>by
  have:=SD p k;rw[cV];split
  ·omega
  ·rw[aG,List.length_singleton];omega
def jX (d:DF) (k:Nat):List (List Int):=d.nx.map fun row=>(cV (cg d) k).map fun j=>row.getD j 0
def mH (d:DF) (k s:Nat):List (List Int):=(List.range d.nx.length).map fun i=>((cV (cg d) k).map fun j=>(d.nx.getD i []).getD j 0)++if i<s then [(d.nx.getD i []).getD k 0]else []
theorem JA (d:DF) (k:Nat):mH d k 0=jX d k:=by
 unfold mH jX;refine List.ext_getElem? fun i=>?_
 rw[aO,aO];by_cases h:i<d.nx.length
 ·rw[List.getElem?_range h,az h]
  show some (_++if i<0 then _ else _)=_;rw[if_neg (Nat.not_lt_zero i),List.append_nil,bh,az h];rfl
 ·rw[aX (by simpa using h),aX (by omega)];rfl
theorem NG {d:DF} {k:Nat} (hk:¬cg d k<(cV (cg d) k).length):mH d k d.nx.length=jX d (k+1):=by
 unfold mH jX;refine List.ext_getElem? fun i=>?_
 rw[aO,aO];by_cases h:i<d.nx.length
 ·rw[List.getElem?_range h,az h]
  have e:d.nx.getD i []=d.nx[i]:=by rw[bh,az h];rfl
  show some (_++if i<d.nx.length then _ else _)=some ((cV (cg d) (k+1)).map fun j=>(d.nx[i]).getD j 0);rw[e,if_pos h,cV,if_neg hk,List.map_append];rfl
 ·rw[aX (by simpa using h),aX (by omega)];rfl
theorem NH (d:DF) (k:Nat) {s:Nat} (hs:s<d.nx.length):(mH d k s).set s (((cV (cg d) k).map fun j=>(d.nx.getD s []).getD j 0)++ [(d.nx.getD s []).getD k 0])=mH d k (s+1):=by
 unfold mH;refine List.ext_getElem? fun i=>?_
 rw[List.getElem?_set];by_cases h:i<d.nx.length
 ·rw[aO,aO,List.getElem?_range h]
  by_cases e:s=i
  ·subst e
   rw[if_pos rfl,if_pos (by simpa using h)];show _=some (_++if s<s+1 then _ else _);rw[if_pos (Nat.lt_succ_self s)]
  ·rw[if_neg e]
   show some (_++if i<s then _ else _)=some (_++if i<s+1 then _ else _);by_cases h2:i<s
   ·rw[if_pos h2,if_pos (by omega)]
   ·rw[if_neg h2,if_neg (by omega)]
 ·rw[aX (by simpa using h),aX (by simpa using h),if_neg (by omega)]
theorem NI (d:DF) (k:Nat) {s:Nat} (hs:s<d.nx.length):(mH d k s)[s]? =some ((cV (cg d) k).map fun j=>(d.nx.getD s []).getD j 0):=by unfold mH;rw[aO,List.getElem?_range hs];show some (_++if s<s then _ else _)=_;rw[if_neg (Nat.lt_irrefl s),List.append_nil]
theorem NJ {d:DF} {k:Nat} (hk:cg d k<(cV (cg d) k).length):jX d (k+1)=jX d k:=by unfold jX;rw[cV,if_pos hk]
theorem NK (d:DF):jX d d.cl.length=(ie d).nx:=rfl
theorem JD (d:DF):jX d 0=List.replicate d.nx.length []:=by unfold jX;rw[show(fun row:List Int=>(cV (cg d) 0).map fun j=>row.getD j 0)=fun _=>[] from rfl,List.map_const']
def kN (d:DF) (N k:Nat):List BS:=(List.range N).map fun b=>tk d.cl (cg d) b k
theorem NL (d:DF) (N:Nat):kN d N 0=List.replicate N 0:=by unfold kN;rw[show(fun b:Nat=>tk d.cl (cg d) b 0)=fun _=>(0:BS) from rfl,List.map_const',List.length_range]
theorem SF (d:DF) {N k:Nat} (hk:cg d k<N):(kN d N k).set (cg d k) (tk d.cl (cg d) (cg d k) k ||| d.cl.getD k 0)=kN d N (k+1):=by
 unfold kN;refine List.ext_getElem? fun b=>?_
 rw[List.getElem?_set];by_cases h:b<N
 ·rw[aO,aO,List.getElem?_range h]
  by_cases e:cg d k=b
  ·subst e
   rw[if_pos rfl,if_pos (by simpa using h)];show _=some (tk d.cl (cg d) (cg d k) (k+1));rw[tk,if_pos rfl]
  ·rw[if_neg e]
   show some (tk d.cl (cg d) b k)=some (tk d.cl (cg d) b (k+1));rw[tk,if_neg e]
 ·rw[aX (by simpa using h),aX (by simpa using h),if_neg (by omega)]
theorem SG (d:DF):kN d (eC (cg d) d.cl.length) d.cl.length=(ie d).cl:=rfl
theorem yh (d:DF) {N k b:Nat} (hb:b<N):(kN d N k)[b]? =some (tk d.cl (cg d) b k):=by unfold kN;rw[aO,List.getElem?_range hb];rfl
theorem tz {d:DF} (rt:Rt d) {s k:Nat} (hs:s<d.nx.length) (hk:k<d.cl.length):dL d s k<d.nx.length/\(d.nx.getD s [])[k]? =some (dL d s k:Int):=by
 have h5:(d.nx.getD s [])[k]? =some ((d.nx.getD s []).getD k 0):=by rw[bh (i:=k),az (by rw[rt.len s hs];exact hk)];rfl
 have h6:=rt.je s hs _ (aw h5);have h7:((dL d s k:Nat):Int)=(d.nx.getD s []).getD k 0:=by unfold dL;omega
 exact⟨by omega,by rw[h7];exact h5⟩
theorem Gj (k db:Nat) (d:DF) (rt:Rt d) (hk:k<d.cl.length) (v1:Value) (W:World) (hd:W.cell? ⟨db,1,none⟩=some v1) (h1:gT W v1 d.nx): ah 174 #[.int .i64 k,.pointer (some ⟨db,0,none⟩)] W fun e w'=>e=.returned (jf (kM (xT d k)))/\aa W w':=by
 obtain⟨iI,y7,kJ,kK,kL⟩:=info_parts Tryz.mB;obtain⟨a1,c1,rfl⟩:=h1.form;obtain⟨n,hn⟩:=ag d.nx.length;obtain⟨K,hK⟩:=ag d.cl.length;have Tu:n<=4000:=by have:=rt.le;omega
 rw[<-hn]at hd h1;rw[<-hK]at hk;have GV:Hid (∀ s,s<n->∃ (b:Nat) (off:Nat) (ad:Option Addr) (cp:Nat),a1=some ⟨b,off,none⟩/\b<W.heap.size/\W.cell? ⟨b,off+s,none⟩=some (.slice ad K cp)/\∃ (b':Nat) (off':Nat),ad=some ⟨b',off',none⟩/\b'<W.heap.size/\W.cell? ⟨b',off'+k,none⟩=some (.int .i64 (dL d s k))):=hid fun s hs=>by
  have hrow:d.nx[s]? =some (d.nx.getD s []):=by rw[bh,az (by rw[<-hn];exact hs)];rfl
  obtain⟨b,off,a',c',e1,e2,e3,e4⟩:=h1.elem hrow;rw[rt.len s (by rw[<-hn];exact hs), <-hK]at e3 e4;have hx:(d.nx.getD s [])[k]? =some ((dL d s k:Nat):Int):=(tz rt (by rw[<-hn];exact hs) (by rw[<-hK];exact hk)).2;obtain⟨b',o',e5,e6,e7⟩:=e4.elem hx;exact⟨b,off,a',c',e1,e2,e3,b',o',e5,e6,e7⟩
 obtain⟨R,hR⟩:=ag (jf (kM (xT d k)));rw[<-hR];have HR:=hid hR;have HN:=hid hn;have HNT:Hid (∀ s,s<n->dL d s k<n):=hid fun s hs=>by
  rw[hn];exact(tz rt (by rw[<-hn];exact hs) (by rw[<-hK];exact hk)).1
 have ac1:db<W.heap.size:=World.block_lt_of_cell? _ _ hd;clear h1 hR hn hK rt;have eG:(k:Int)<K:=by omega
 go_enter Tryz.func174,Tryz.ntmps174
 go_wp2;go_loopw [4,10] (fun ov iv wr=>∃ s:Nat,s<=n/\iv=.int .i64 s/\wr.ownsRow W.heap.size 3 1 ov s ((List.range s).map fun i=>cQ (dL d i k))/\aa W wr) (fun _ iv _=>n-(intOf iv).toNat);case atStart=>exact⟨0,Nat.zero_le _,rfl,World.ownsRow_nil _ _ _ _,Below.refl _ _⟩
 case round=>
  obtain⟨s,hs,rfl,ho,hx⟩:=hrel;obtain⟨wo,rfl⟩:=ag (wr:World);have HO:=hid ho;have HX:=hid hx;obtain⟨oa,oc,rfl⟩:=ownsRow_form ho;have GN:W.heap.size<=wo.heap.size:=hx.size;clear ho hx;by_cases hlt:s<n
  ·have Ls:(s:Int)<n:=by omega
   obtain⟨b1,o1,ad,cp,rfl,hb1,hc1,b2,o2,rfl,hb2,hc2⟩:=GV.out s hlt;have uk:∀ b o u,b<W.heap.size->W.cell? ⟨b,o,none⟩=some u->wo.cell? ⟨b,o,none⟩=some u:=fun b o u hb h=>((ae.ak HX.out fun _ h=>h:ae (· <W.heap.size) W wo).cell (p:=⟨b,o,none⟩) hb).trans h
   replace hc1:=uk _ _ _ hb1 hc1;replace hc2:=uk _ _ _ hb2 hc2;have HT:Hid ((List.range (s+1)).map (fun i=>cQ (dL d i k))=((List.range s).map fun i=>cQ (dL d i k))++ [.int .i64 (dL d s k)]):=hid (by rw[List.range_succ,List.map_append];rfl);obtain⟨t,ht⟩:=ag (dL d s k);rw[<-ht]at hc2 HT;clear uk ht;go_wp2_with (at_builtin;refine Hid.out ?_);refine hid ?_;refine wpList_append_own_at _ rfl (.tmp 14) (.tmp 19) 39 rfl W.heap.size 3 iI (.int .i64 0) 1 8 Tryz.underlying39 y7 kJ kK kL rfl (by decide) (.slice oa s oc) s _ rfl (HO.out.alloc _) ⟨wo.heap.size,0,none⟩ 1 1 [.int .i64 t] rfl rfl (eX _ _ _) (by simp[Value.oneCell']) (by unfold maxLen;omega) (by omega) (by simp;omega) ?_;intro v' w5 hown' hgrow hh hat;have Jg:=hid hown';have lF:=hid hgrow;clear hown' hgrow hh hat;go_wp2;go_roundw;case rel=>
    refine⟨s+1,by omega,by go_num,?_,?_⟩
    ·rw[HT.out]
     exact Jg.out
    ·exact(HX.out.trans (((Ext.refl wo).alloc _).below.mono GN)).trans (((Below.refl _ _).grown lF.out (by simp;omega) fun x e=>(HO.out.lt x e).1))
   case measure=>simp[intOf];omega
  ·obtain rfl:s=n:=by omega
   have Ls:¬ ((s:Int)<s):=by omega
   have HE:Hid ((List.range s).map (fun i=>cQ (dL d i k))=((List.range s).map fun i=>((dL d i k:Nat):Int)).map aN):=hid (by rw[List.map_map];rfl);have xE:bZ aN wo (.slice oa s oc) ((List.range s).map fun i=>((dL d i k:Nat):Int)):=by have h5:=HO.out;rw[HE.out]at h5;exact dc h5 (by simp)
   have CN:=hid (qo _ _ (fun x hx=>by
    obtain⟨i,hi,rfl⟩:=List.mem_map.1 hx;have:=HNT.out i (List.mem_range.1 hi)
    omega) (by simp;omega) wo xE)
   have HV:Hid (jf (kM (((List.range s).map fun i=>((dL d i k:Nat):Int)).map Int.toNat))=R):=hid (by
    rw[HR.out,List.map_map];unfold xT;rw[<-HN.out]
    rfl)
   rw[HV.out]at CN;clear xE;go_wp2_with fail
   refine CN.out.mono ?_;rintro e w2 ⟨rfl,hx⟩;go_wp2;go_ret;exact⟨rfl,HX.out.trans (hx.mono GN)⟩
def NM (d:DF) (k:Nat):List UInt8:=kM (xT d k)
theorem SH {d:DF} (rt:Rt d):dP (NM d) d.cl.length=eC (cg d) d.cl.length/\∀ k,k<d.cl.length->dF (NM d) d.cl.length k=cg d k:=by
 have h0:∀ k,k<d.cl.length->∀ x∈xT d k,x<4294967296:=fun k hk x hx=>by
  have hle:=rt.le;unfold xT at hx;obtain⟨s,hs,rfl⟩:=List.mem_map.1 hx;have:=(tz rt (List.mem_range.1 hs) hk).1;omega
 obtain⟨h1,h2⟩:=oM (k:=NM d) (k':=xT d) (n:=d.cl.length) (fun s t hs ht=>⟨fun h=>xC (h0 s hs) (h0 t ht) h,fun h=>congrArg kM h⟩) _ (aD _);exact⟨h1.trans (CV (xT d) d.cl.length _ (aD _)).symm,h2⟩
end
end Go.Proofs.YtjgccapbphadjaaGreatDoor
namespace Go.Proofs.YtjgccapbphadjaaGreatDoor.RegF
open Go Go.RowKit
section
variable {P:Program} {ops:Array Oper} {eff:Nat→Bool} {cw:Nat→Nat} {M:World→World→Prop} {EP:Nat→aZ M} {C:World→Prop} {al:Nat→Bool} {Fin:List Oper→Act→World→Prop} {eO:Bool} {m:Nat} {E:aZ M} {o:Oper} {k:Nat} {aR:List (Nat× (World→Prop))} {a:Act} {K:List (Nat× (World→Prop))→Act→Prop} {l:List Oper}
def fT (P:Program) (ops:Array Oper) (eff:Nat->Bool) (cw:Nat->Nat) (EP:Nat->aZ M) (C:World->Prop) (al:Nat->Bool) (Fin:List Oper->Act->World->Prop) (n:Nat) (l:List Oper) (k:Nat) (aR:List (Nat× (World->Prop))) (a:Act):Prop:=
 fS.fT P (Calls P) gz ops eff cw (fun _=>none) (fun i=>RegQ.up (EP i)) C (fun _ _=>True) al Fin n l k aR a
def cJ (P:Program) (ops:Array Oper) (eO:Bool) (m:Nat) (E:aZ M) (C:World->Prop) (al:Nat->Bool) (o:Oper) (k:Nat) (aR:List (Nat× (World->Prop))) (a:Act) (K:List (Nat× (World->Prop))->Act->Prop):Prop:=
 fS.cJ P (Calls P) gz ops eO m none (RegQ.up E) C (fun _ _=>True) al o k aR a K
theorem au (h:∀ K:List (Nat× (World->Prop))->Act->Prop,(∀ hi a,en (fT P ops eff cw EP C al Fin m l (k+1) hi a)->K hi a)->cJ P ops (eff k) (cw k) (EP k) C al o k aR a K):en (fT P ops eff cw EP C al Fin (m+1) (o::l) k aR a):=
 ⟨(fS.au (D:=(fun _ _=>True)) (al:=al) (on:=(fun _=>none)) fun K hK=>h K fun hi a hl=>hK hi a ⟨hl.out⟩).out⟩
theorem bG (h:∀ W,C W->(∀ x∈aR,x.2 W)->Fin l a W):en (fT P ops eff cw EP C al Fin 0 l k aR a):=⟨h⟩
theorem bR (he:eO=false) (hw:Region.wanted o (yielded ops a.tmps)=true) (h:∃ v,(∀ W: {W//C W},aB P o a v W.1)/\K aR (a.put o.dst v)):cJ P ops eO m E C al o k aR a K:=fS.bR he hw h
theorem ck (he:eO=true) (hw:Region.wanted o (yielded ops a.tmps)=true) (ha:al k=false) (E':aZ M) (hE:E=E') (h1:∀ W,C W->needs m aR W->jE (Calls P) gz (fun v W'=>M W W'/\E'.P v/\E'.H v W') ((execOp a.eval o).run P W)) (h2:∀ v,E'.P v->K ((k,E'.H v)::aR) (a.put o.dst v)):cJ P ops eO m E C al o k aR a K:=
 fS.ck he hw (RegQ.up E') (by rw[hE]) (fun W hW _ hN=>nZ (fun _ _ ⟨h1,h2⟩=>by rw[ha];exact⟨⟨h1,fun _ _ _ _=>trivial⟩,h2⟩) (h1 W hW hN)) h2
theorem adb (he:eO=true) (hw:Region.wanted o (yielded ops a.tmps)=true) (ha:al k=true) (E':aZ M) (hE:E=E') (h1:∀ W,C W->needs m aR W->jE (Calls P) gz (fun v W'=>fS.DR W v W'/\M W W'/\E'.P v/\E'.H v W') ((execOp a.eval o).run P W)) (h2:∀ v,E'.P v->K ((k,E'.H v)::aR) (a.put o.dst v)):cJ P ops eO m E C al o k aR a K:=
 fS.ck he hw (RegQ.up E') (by rw[hE]) (fun W hW _ hN=>nZ (fun _ _ ⟨h0,h1,h2⟩=>by rw[ha];exact⟨h0,⟨h1,fun _ _ _ _=>trivial⟩,h2⟩) (h1 W hW hN)) h2
end
theorem uX {P:Program} {id:Nat} {Q:Exit->Act->World->Prop} {a:Act} {w:World} {l:List Oper} (T:Nat->Prop) (hm:P.follows .mixedOrders=true) (m:Nat) (cw:List Nat) (eff:Nat->Bool) (hB:mV .any l.toArray cw m=true) (al:List Nat) (hA:fS.OQ l.toArray eff al m=true) (EP:Nat->aZ (Move false T)) (h:∀ C:World->Prop,(∀ W,C W↔Move false T w W)->Nonempty {W//C W} ->en (fT P l.toArray eff (fun i=>cw.getD i 0) EP C (fun j=>al.contains j) (fun r a W=>fS.A0 l.toArray al a->wpList P l.toArray Q r a W) m l 0 [] a)):(Code.region id l.toArray true).wp P Q a w:=
 fS.jG (Move false T) (Move.ext (Ext.refl w).drew) (fun _ _ _ h k=>h.trans k) hm m cw eff hB (fun _=>none) (fun _ _=>rfl) (List.all_eq_true.2 fun _ _=>List.all_eq_true.2 fun _ _=>rfl) (fun i=>RegQ.up (EP i)) (fun _ _=>True) (fun _ _=>trivial) al (fun j=>al.contains j) hA (fun _=>rfl) (fun _ _ _ h=>h.size) _ (fun _ _ _ h1 h2=>h2 h1) fun C hC hne=>⟨(h C hC hne).out⟩
end Go.Proofs.YtjgccapbphadjaaGreatDoor.RegF
namespace Go.Proofs.YtjgccapbphadjaaGreatDoor
open Go Go.RowKit
theorem fS.A0.ne {ops:Array Oper} {al:List Nat} {a:Act} (h:fS.A0 ops al a) (i j s t:Nat) {x y:Value} (hi:al.contains i=true) (hj:al.contains j=true) (mz:i≠j) (hs:dG ops i=some s) (ht:dG ops j=some t) (h1:a.tmps[s]? =some x) (h2:a.tmps[t]? =some y):fS.Lx x≠fS.Lx y:=
 h i j s t x y hi hj mz hs ht (Array.getElem?_eq_some_iff.1 h1).1 (Array.getElem?_eq_some_iff.1 h2).1 h1 h2
theorem AG {P:Program} {o:Oper} {a:Act} {W:World} {post:Value->World->Prop} (l c:Operand) (t:TypeId) (hop:o.op=Op.makeSlice t l c) (e:TypeId) (i:TypeInfo) (z:Value) (size:Nat) (h1:P.underlying t=some (.slice e)) (h2:P.info? e=some i) (h3:i.zero=some z) (h4:i.size=size) (kl kc:IntKind) (L C:Int) (n:Nat) (hl:a.eval l=.int kl L) (hc:a.eval c=.int kc C) (hL:L=(n:Int)) (hC:C=(n:Int)) (b2:i.bytes*n<=281474976710656) (b3:n<=maxLen) (hK:∀ w',w'.ownsRow W.heap.size e size (.slice (some ⟨W.heap.size,0,none⟩) n n) n (madeCells z.cells (n*size)).toList->W.grownBy w' none->post (.slice (some ⟨W.heap.size,0,none⟩) n n) w'):jE (Calls P) gz post ((execOp a.eval o).run P W):=by obtain⟨w',hrun,r1,r2⟩:=run_make_full (P:=P) W W.heap.size t e i z size h1 h2 h3 h4 kl kc n b2 b3 (aD _);subst hL;subst hC;unfold execOp;simp[hop,hl,hc,hrun,Result.andThen];exact hK w' r1 r2
end Go.Proofs.YtjgccapbphadjaaGreatDoor
