/- The law's made: the automaton of a small one. Printed by wip/gen/made22.py. -/
import Derived.Test.YtjgccapbphadjaaGreatDoorOX13
set_option maxRecDepth 100000
set_option maxHeartbeats 16000000
open Go.Lib (hid)
open Go.Value renaming slice->An,int->AS,agg->D',bool->EV,oneCell'->I_,pointer->J_,tuple->K_
open Option renaming none->As,some->AI
open Go.Lib renaming hid->AF
open List renaming getElem?_eq_some_iff->AM,getElem?_range->A_,length_range->A',range->Bm,replicate->Bs,getElem?_set_self->Cd,getElem?_set_ne->C_,ext_getElem?->DE,length_take->DP,map_append->D0,getElem?_replicate->Ft,take_of_length_le->FF,length_singleton->F_,length_replicate->GB,mem_range->GO,map_map->G_,getElem?_set->H_,all_eq_true->Is,length_set->Iv,append_nil->IF,map_const'->IN,mem_map->Kx
open Go renaming World->AN,Value->AT,info_parts->DH,wpList_append_own_at->DS,bodyPost_ret->D_,Program->IT,Oper->I',TypeId->J',Calls->Lo,Addr->Lw,Act->Ly
open Go.RowKit renaming Hid->By
open Go.IntKind renaming i64->B_,u64->DQ
open Nat renaming zero_le->B',not_lt_zero->FG,le_trans->G',zero_add->H',lt_succ_self->If
open Go.Ending renaming returned->C'
open Go.World renaming ownsRow_nil->E_,cell?->It
open Bool renaming true->GS,false->GW
namespace Go.Proofs.YtjgccapbphadjaaGreatDoor
section
open Go Go.RowKit Go.Shelf Go.Maps
attribute [local go_sem] encS
theorem qp (d:DF) (p:Nat->Nat):∀ n,(bh d p n).2.length=(bh d p n).1.length
 | 0=>rfl
 | n+1=>by
  have h:=qp d p n;rw[bh];split
  ·exact h
  ·rw[aJ,aJ,h];rfl
theorem pH (d:DF) (p:Nat->Nat):∀ n,(bh d p n).1.length<=n
 | 0=>aF _
 | n+1=>by
  have h:=pH d p n;rw[bh];split
  ·omega
  ·rw[aJ,F_];omega
theorem I0 (v pv:AT) (d:DF) (rt:Rt d) (sm:Sm d) (p:Nat->Nat) (w:AN) (h:bV w v d) (hp:bw (fun u:AT=>u) w pv ((Bm d.nx.length).map fun s=>cK (p s))): ah 81 #[v,pv] w fun e w'=>∃ u,e=C' u/\aM w.heap.size w' u (bI d p)/\aa w w':=by
 obtain⟨iI,uD,jl,jm,jn⟩:=DH Tryz.ki;obtain⟨iL,uC,j6,j7,j8⟩:=DH Tryz.pd;obtain⟨v0,v1,v2,rfl,h0,h1,h2⟩:=h;obtain⟨a0,c0,rfl⟩:=h0.1.form;obtain⟨a1,c1,rfl⟩:=h1.form;obtain⟨a2,c2,rfl⟩:=h2.form;obtain⟨pa,pc,rfl⟩:=hp.form;rw[aP,A']at hp ⊢;have rO:=rt.mr;rw[rO]at h2 ⊢;obtain⟨n,hn⟩:=ag d.nx.length;obtain⟨K,hK⟩:=ag d.cl.length;have QS:n<=4000:=by have:=rt.le;omega
 have hK2:K<=256:=by have:=rt.Av;omega
 rw[<-hn]at h1 h2 hp ⊢;rw[<-hK]at h0 ⊢;have HPV:By (∀ s,s<n->∃ (b:Nat) (off:Nat),pa=AI ⟨b,off,As⟩/\b<w.heap.size/\w.cell? ⟨b,off+s,As⟩=AI (AS B_ (p s))):=AF fun s hs=>by
  obtain⟨b,o,e,h2,h3⟩:=hp.elem (i:=s) (x:=cK (p s)) (by rw[aN,A_ hs];rfl);exact⟨b,o,e,h2,h3⟩
 have HMK:By (∀ s,s<n->∃ (b:Nat) (off:Nat) (ad:Option Lw) (cp:Nat),a2=AI ⟨b,off,As⟩/\b<w.heap.size/\w.cell? ⟨b,off+s,As⟩=AI (An ad (d.mr.getD s []).length cp)/\bw aG w (An ad (d.mr.getD s []).length cp) (d.mr.getD s [])):=AF fun s hs=>by
  have hrow:d.mr[s]? =AI (d.mr.getD s []):=by rw[bB,aB (by rw[rO, <-hn];exact hs)];rfl
  obtain⟨b,off,a',c',e1,e2,e3,e4⟩:=h2.elem hrow;exact⟨b,off,a',c',e1,e2,e3,e4⟩
 have Bl:By (∀ s,s<n->∃ (b:Nat) (off:Nat) (ad:Option Lw) (cp:Nat),a1=AI ⟨b,off,As⟩/\b<w.heap.size/\w.cell? ⟨b,off+s,As⟩=AI (An ad K cp)/\bw aG w (An ad K cp) (d.nx.getD s [])):=AF fun s hs=>by
  have hrow:d.nx[s]? =AI (d.nx.getD s []):=by rw[bB,aB (by rw[<-hn];exact hs)];rfl
  obtain⟨b,off,a',c',e1,e2,e3,e4⟩:=h1.elem hrow;rw[rt.len s (by rw[<-hn];exact hs), <-hK]at e3 e4;exact⟨b,off,a',c',e1,e2,e3,e4⟩
 have H0:=AF h0;have HN:=AF hn;have HK:=AF hK;have RT:=AF rt;have SM:=AF sm;clear h0 h1 h2 hp hn hK rO rt sm;go_enter Tryz.func81,Tryz.ntmps81;go_wp2_with fail
 refine aK ?_;intro V hV;have B1:By (ar V w.heap.size #[An a0 K c0,An a1 n c1,An a2 n c2] 29):=AF (by rw[hV];exact(ar.new w _ _).alloc _);have R1:By (ar V (w.heap.size+1) #[An As 0 0,An As 0 0,An As 0 0] 29):=AF (by rw[hV];exact(ar.new (w.alloc _) _ _).at (by simp));have X1:By (aa w V):=AF (by rw[hV];exact(((Ext.refl w).alloc _).alloc _).below);clear hV;have hsV:w.heap.size+1<V.heap.size:=R1.lt;refine(kG (An a0 K c0) d.cl V ⟨H0.1.below X1,H0.2⟩ SM.cl).mono ?_;rintro e w5 ⟨u,rfl,ho,hx⟩;rw[<-HK.out]at ho;obtain⟨ca,cc,rfl⟩:=ownsRow_form ho;have C5:=AF ho;have B5:=AF (B1.below hx B1.lt);have R5:=AF (R1.below hx R1.lt);have X5:=AF (X1.trans (hx.mono X1.size));have hs5:V.heap.size<=w5.heap.size:=hx.size;clear ho hx B1 R1 X1;go_wp2;refine aw ?_;intro V6 UR;obtain⟨ob,hob⟩:=ag w5.heap.size;have D6:By (ar V6 ob #[An ca K cc,An As 0 0,An As 0 0] 29):=AF (by rw[UR,hob];exact ar.new _ _ _);have uq:aa w5 V6:=by rw[UR];exact((Ext.refl _).alloc _).below
 rw[<-hob];clear UR;have hs6:ob<V6.heap.size:=D6.lt;have B6:=AF (B5.below uq B5.lt);have R6:=AF (R5.below uq R5.lt);have X6:=AF (X5.trans (uq.mono X5.size));have C6:=AF (ai C5 uq);have hwo:w.heap.size+1<ob:=by omega
 clear uq B5 R5 X5 C5 hob;go_loopw [17] (fun kv wr=>∃ (k m:Nat) (nx mk:AT),k<=n/\kv=AS B_ k/\m=(bh d p k).1.length/\ar wr ob #[An ca K cc,nx,mk] 29/\aS V6.heap.size wr nx (bh d p k).1/\aS V6.heap.size wr mk (bh d p k).2/\oN nx mk/\ae (fun x=>x<V6.heap.size/\x≠ob) V6 wr) (fun kv _=>n-(intOf kv).toNat);case atStart=>exact⟨0,0,_,_,B' _,rfl,rfl,D6,aS.nil _ _,aS.nil _ _,.inl rfl,ae.refl _ _⟩
 case round=>
  obtain⟨k,m,nx,mk,hk,rfl,hm,hb,Ct,lq,hfar,hx⟩:=hrel;obtain⟨iO,rfl⟩:=ag (wr:AN);obtain⟨na,nc,rfl⟩:=Ct.form;obtain⟨ma,mc,rfl⟩:=lq.form;rw[qp]at lq hfar hb;rw[<-hm]at Ct lq hfar hb;have api:m<=k:=by rw[hm];exact pH _ _ _
  have WQ:=AF hb;have yt:=AF Ct;have yu:=AF lq;have HM:=AF hm;have WR:=AF hfar;have HX:=AF hx
  have CO:=AF (ak C6 hx fun x e=>by
   have h5:=C6.lt x e
   exact⟨h5.2,fun e2=>bZ D6 C6 (by decide) x e e2⟩)
  have BO:=AF (B6.keeps hx ⟨by omega,by omega⟩);have RO:=AF (R6.keeps hx ⟨by omega,by omega⟩);have XO:By (aa w iO):=AF (X6.trans (hx.mono fun x (hx:x<w.heap.size)=>⟨by omega,by omega⟩:ae (· <w.heap.size) V6 iO).below);have aif:V6.heap.size<=iO.heap.size:=hx.size;clear hb Ct lq hfar hx hm;by_cases hlt:k<n
  ·obtain⟨bp,op,rfl,hbp,yO⟩:=HPV.out k hlt
   have adD:iO.cell? ⟨bp,op+k,As⟩=AI (AS B_ (p k)):=((ae.aj XO fun _ h=>h:ae (· <w.heap.size) w iO).cell (p:=⟨bp,op+k,As⟩) hbp).trans yO;obtain⟨o0,o1,o2⟩:=aM.fj WQ;have ed:(k:Int)<n:=by omega
   obtain⟨pk,Ua⟩:=ag (p k);rw[<-Ua]at adD;have HPK:=AF Ua;clear yO Ua;by_cases JA:pk<m
   ·have hpi:(pk:Int)<m:=by omega
    have hst:bh d p (k+1)=bh d p k:=by rw[bh,if_pos (by rw[<-HPK.out, <-HM.out];exact JA)]
    have ZW:=AF hst;clear hst;go_wp2;go_roundw;case rel=>exact⟨k+1,m,_,_,by omega,by go_num,by rw[ZW.out];exact HM,WQ,by rw[ZW.out];exact yt,by rw[ZW.out];exact yu,WR,HX⟩
    case measure=>simp[intOf];omega
   ·have hpi:¬ ((pk:Int)<m):=by omega
    have hst:bh d p (k+1)=((bh d p k).1++ [(d.nx.getD k []).map fun t=>((p t.toNat:Nat):Int)],(bh d p k).2++ [d.mr.getD k []]):=by rw[bh,if_neg (by rw[<-HPK.out, <-HM.out];exact JA)]
    have HT1:By ((bh d p (k+1)).1=(bh d p k).1++ [(d.nx.getD k []).map fun t=>((p t.toNat:Nat):Int)]):=AF (by rw[hst]);have HT2:By ((bh d p (k+1)).2=(bh d p k).2++ [d.mr.getD k []]):=AF (by rw[hst]);obtain⟨b1,Nb,ad1,cp1,rfl,hb1,hc1,hsl1⟩:=Bl.out k hlt;replace hc1:iO.cell? ⟨b1,Nb+k,As⟩=AI (An ad1 K cp1):=((ae.aj XO fun _ h=>h:ae (· <w.heap.size) w iO).cell (p:=⟨b1,Nb+k,As⟩) hb1).trans hc1;have yV:=AF hsl1;have Vp:=BO.cell 1;simp only[List.getElem?_toArray,List.getElem?_cons_zero,List.getElem?_cons_succ]at Vp;clear hst hsl1;go_wp2;clear Vp hc1 adD o0 o1 o2;go_loopw [8,33] (fun tv jv wr=>∃ j:Nat,j<=K/\jv=AS B_ j/\wr.ownsRow iO.heap.size 3 1 tv j (((d.nx.getD k []).take j).map fun t=>cK (p t.toNat))/\ae (fun x=>x<iO.heap.size) iO wr) (fun _ jv _=>K-(intOf jv).toNat);case atStart=>exact⟨0,B' _,rfl,E_ _ _ _ _,ae.refl _ _⟩
    case round=>
     obtain⟨j,hj,rfl,ht,hx⟩:=hrel;obtain⟨wi,rfl⟩:=ag (wr:AN);have HT:=AF ht;have KI:=AF hx;have XI:By (aa w wi):=AF (XO.trans (hx.mono fun x (hx:x<w.heap.size)=>by show x<iO.heap.size;omega:ae (· <w.heap.size) iO wi).below);have aii:iO.heap.size<=wi.heap.size:=hx.size;clear ht hx;obtain⟨ta,tc,rfl⟩:=ownsRow_form HT;by_cases FZ:j<K
     ·obtain⟨x,hxj⟩:∃ x,(d.nx.getD k [])[j]? =AI x:=⟨_,aB (by rw[RT.len k (by rw[<-HN.out];exact hlt), <-HK.out];exact FZ)⟩
      have Uu:=RT.iK k (by rw[<-HN.out];exact hlt) x (ax hxj);obtain⟨t,rfl⟩:∃ t:Nat,x=(t:Int):=⟨x.toNat,by omega⟩;have sK:t<n:=by have:=HN.out;omega
      obtain⟨b',off',rfl,hb',hc'⟩:=(yV.below XI).elem hxj;replace hc':wi.cell? ⟨b',off'+j,As⟩=AI (AS B_ (t:Int)):=hc';obtain⟨b6,o6,e6,uq,hc6⟩:=HPV.out t sK;cases e6;have hc7:wi.cell? ⟨bp,op+t,As⟩=AI (AS B_ (p t)):=((ae.aj XI fun _ h=>h:ae (· <w.heap.size) w wi).cell (p:=⟨bp,op+t,As⟩) hbp).trans hc6;have jA:(j:Int)<K:=by omega
      have hti:(t:Int)<n:=by omega
      have adE:By (((d.nx.getD k []).take (j+1)).map (fun t=>cK (p t.toNat))=(((d.nx.getD k []).take j).map fun t=>cK (p t.toNat))++ [cK (p t)]):=AF (by rw[List.take_add_one,hxj,D0];rfl);obtain⟨ix,Vb⟩:=ag (p t);rw[<-Vb]at hc7 adE;clear hxj Uu hc6 uq Vb;go_wp2_with (at_builtin;refine DS _ rfl (.tmp 37) (.tmp 42) 39 rfl iO.heap.size 3 iI (AS B_ 0) 1 8 Tryz.underlying39 uD jl jm jn rfl (by decide) _ _ _ rfl (HT.alloc _) ⟨wi.heap.size,0,As⟩ 1 1 [cK ix] rfl rfl (dO _ _ _) (by simp[I_,cK]) (by unfold maxLen;omega) (by omega) (by simp;omega) ?_;intro v' w6 hown' hgrow hh hat;have jF:=AF hown';have HG:=AF hgrow;clear hown' hgrow hh hat);go_roundw;case rel=>
       have Ad:∀ x,(An ta j tc).ownBlock=AI x->iO.heap.size<=x:=fun x hx=>(HT.lt x hx).1
       refine⟨j+1,by omega,by go_num,by rw[adE.out];exact jF,?_⟩;exact(KI.tr (ae.aj ((Ext.refl _).alloc _).below fun x (hx:x<iO.heap.size)=>by show x<wi.heap.size;omega)).tr (ae.aZ HG fun x (hx:x<iO.heap.size)=>⟨by simp;omega,fun e=>by have:=Ad x e.symm;omega⟩)
      case measure=>simp[intOf];omega
     ·obtain rfl:j=K:=by omega
      have jA:¬ ((j:Int)<j):=by omega
      have yF:((d.nx.getD k []).map fun t=>((p t.toNat:Nat):Int)).length=j:=by rw[aP,RT.len k (by rw[<-HN.out];exact hlt), <-HK.out]
      have TV:By (wi.ownsRow iO.heap.size 3 1 (An ta j tc) j (((d.nx.getD k []).map fun t=>((p t.toNat:Nat):Int)).map aG)):=AF (by
       have h5:=HT.out;rw[FF (by rw[aP]at yF;rw[yF];exact aF _)]at h5
       rw[G_];exact h5)
      have Yy:=AF yF;clear yF HT;obtain⟨b2,fL,Tw,Tx,rfl,hb2,hc2,rI⟩:=HMK.out k hlt;have hcw:wi.cell? ⟨b2,fL+k,As⟩=AI (An Tw (d.mr.getD k []).length Tx):=((ae.aj XI fun _ h=>h:ae (· <w.heap.size) w wi).cell (p:=⟨b2,fL+k,As⟩) hb2).trans hc2;have Sn:(d.mr.getD k []).length<=1000000:=by
       by_cases h5:k<d.mr.length
       ·exact SM.Ug _ (ax (by rw[bB,aB h5];rfl:d.mr[k]? =AI _))
       ·rw[bB,aT (by omega)];exact B' _
      obtain⟨ml,oL⟩:=ag ((d.mr.getD k []).length);obtain⟨mx,hmx⟩:=ag ((d.mr.getD k []).map aG);have JZ:By (∀ W,aa w W->ah 22 #[An Tw ml Tx] W fun e w'=>∃ u,e=C' u/\w'.ownsRow W.heap.size 3 1 u ml mx/\aa W w'):=AF fun W hW=>by
       rw[oL,hmx];exact kH _ (d.mr.getD k []) W (rI.below hW) Sn
      rw[<-oL]at hcw;have NXI:=yt.keeps KI fun x _ h2=>h2
      have MKI:=yu.keeps KI fun x _ h2=>h2
      obtain⟨us,u1,u2,u3⟩:=NXI;obtain⟨ms,m1,m2,m3⟩:=MKI;have QT:us.length=m:=by rw[u1, <-HM.out]
      have Im:ms.length=m:=by rw[m1,qp, <-HM.out]
      rw[QT]at u2;rw[Im]at m2;have IV:=AF (WQ.keeps KI (by show ob<iO.heap.size;omega));have BI:=AF (BO.keeps KI (by show w.heap.size<iO.heap.size;omega));have ZV:By (∀ x,(An na m nc).ownBlock=AI x->x<iO.heap.size/\V6.heap.size<=x):=AF (by obtain⟨Vq,h0,h2,_⟩:=yt.out;exact fun x e=>⟨(h2.lt x e).2,(h2.lt x e).1⟩);have Vr:By (∀ x,(An ma m mc).ownBlock=AI x->x<iO.heap.size/\V6.heap.size<=x):=AF (by obtain⟨Vq,h0,h2,_⟩:=yu.out;exact fun x e=>⟨(h2.lt x e).2,(h2.lt x e).1⟩);have U1:=AF u1;have U2:=AF u2;have U3:=AF u3;have M1:=AF m1;have M2:=AF m2;have M3:=AF m3;have HUS:=AF QT;have WT:=AF Im;have yn:=AF oL;have Zq:=AF hmx;have HCW:=AF hcw;clear u1 u2 u3 m1 m2 m3 QT Im oL hmx yt yu hc2 rI hcw Sn;have HL9:By (m+1=(bh d p (k+1)).1.length):=AF (by rw[HT1.out,aJ, <-HM.out];rfl);obtain⟨PL,uF⟩:=ag ([(iW wi.heap.size (An na m nc) m us (An ta j tc)),(mkApp wi.heap.size (An ma m mc) m ms ml mx)]:List gW.App);have oP:PL[0]? =AI (iW wi.heap.size (An na m nc) m us (An ta j tc)):=by rw[uF];rfl
      have tM:PL[1]? =AI (mkApp wi.heap.size (An ma m mc) m ms ml mx):=by rw[uF];rfl
      have hall:∀ q∈PL,q=(iW wi.heap.size (An na m nc) m us (An ta j tc))\/q=(mkApp wi.heap.size (An ma m mc) m ms ml mx):=fun q hq=>by rw[uF]at hq;simpa using hq
      have BH:By (gW.kj wi PL):=AF ⟨fun q hq=>by rcases hall q hq with rfl | rfl<;>exact aF _,fun q hq x e=>by
       rcases hall q hq with rfl | rfl
       ·have:=ZV.out x e;omega
       ·have:=Vr.out x e;omega,fun i j q q' hi hj mM=>by
       have hl:PL.length=2:=by rw[uF];rfl
       have h1:=(AM.1 hi).1;have h2:=(AM.1 hj).1;rcases(show i=0\/i=1 by omega)with rfl | rfl<;>rcases(show j=0\/j=1 by omega)with rfl | rfl<;>(first | (exact absurd rfl mM) | skip)<;>(first | rw[oP]at hi | rw[tM]at hi)<;>(first | rw[oP]at hj | rw[tM]at hj)<;>cases hi<;>cases hj
       ·exact WR
       ·exact WR.symm⟩
      have Iy:∀ x,(x<V6.heap.size\/iO.heap.size<=x)->¬ ∃ q∈PL,q.v.ownBlock=AI x:=fun x hx ⟨q,hq,e⟩=>by
       rcases hall q hq with rfl | rfl
       ·have:=ZV.out x e;omega
       ·have:=Vr.out x e;omega
      have Bp:=AF hall;have Fm:=AF Iy;have yl:By (∀ W',gW.bR V6.heap.size wi PL wi W'->aa w W'):=AF fun W' h=>XI.trans (h.keeps.mono fun x hx=>⟨by have:x<w.heap.size:=hx;omega,Iy x (by have:x<w.heap.size:=hx;omega)⟩:ae (· <w.heap.size) wi W').below
      clear uF hall Iy;go_upto_region 12 with fail
      have HST:By (∀ W W' u,gW.bR V6.heap.size wi PL W W'->(u.oneCell'=GS/\W.ownsRow wi.heap.size 3 1 u ml mx)->(u.oneCell'=GS/\W'.ownsRow wi.heap.size 3 1 u ml mx)):=AF fun W W' u hm h=>⟨h.1,ak h.2 hm.keeps fun x hx=>⟨(h.2.lt x hx).2,Fm x (.inr (by have:=(h.2.lt x hx).1;omega))⟩⟩
      refine RegG.br (gW.bR V6.heap.size wi PL) (gW.bR.drew) (fun _ _ _ h k=>h.trans k) (by kernel_rfl) 16 [0,1,0,4,15,0,32,0,128,0,896,1920,3999,8095,16383,127,65535,131071,262143] (fun i=>i==3 || i==4 || i==12 || i==13 || i==14) (by kernel_rfl) (fun j=>if j=14 then AI 49 else As) (fun j hj=>(by first | rfl | (have kN:19<=j:=hj;first | exact if_neg (by omega) | (split<;>first | omega | rfl)))) (by kernel_rfl) (fun i=>if i=3 then gW.gT.vo V6.heap.size wi PL 1 #[An ta j tc] 39 else if i=4 then gW.gT.app V6.heap.size wi PL (iW wi.heap.size (An na m nc) m us (An ta j tc)) (ax oP)else if i=12 then gW.gT.row V6.heap.size wi PL BH wi.heap.size (aF _) 3 1 ml mx else if i=13 then gW.gT.Un V6.heap.size wi PL 39 (fun W u=>u.oneCell'=GS/\W.ownsRow wi.heap.size 3 1 u ml mx) HST else if i=14 then gW.gT.Ax V6.heap.size wi PL (mkApp wi.heap.size (An ma m mc) m ms ml mx) (ax tM)else RegG.aU.any _) ?_;intro C hC hne;have HC:=AF hC;have kB:∀ {x:Nat},x<wi.heap.size->(¬ ∃ q∈PL,q.v.ownBlock=AI x)->∀ W: {W//C W},W.1.heap[x]? =wi.heap[x]? :=fun {x} h1 h2 W=>((hC W.1).1 W.2).keeps.keep x ⟨h1,h2⟩
      have o1:∀ W: {W//C W},W.1.cell? ⟨ob,1,As⟩=AI (An na m nc):=fun W=>(IV.same (kB IV.lt (Fm _ (by omega)) W)).cell 1
      have o2:∀ W: {W//C W},W.1.cell? ⟨ob,2,As⟩=AI (An ma m mc):=fun W=>(IV.same (kB IV.lt (Fm _ (by omega)) W)).cell 2
      have o3:∀ W: {W//C W},W.1.cell? ⟨w.heap.size,2,As⟩=AI (An (AI ⟨b2,fL,As⟩) n c2):=fun W=>(BI.same (kB BI.lt (Fm _ (by omega)) W)).cell 2
      have o4:∀ W: {W//C W},W.1.cell? ⟨b2,fL+k,As⟩=AI (An Tw ml Tx):=fun W=>by
       have e:W.1.cell? ⟨b2,fL+k,As⟩=wi.cell? ⟨b2,fL+k,As⟩:=by unfold It;rw[kB (x:=b2) (by have:=XI.size;omega) (Fm.out b2 (by omega)) W]
       exact e.trans HCW
      clear hC kB
      repeat (refine RegG.au (fun K hK=>?_);first | (refine RegG.bL rfl ?_;try go_simp;refine hK _ _ ?_;clear hK K) | (refine RegG.bJ rfl rfl ?_;unfold az;go_simp;refine hK _ _ ?_;clear hK K))
      refine RegG.au (fun K hK=>?_);refine RegG.bS rfl rfl (gW.gT.vo V6.heap.size wi PL 1 #[An ta j tc] 39) rfl (fun W hW hN=>?_) (fun v hv=>?_)
      ·have hM:=(HC.out W).1 hW
       clear hW hK K
       (go_simp;exact⟨.below ((Ext.refl _).alloc _).below,⟨_,rfl⟩,fun b hb=>by cases hb;exact⟨ar.new _ _ _,BH.fresh hM.size⟩⟩)
      obtain⟨x3,rfl⟩:=hv;go_simp;refine hK _ _ ?_;clear hK K;refine RegG.au (fun K hK=>?_);refine RegG.bS rfl rfl (gW.gT.app V6.heap.size wi PL (iW wi.heap.size (An na m nc) m us (An ta j tc)) (ax oP)) rfl (fun W hW hN=>?_) (fun v hv=>?_)
      ·have hM:=(HC.out W).1 hW
       clear hW hK K;refine gW.dE (w0:=wi) (PL:=PL) (p:=(iW wi.heap.size (An na m nc) m us (An ta j tc))) (.tmp 46) (.tmp 48) 27 rfl iL (An As 0 0) 24 Tryz.underlying27 uC j6 j7 j8 rfl (show(0:Nat)<1 from by decide) BH oP rfl (hM.old _ (ax oP) U2) ⟨x3,0,As⟩ 1 rfl [An ta j tc] rfl rfl (cC (hN.at 0 rfl (by kernel_rfl) x3 rfl).1) (by intro u hu;simp at hu;rw[hu];rfl) (by show m+1<=maxLen;unfold maxLen;omega) (by show(m+1)*24<=_;omega) (G' (by omega) hM.size) (show(0:Nat)<1 from by decide) hM.size (fun v W2 g1 g2 g3 _=>⟨g1,g2,g3⟩)
      obtain⟨xe,xf,hv2⟩:=hv;replace hv2:v=An xe (m+1) xf:=hv2;subst hv2;go_simp;refine hK _ _ ?_;clear hK K
      repeat (refine RegG.au (fun K hK=>?_);first | (refine RegG.bL rfl ?_;try go_simp;refine hK _ _ ?_;clear hK K) | (refine RegG.bJ rfl rfl ?_;unfold az;go_simp;refine hK _ _ ?_;clear hK K))
      refine RegG.au (fun K hK=>?_);refine RegG.bS rfl rfl (gW.gT.row V6.heap.size wi PL BH wi.heap.size (aF _) 3 1 ml mx) rfl (fun W hW hN=>?_) (fun v hv=>?_)
      ·have hM:=(HC.out W).1 hW
       clear hW hK K
       (go_simp;refine bA ((JZ W (yl _ hM)).mono ?_);rintro e w2 ⟨um,rfl,ho,hx⟩;exact⟨_,rfl,.below hx,ownsRow_form ho,aC ho hM.size⟩)
      obtain⟨a9,c9,rfl⟩:=hv;go_simp;refine hK _ _ ?_;clear hK K;refine RegG.au (fun K hK=>?_);refine RegG.bS rfl rfl (gW.gT.Un V6.heap.size wi PL 39 (fun W u=>u.oneCell'=GS/\W.ownsRow wi.heap.size 3 1 u ml mx) HST) rfl (fun W hW hN=>?_) (fun v hv=>?_)
      ·have hM:=(HC.out W).1 hW
       clear hW hK K
       (go_simp;exact⟨.below ((Ext.refl _).alloc _).below,⟨_,rfl⟩,fun b hb=>by cases hb;exact⟨⟨_,ar.new _ _ _,rfl,(show W.ownsRow wi.heap.size 3 1 (An a9 ml c9) ml mx from hN.at 0 rfl (by kernel_rfl)).alloc _⟩,BH.fresh hM.size⟩⟩)
      obtain⟨WK,rfl⟩:=hv;go_simp;refine hK _ _ ?_;clear hK K;refine RegG.au (fun K hK=>?_);refine RegG.bS rfl rfl (gW.gT.Ax V6.heap.size wi PL (mkApp wi.heap.size (An ma m mc) m ms ml mx) (ax tM)) rfl (fun W hW hN=>?_) (fun v hv=>?_)
      ·have hM:=(HC.out W).1 hW
       have hq:gW.After V6.heap.size wi (iW wi.heap.size (An na m nc) m us (An ta j tc)) W (An xe (m+1) xf):=hN.at 2 rfl (by kernel_rfl);obtain⟨⟨ub,hb1,hb2,hb3⟩,_⟩:=hN.at 0 rfl (by kernel_rfl) WK rfl;clear hW hK K;refine gW.dE (w0:=wi) (PL:=PL) (p:=(mkApp wi.heap.size (An ma m mc) m ms ml mx)) (.tmp 51) (.tmp 58) 27 rfl iL (An As 0 0) 24 Tryz.underlying27 uC j6 j7 j8 rfl (show(0:Nat)<1 from by decide) BH tM rfl (hM.old _ (ax tM) M2) ⟨WK,0,As⟩ 1 rfl [ub] ⟨ub,rfl,hb2,hb3⟩ rfl (cC hb1) (by intro u hu;simp at hu;rw[hu];exact hb2) (by show m+1<=maxLen;unfold maxLen;omega) (by show(m+1)*24<=_;omega) (G' (by omega) hM.size) (show(0:Nat)<1 from by decide) hM.size (fun v W2 g1 g2 g3 g4=>⟨g1,g2,g3,?_⟩);rcases g4 with g4 | g4
       ·exact .inl g4
       ·refine .inr (.inr fun e=>?_)
        rw[g4]at e;obtain⟨⟨ns,h5,_⟩,_⟩:=hq;have:=(h5.lt _ e.symm).2;omega
      obtain⟨IY,IZ,hv2⟩:=hv;replace hv2:v=An IY (m+1) IZ:=hv2;subst hv2;go_simp;refine hK _ _ ?_;clear hK K
      repeat (refine RegG.au (fun K hK=>?_);first | (refine RegG.bL rfl ?_;try go_simp;refine hK _ _ ?_;clear hK K) | (refine RegG.bJ rfl rfl ?_;unfold az;go_simp;refine hK _ _ ?_;clear hK K))
      refine RegG.bC (fun W7 hW hH=>?_);have hM:=(HC.out W7).1 hW;have Q0:By (gW.After V6.heap.size wi (iW wi.heap.size (An na m nc) m us (An ta j tc)) W7 (An xe (m+1) xf)):=AF (hH _ (ax (show _=AI _ from rfl:_[3]? =AI _)));have Q1:By (gW.After V6.heap.size wi (mkApp wi.heap.size (An ma m mc) m ms ml mx) W7 (An IY (m+1) IZ)/\((An IY (m+1) IZ).ownBlock=(An ma m mc).ownBlock\/oN (An IY (m+1) IZ) (An xe (m+1) xf))):=AF (hH _ (ax (show _=AI _ from rfl:_[0]? =AI _)));have K7:By (ae (fun x=>x<wi.heap.size/\¬ ∃ q∈PL,q.v.ownBlock=AI x) wi W7):=AF hM.keeps
      have KR:By (∀ (e:J') (bs sz m:Nat) (u:AT) (ys:List AT),e≠39->wi.ownsRow bs e sz u m ys->W7.ownsRow bs e sz u m ys):=AF (by
       intro e bs sz m u ys he ho;refine ak ho K7 fun x hx=>⟨(ho.lt x hx).2,?_⟩
       rintro⟨q,hq,Lr⟩;rcases Bp.out q hq with rfl | rfl
       ·rcases ownBlock_ne he ho U2.out with h5 | h5
        ·rw[h5]at hx;cases hx
        ·exact h5 (hx.trans Lr.symm)
       ·rcases ownBlock_ne he ho M2.out with h5 | h5
        ·rw[h5]at hx;cases hx
        ·exact h5 (hx.trans Lr.symm))
      have B7:=AF (IV.keeps K7 ⟨IV.lt,Fm _ (.inl (by omega))⟩);have K8:By (ae (fun x=>x<V6.heap.size/\x≠ob) V6 W7):=AF ((HX.tr (KI.mono fun x hx=>by have:=hx.1;show x<iO.heap.size;omega)).tr (K7.mono fun x hx=>⟨by have:=hx.1;omega,Fm x (.inl hx.1)⟩))
      have O7:By (aS V6.heap.size W7 (An xe (m+1) xf) (bh d p (k+1)).1):=AF (by
       obtain⟨⟨ns,h5,h6⟩,_⟩:=Q0.out;have h6:ns=[An ta j tc]:=h6;subst h6;rw[HT1.out];refine aS.more U1 HUS h5 (fun i u l hu hl=>KR _ _ _ _ _ _ (by decide) (U3 i u l hu hl)) ?_;rw[Yy.out]
       exact aC (KR _ _ _ _ _ _ (by decide) TV) (by omega))
      have P7:By (aS V6.heap.size W7 (An IY (m+1) IZ) (bh d p (k+1)).2):=AF (by
       obtain⟨⟨⟨ns,h5,u,h6,_,h7⟩,_⟩,_⟩:=Q1.out;have h6:ns=[u]:=h6;subst h6;rw[HT2.out];refine aS.more M1 WT h5 (fun i u l hu hl=>KR _ _ _ _ _ _ (by decide) (M3 i u l hu hl)) ?_;rw[<-yn.out, <-Zq.out]
       exact aC h7 (by omega))
      have FR:By (oN (An xe (m+1) xf) (An IY (m+1) IZ)):=AF (by
       rcases Q1.2 with h | h
       ·rcases Q0.2 with h' | h'
        ·rcases WR.out with h3 | h3
         ·exact .inl (h'.trans h3)
         ·exact .inr (by rw[h',h];exact h3)
        ·by_cases e:(An xe (m+1) xf).ownBlock=As
         ·exact .inl e
         ·right
          intro e2;rw[h]at e2;cases e3:(An ma m mc).ownBlock with
          | none=>rw[e3]at e2;exact e e2
          | some x=>rw[e3]at e2;have:=h' x e2;have:=(Vr.out x e3).1;omega
       ·exact h.symm)
      clear hM hW hH HC o1 o2 o3 o4 oP tM BH Bp Fm yl HST K7 KR IV BI TV Q0 Q1 ZV Vr U1 U2 U3 M1 M2 M3 HUS WT yn Zq JZ HT1 HT2 hne;obtain⟨⟨k0,k1,k2⟩,z0,z1,z2⟩:=B7.three;go_wp2;go_roundw;case rel=>
       have kg:ae (· ≠ob) W7 ((W7.setCell ⟨ob,1,As⟩ (An xe (m+1) xf)).setCell ⟨ob,2,As⟩ (An IY (m+1) IZ)):=
        ((ae.refl _ _).setCell (p:=⟨ob,1,As⟩) (fun h=>h rfl) _).setCell (p:=⟨ob,2,As⟩) (fun h=>h rfl) _
       exact⟨k+1,m+1,_,_,by omega,by go_num,HL9,(B7.set 1 _).set 2 _,O7.keeps kg (fun x h1 _ e=>by omega),P7.keeps kg (fun x h1 _ e=>by omega),FR,K8.tr (kg.mono fun x hx=>hx.2)⟩
      case measure=>simp[intOf];omega
  ·obtain rfl:k=n:=by omega
   have ed:¬ ((k:Int)<k):=by omega
   have NXF:=AF yt.out;have MKF:=AF yu.out;obtain⟨⟨k0,k1,k2⟩,_⟩:=WQ.three;obtain⟨⟨l0,l1,l2⟩,z0,z1,z2⟩:=RO.three;go_wp2;refine aQ ?_;intro W9 dG;have E9:By (ar W9 (w.heap.size+1) #[An ca K cc,An na m nc,An ma m mc] 29/\ae (· ≠w.heap.size+1) iO W9):=by rw[dG];exact AF ⟨RO.vy,cY _ _ _ _ _⟩
   clear dG z0 z1 z2 k0 k1 k2 l0 l1 l2;obtain⟨⟨m0,m1,m2⟩,_⟩:=E9.1.three;refine D_ (v:=D' #[An ca K cc,An na m nc,An ma m mc]) (by simp[results,Tryz.results81,go_sem,m0,m1,m2]) rfl ⟨_,rfl,⟨_,_,_,rfl,?_,?_,?_⟩,XO.trans (E9.2.mono fun x (hx:x<w.heap.size)=>by show x≠w.heap.size+1;omega:ae (· <w.heap.size) iO W9).below⟩
   ·have h5:=aC (base':=w.heap.size) (ak CO E9.2 fun x e=>by have:=(CO.lt x e).1;show x≠_;omega) (by omega)
    show W9.ownsRow w.heap.size 56 4 _ d.cl.length _;rw[<-HK.out];exact h5
   ·show aS _ _ _ (bh d p d.nx.length).1
    rw[<-HN.out];exact(NXF.keeps E9.2 fun x h1 _=>by show x≠_;omega).base (by omega)
   ·show aS _ _ _ (bh d p d.nx.length).2
    rw[<-HN.out];exact(MKF.keeps E9.2 fun x h1 _=>by show x≠_;omega).base (by omega)
end
section
open Go Go.RowKit Go.Shelf Go.Maps
structure dr (W:AN) (base n:Nat) (us:List AT) (ll:List (List Int)):Prop where
 l1:us.length=n
 l2:ll.length=n
 rows:RowsIn W base us ll
 far:∀ (i j:Nat) (u v:AT),us[i]? =AI u->us[j]? =AI v->i≠j->oN u v
theorem dr.start (W:AN) (base n:Nat):dr W base n (Bs n (An As 0 0)) (Bs n []) where
 l1:=GB
 l2:=GB
 rows:=fun i u l hu hl=>by
  rw[Ft]at hu hl;split at hu
  ·rename_i h
   rw[if_pos h]at hl;cases hu;cases hl;exact E_ _ _ _ _
  ·cases hu
 far:=fun i j u v hu _ _=>by
  rw[Ft]at hu;split at hu
  ·cases hu;exact .inl rfl
  ·cases hu
theorem dr.keeps {W W':AN} {base n:Nat} {us:List AT} {ll:List (List Int)} (h:dr W base n us ll) {R:Nat->Prop} (hk:ae R W W') (hr:∀ u x,u∈us->u.ownBlock=AI x->x<W.heap.size->R x):dr W' base n us ll:=⟨h.l1,h.l2,h.rows.keeps hk hr,h.far⟩
theorem dr.below {W W':AN} {base n:Nat} {us:List AT} {ll:List (List Int)} (h:dr W base n us ll) (hk:aa W W'):dr W' base n us ll:=⟨h.l1,h.l2,h.rows.below hk,h.far⟩
theorem dr.more {W W':AN} {base n i:Nat} {us:List AT} {ll:List (List Int)} {u v:AT} {l m:List Int} (h:dr W base n us ll) (hu:us[i]? =AI u) (hl:ll[i]? =AI l) (hk:ae (fun x=>x<W.heap.size/\u.ownBlock≠AI x) W W') (ho:W'.ownsRow base 3 1 v m.length (m.map aG)) (hv:v.ownBlock=u.ownBlock\/∀ x,v.ownBlock=AI x->W.heap.size<=x):dr W' base n (us.set i v) (ll.set i m):=by
 have hlt:=fun {j:Nat} {x:AT} (hj:us[j]? =AI x)=>h.rows.lt h.l1 h.l2 (ax hj)
 refine⟨by rw[Iv];exact h.l1,by rw[Iv];exact h.l2,fun j x y hx hy=>?_,fun j k x y hx hy hne=>?_⟩
 ·by_cases e:j=i
  ·subst e
   have h1:=(AM.1 hu).1;have h2:=(AM.1 hl).1;rw[Cd h1]at hx;rw[Cd h2]at hy;cases hx;cases hy;exact ho
  ·rw[C_ (Ne.symm e)]at hx hy
   have hr:=h.rows j x y hx hy;refine ak hr hk fun b hb=>⟨(hr.lt b hb).2,fun e2=>?_⟩
   rcases h.far j i x u hx hu e with h3 | h3
   ·rw[h3]at hb;cases hb
   ·exact h3 (hb.trans e2.symm)
 ·have hi:=(AM.1 hu).1
  by_cases e:j=i
  ·subst e
   rw[Cd hi]at hx;cases hx;rw[C_ (fun e=>hne (by omega))]at hy;exact((h.far k j y u hy hu (Ne.symm hne)).step hv fun b e=>(hlt hy b e).2).symm
  ·rw[C_ (Ne.symm e)]at hx
   by_cases e2:k=i
   ·subst e2
    rw[Cd hi]at hy;cases hy;exact(h.far j k x u hx hu e).step hv fun b e=>(hlt hx b e).2
   ·rw[C_ (Ne.symm e2)]at hy
    exact h.far j k x y hx hy hne
theorem Vs {p:Nat->Nat} {n:Nat} (h:IJ p n) {b:Nat} (hb:b<cO p n):∃ s,s<n/\p s=b:=by obtain⟨s,h1,h2,_⟩:=jV (d:=⟨[],[],[]⟩) h b hb;exact⟨s,h1,h2⟩
theorem Fo {cl:List BS} {p:Nat->Nat} {b:Nat} :∀ {k:Nat},k<=cl.length->(∀ x∈cl,x≠0)->(sO cl p b k=0↔ ∀ j,j<k->p j≠b)
 | 0,_,_=>⟨fun _ j hj=>absurd hj (FG _),fun _=>rfl⟩
 | k+1,hk,hz=>by
  have ih:=Fo (cl:=cl) (p:=p) (b:=b) (k:=k) (by omega) hz;rw[sO];split
  ·rename_i e
   constructor
   ·intro h0
    have h1:cl.getD k 0=0:=by
     apply BitVec.eq_of_getLsbD_eq;intro i hi;have h2:(sO cl p b k ||| cl.getD k 0).getLsbD i=false:=by rw[h0];exact BitVec.getLsbD_zero
     simp only[BitVec.getLsbD_or,Bool.or_eq_false_iff]at h2;rw[h2.2];exact BitVec.getLsbD_zero.symm
    exact absurd h1 (hz _ (by rw[bB,aB (by omega)];exact List.getElem_mem _))
   ·intro h
    exact absurd e (h k (If k))
  ·rename_i e
   rw[ih];constructor
   ·intro h j hj
    by_cases ej:j=k
    ·subst ej;exact e
    ·exact h j (by omega)
   ·exact fun h j hj=>h j (by omega)
theorem Vt {p:Nat->Nat} {n k:Nat} (hp:IJ p n) (hk:k<n):p k<(cS p k).length↔ ∃ j,j<k/\p j=p k:=by
 have Ua:IJ p k:=fun s hs=>hp s (by omega)
 rw[rL Ua];constructor
 ·exact fun h=>Vs Ua h
 ·rintro⟨j,hj,e⟩
  rw[<-e];exact jw hj
theorem Sq (p:Nat->Nat):∀ k,(cS p k).length<=k
 | 0=>aF _
 | k+1=>by
  have:=Sq p k;rw[cS];split
  ·omega
  ·rw[aJ,F_];omega
def jX (d:DF) (k:Nat):List (List Int):=d.nx.map fun row=>(cS (cm d) k).map fun j=>row.getD j 0
def mA (d:DF) (k s:Nat):List (List Int):=(Bm d.nx.length).map fun i=>((cS (cm d) k).map fun j=>(d.nx.getD i []).getD j 0)++if i<s then [(d.nx.getD i []).getD k 0]else []
theorem I5 (d:DF) (k:Nat):mA d k 0=jX d k:=by
 unfold mA jX;refine DE fun i=>?_
 rw[aN,aN];by_cases h:i<d.nx.length
 ·rw[A_ h,aB h]
  show AI (_++if i<0 then _ else _)=_;rw[if_neg (FG i),IF,bB,aB h];rfl
 ·rw[aT (by simpa using h),aT (by omega)];rfl
theorem Nc {d:DF} {k:Nat} (hk:¬cm d k<(cS (cm d) k).length):mA d k d.nx.length=jX d (k+1):=by
 unfold mA jX;refine DE fun i=>?_
 rw[aN,aN];by_cases h:i<d.nx.length
 ·rw[A_ h,aB h]
  have e:d.nx.getD i []=d.nx[i]:=by rw[bB,aB h];rfl
  show AI (_++if i<d.nx.length then _ else _)=AI ((cS (cm d) (k+1)).map fun j=>(d.nx[i]).getD j 0);rw[e,if_pos h,cS,if_neg hk,D0];rfl
 ·rw[aT (by simpa using h),aT (by omega)];rfl
theorem Nd (d:DF) (k:Nat) {s:Nat} (hs:s<d.nx.length):(mA d k s).set s (((cS (cm d) k).map fun j=>(d.nx.getD s []).getD j 0)++ [(d.nx.getD s []).getD k 0])=mA d k (s+1):=by
 unfold mA;refine DE fun i=>?_
 rw[H_];by_cases h:i<d.nx.length
 ·rw[aN,aN,A_ h]
  by_cases e:s=i
  ·subst e
   rw[if_pos rfl,if_pos (by simpa using h)];show _=AI (_++if s<s+1 then _ else _);rw[if_pos (If s)]
  ·rw[if_neg e]
   show AI (_++if i<s then _ else _)=AI (_++if i<s+1 then _ else _);by_cases h2:i<s
   ·rw[if_pos h2,if_pos (by omega)]
   ·rw[if_neg h2,if_neg (by omega)]
 ·rw[aT (by simpa using h),aT (by simpa using h),if_neg (by omega)]
theorem Nf (d:DF) (k:Nat) {s:Nat} (hs:s<d.nx.length):(mA d k s)[s]? =AI ((cS (cm d) k).map fun j=>(d.nx.getD s []).getD j 0):=by unfold mA;rw[aN,A_ hs];show AI (_++if s<s then _ else _)=_;rw[if_neg (Nat.lt_irrefl s),IF]
theorem Ng {d:DF} {k:Nat} (hk:cm d k<(cS (cm d) k).length):jX d (k+1)=jX d k:=by unfold jX;rw[cS,if_pos hk]
theorem Nh (d:DF):jX d d.cl.length=(lZ d).nx:=rfl
theorem I6 (d:DF):jX d 0=Bs d.nx.length []:=by unfold jX;rw[show(fun row:List Int=>(cS (cm d) 0).map fun j=>row.getD j 0)=fun _=>[] from rfl,IN]
def kK (d:DF) (N k:Nat):List BS:=(Bm N).map fun b=>sO d.cl (cm d) b k
theorem Ni (d:DF) (N:Nat):kK d N 0=Bs N 0:=by unfold kK;rw[show(fun b:Nat=>sO d.cl (cm d) b 0)=fun _=>(0:BS) from rfl,IN,A']
theorem Sr (d:DF) {N k:Nat} (hk:cm d k<N):(kK d N k).set (cm d k) (sO d.cl (cm d) (cm d k) k ||| d.cl.getD k 0)=kK d N (k+1):=by
 unfold kK;refine DE fun b=>?_
 rw[H_];by_cases h:b<N
 ·rw[aN,aN,A_ h]
  by_cases e:cm d k=b
  ·subst e
   rw[if_pos rfl,if_pos (by simpa using h)];show _=AI (sO d.cl (cm d) (cm d k) (k+1));rw[sO,if_pos rfl]
  ·rw[if_neg e]
   show AI (sO d.cl (cm d) b k)=AI (sO d.cl (cm d) b (k+1));rw[sO,if_neg e]
 ·rw[aT (by simpa using h),aT (by simpa using h),if_neg (by omega)]
theorem Ss (d:DF):kK d (cO (cm d) d.cl.length) d.cl.length=(lZ d).cl:=rfl
theorem xh (d:DF) {N k b:Nat} (hb:b<N):(kK d N k)[b]? =AI (sO d.cl (cm d) b k):=by unfold kK;rw[aN,A_ hb];rfl
theorem nP {d:DF} (rt:Rt d) {s k:Nat} (hs:s<d.nx.length) (hk:k<d.cl.length):eH d s k<d.nx.length/\(d.nx.getD s [])[k]? =AI (eH d s k:Int):=by
 have h5:(d.nx.getD s [])[k]? =AI ((d.nx.getD s []).getD k 0):=by rw[bB (i:=k),aB (by rw[rt.len s hs];exact hk)];rfl
 have h6:=rt.iK s hs _ (ax h5);have h7:((eH d s k:Nat):Int)=(d.nx.getD s []).getD k 0:=by unfold eH;omega
 exact⟨by omega,by rw[h7];exact h5⟩
theorem Fp (k db:Nat) (d:DF) (rt:Rt d) (hk:k<d.cl.length) (v1:AT) (W:AN) (hd:W.cell? ⟨db,1,As⟩=AI v1) (h1:fy W v1 d.nx): ah 174 #[AS B_ k,J_ (AI ⟨db,0,As⟩)] W fun e w'=>e=C' (iR (kI (wW d k)))/\aa W w':=by
 obtain⟨iI,uD,jl,jm,jn⟩:=DH Tryz.ki;obtain⟨a1,c1,rfl⟩:=h1.form;obtain⟨n,hn⟩:=ag d.nx.length;obtain⟨K,hK⟩:=ag d.cl.length;have QS:n<=4000:=by have:=rt.le;omega
 rw[<-hn]at hd h1;rw[<-hK]at hk;have Bl:By (∀ s,s<n->∃ (b:Nat) (off:Nat) (ad:Option Lw) (cp:Nat),a1=AI ⟨b,off,As⟩/\b<W.heap.size/\W.cell? ⟨b,off+s,As⟩=AI (An ad K cp)/\∃ (b':Nat) (off':Nat),ad=AI ⟨b',off',As⟩/\b'<W.heap.size/\W.cell? ⟨b',off'+k,As⟩=AI (AS B_ (eH d s k))):=AF fun s hs=>by
  have hrow:d.nx[s]? =AI (d.nx.getD s []):=by rw[bB,aB (by rw[<-hn];exact hs)];rfl
  obtain⟨b,off,a',c',e1,e2,e3,e4⟩:=h1.elem hrow;rw[rt.len s (by rw[<-hn];exact hs), <-hK]at e3 e4;have hx:(d.nx.getD s [])[k]? =AI ((eH d s k:Nat):Int):=(nP rt (by rw[<-hn];exact hs) (by rw[<-hK];exact hk)).2;obtain⟨b',o',e5,e6,e7⟩:=e4.elem hx;exact⟨b,off,a',c',e1,e2,e3,b',o',e5,e6,e7⟩
 obtain⟨R,hR⟩:=ag (iR (kI (wW d k)));rw[<-hR];have HR:=AF hR;have HN:=AF hn;have HNT:By (∀ s,s<n->eH d s k<n):=AF fun s hs=>by
  rw[hn];exact(nP rt (by rw[<-hn];exact hs) (by rw[<-hK];exact hk)).1
 have ads:db<W.heap.size:=World.block_lt_of_cell? _ _ hd;clear h1 hR hn hK rt;have ed:(k:Int)<K:=by omega
 go_enter Tryz.func174,Tryz.ntmps174
 go_wp2;go_loopw [4,10] (fun ov iv wr=>∃ s:Nat,s<=n/\iv=AS B_ s/\wr.ownsRow W.heap.size 3 1 ov s ((Bm s).map fun i=>cK (eH d i k))/\aa W wr) (fun _ iv _=>n-(intOf iv).toNat);case atStart=>exact⟨0,B' _,rfl,E_ _ _ _ _,Below.refl _ _⟩
 case round=>
  obtain⟨s,hs,rfl,ho,hx⟩:=hrel;obtain⟨wo,rfl⟩:=ag (wr:AN);have HO:=AF ho;have HX:=AF hx;obtain⟨oa,oc,rfl⟩:=ownsRow_form ho;have F8:W.heap.size<=wo.heap.size:=hx.size;clear ho hx;by_cases hlt:s<n
  ·have Gi:(s:Int)<n:=by omega
   obtain⟨b1,o1,ad,cp,rfl,hb1,hc1,b2,o2,rfl,hb2,hc2⟩:=Bl.out s hlt;have tI:∀ b o u,b<W.heap.size->W.cell? ⟨b,o,As⟩=AI u->wo.cell? ⟨b,o,As⟩=AI u:=fun b o u hb h=>((ae.aj HX fun _ h=>h:ae (· <W.heap.size) W wo).cell (p:=⟨b,o,As⟩) hb).trans h
   replace hc1:=tI _ _ _ hb1 hc1;replace hc2:=tI _ _ _ hb2 hc2;have HT:By ((Bm (s+1)).map (fun i=>cK (eH d i k))=((Bm s).map fun i=>cK (eH d i k))++ [AS B_ (eH d s k)]):=AF (by rw[List.range_succ,D0];rfl);obtain⟨t,ht⟩:=ag (eH d s k);rw[<-ht]at hc2 HT;clear tI ht;go_wp2_with (at_builtin;refine Hid.out ?_);refine AF ?_;refine DS _ rfl (.tmp 14) (.tmp 19) 39 rfl W.heap.size 3 iI (AS B_ 0) 1 8 Tryz.underlying39 uD jl jm jn rfl (by decide) (An oa s oc) s _ rfl (HO.alloc _) ⟨wo.heap.size,0,As⟩ 1 1 [AS B_ t] rfl rfl (dO _ _ _) (by simp[I_]) (by unfold maxLen;omega) (by omega) (by simp;omega) ?_;intro v' w5 hown' hgrow hh hat;have Iw:=AF hown';have lB:=AF hgrow;clear hown' hgrow hh hat;go_wp2;go_roundw;case rel=>
    refine⟨s+1,by omega,by go_num,?_,?_⟩
    ·rw[HT.out]
     exact Iw
    ·exact(HX.trans (((Ext.refl wo).alloc _).below.mono F8)).trans (((Below.refl _ _).grown lB (by simp;omega) fun x e=>(HO.lt x e).1))
   case measure=>simp[intOf];omega
  ·obtain rfl:s=n:=by omega
   have Gi:¬ ((s:Int)<s):=by omega
   have HE:By ((Bm s).map (fun i=>cK (eH d i k))=((Bm s).map fun i=>((eH d i k:Nat):Int)).map aG):=AF (by rw[G_];rfl);have rI:bw aG wo (An oa s oc) ((Bm s).map fun i=>((eH d i k:Nat):Int)):=by have h5:=HO.out;rw[HE.out]at h5;exact bU h5 (by simp)
   have CN:=AF (ql _ _ (fun x hx=>by
    obtain⟨i,hi,rfl⟩:=Kx.1 hx;have:=HNT.out i (GO.1 hi)
    omega) (by simp;omega) wo rI)
   have HV:By (iR (kI (((Bm s).map fun i=>((eH d i k:Nat):Int)).map Int.toNat))=R):=AF (by
    rw[HR.out,G_];unfold wW;rw[<-HN.out]
    rfl)
   rw[HV.out]at CN;clear rI;go_wp2_with fail
   refine CN.mono ?_;rintro e w2 ⟨rfl,hx⟩;go_wp2;go_ret;exact⟨rfl,HX.trans (hx.mono F8)⟩
def Nj (d:DF) (k:Nat):List UInt8:=kI (wW d k)
theorem Su {d:DF} (rt:Rt d):dK (Nj d) d.cl.length=cO (cm d) d.cl.length/\∀ k,k<d.cl.length->dC (Nj d) d.cl.length k=cm d k:=by
 have h0:∀ k,k<d.cl.length->∀ x∈wW d k,x<4294967296:=fun k hk x hx=>by
  have hle:=rt.le;unfold wW at hx;obtain⟨s,hs,rfl⟩:=Kx.1 hx;have:=(nP rt (GO.1 hs) hk).1;omega
 obtain⟨h1,h2⟩:=oI (k:=Nj d) (k':=wW d) (n:=d.cl.length) (fun s t hs ht=>⟨fun h=>wQ (h0 s hs) (h0 t ht) h,fun h=>congrArg kI h⟩) _ (aF _);exact⟨h1.trans (Bv (wW d) d.cl.length _ (aF _)).symm,h2⟩
end
end Go.Proofs.YtjgccapbphadjaaGreatDoor
namespace Go.Proofs.YtjgccapbphadjaaGreatDoor.RegF
open Go Go.RowKit
section
variable {P:IT} {ops:Array I'} {eff:Nat→Bool} {ck:Nat→Nat} {M:AN→AN→Prop} {EP:Nat→aU M} {C:AN→Prop} {al:Nat→Bool} {Fin:List I'→Ly→AN→Prop} {eI:Bool} {m:Nat} {E:aU M} {o:I'} {k:Nat} {aR:List (Nat× (AN→Prop))} {a:Ly} {K:List (Nat× (AN→Prop))→Ly→Prop} {l:List I'}
def fJ (P:IT) (ops:Array I') (eff:Nat->Bool) (ck:Nat->Nat) (EP:Nat->aU M) (C:AN->Prop) (al:Nat->Bool) (Fin:List I'->Ly->AN->Prop) (n:Nat) (l:List I') (k:Nat) (aR:List (Nat× (AN->Prop))) (a:Ly):Prop:=
 fI.fJ P (Lo P) gg ops eff ck (fun _=>As) (fun i=>RegQ.up (EP i)) C (fun _ _=>True) al Fin n l k aR a
def cE (P:IT) (ops:Array I') (eI:Bool) (m:Nat) (E:aU M) (C:AN->Prop) (al:Nat->Bool) (o:I') (k:Nat) (aR:List (Nat× (AN->Prop))) (a:Ly) (K:List (Nat× (AN->Prop))->Ly->Prop):Prop:=
 fI.cE P (Lo P) gg ops eI m As (RegQ.up E) C (fun _ _=>True) al o k aR a K
theorem au (h:∀ K:List (Nat× (AN->Prop))->Ly->Prop,(∀ hi a,ee (fJ P ops eff ck EP C al Fin m l (k+1) hi a)->K hi a)->cE P ops (eff k) (ck k) (EP k) C al o k aR a K):ee (fJ P ops eff ck EP C al Fin (m+1) (o::l) k aR a):=
 ⟨(fI.au (D:=(fun _ _=>True)) (al:=al) (on:=(fun _=>As)) fun K hK=>h K fun hi a hl=>hK hi a ⟨hl.out⟩).out⟩
theorem bC (h:∀ W,C W->(∀ x∈aR,x.2 W)->Fin l a W):ee (fJ P ops eff ck EP C al Fin 0 l k aR a):=⟨h⟩
theorem bJ (he:eI=GW) (hw:Region.wanted o (yielded ops a.tmps)=GS) (h:∃ v,(∀ W: {W//C W},az P o a v W.1)/\K aR (a.put o.dst v)):cE P ops eI m E C al o k aR a K:=fI.bJ he hw h
theorem bS (he:eI=GS) (hw:Region.wanted o (yielded ops a.tmps)=GS) (ha:al k=GW) (E':aU M) (hE:E=E') (h1:∀ W,C W->needs m aR W->jB (Lo P) gg (fun v W'=>M W W'/\E'.P v/\E'.H v W') ((execOp a.eval o).run P W)) (h2:∀ v,E'.P v->K ((k,E'.H v)::aR) (a.put o.dst v)):cE P ops eI m E C al o k aR a K:=
 fI.bS he hw (RegQ.up E') (by rw[hE]) (fun W hW _ hN=>nW (fun _ _ ⟨h1,h2⟩=>by rw[ha];exact⟨⟨h1,fun _ _ _ _=>trivial⟩,h2⟩) (h1 W hW hN)) h2
theorem adF (he:eI=GS) (hw:Region.wanted o (yielded ops a.tmps)=GS) (ha:al k=GS) (E':aU M) (hE:E=E') (h1:∀ W,C W->needs m aR W->jB (Lo P) gg (fun v W'=>fI.C0 W v W'/\M W W'/\E'.P v/\E'.H v W') ((execOp a.eval o).run P W)) (h2:∀ v,E'.P v->K ((k,E'.H v)::aR) (a.put o.dst v)):cE P ops eI m E C al o k aR a K:=
 fI.bS he hw (RegQ.up E') (by rw[hE]) (fun W hW _ hN=>nW (fun _ _ ⟨h0,h1,h2⟩=>by rw[ha];exact⟨h0,⟨h1,fun _ _ _ _=>trivial⟩,h2⟩) (h1 W hW hN)) h2
end
theorem uu {P:IT} {id:Nat} {Q:Exit->Ly->AN->Prop} {a:Ly} {w:AN} {l:List I'} (T:Nat->Prop) (hm:P.follows .mixedOrders=GS) (m:Nat) (ck:List Nat) (eff:Nat->Bool) (hB:mN .any l.toArray ck m=GS) (al:List Nat) (hA:fI.Oy l.toArray eff al m=GS) (EP:Nat->aU (Move GW T)) (h:∀ C:AN->Prop,(∀ W,C W↔Move GW T w W)->Nonempty {W//C W} ->ee (fJ P l.toArray eff (fun i=>ck.getD i 0) EP C (fun j=>al.contains j) (fun r a W=>fI.Af l.toArray al a->wpList P l.toArray Q r a W) m l 0 [] a)):(Code.region id l.toArray GS).wp P Q a w:=
 fI.jD (Move GW T) (Move.ext (Ext.refl w).drew) (fun _ _ _ h k=>h.trans k) hm m ck eff hB (fun _=>As) (fun _ _=>rfl) (Is.2 fun _ _=>Is.2 fun _ _=>rfl) (fun i=>RegQ.up (EP i)) (fun _ _=>True) (fun _ _=>trivial) al (fun j=>al.contains j) hA (fun _=>rfl) (fun _ _ _ h=>h.size) _ (fun _ _ _ h1 h2=>h2 h1) fun C hC hne=>⟨(h C hC hne).out⟩
end Go.Proofs.YtjgccapbphadjaaGreatDoor.RegF
namespace Go.Proofs.YtjgccapbphadjaaGreatDoor
section
open Go Go.RowKit
theorem fI.Af.ne {ops:Array I'} {al:List Nat} {a:Ly} (h:fI.Af ops al a) (i j s t:Nat) {x y:AT} (hi:al.contains i=GS) (hj:al.contains j=GS) (mM:i≠j) (hs:dD ops i=AI s) (ht:dD ops j=AI t) (h1:a.tmps[s]? =AI x) (h2:a.tmps[t]? =AI y):fI.KU x≠fI.KU y:=
 h i j s t x y hi hj mM hs ht (Array.getElem?_eq_some_iff.1 h1).1 (Array.getElem?_eq_some_iff.1 h2).1 h1 h2
theorem zR {P:IT} {o:I'} {a:Ly} {W:AN} {post:AT->AN->Prop} (l c:Operand) (t:J') (hop:o.op=Op.makeSlice t l c) (e:J') (i:TypeInfo) (z:AT) (size:Nat) (h1:P.underlying t=AI (.slice e)) (h2:P.info? e=AI i) (h3:i.zero=AI z) (h4:i.size=size) (kl kc:IntKind) (L C:Int) (n:Nat) (hl:a.eval l=.int kl L) (hc:a.eval c=.int kc C) (hL:L=(n:Int)) (hC:C=(n:Int)) (b2:i.bytes*n<=281474976710656) (b3:n<=maxLen) (hK:∀ w',w'.ownsRow W.heap.size e size (An (AI ⟨W.heap.size,0,As⟩) n n) n (madeCells z.cells (n*size)).toList->W.grownBy w' As->post (An (AI ⟨W.heap.size,0,As⟩) n n) w'):jB (Lo P) gg post ((execOp a.eval o).run P W):=by obtain⟨w',hrun,r1,r2⟩:=run_make_full (P:=P) W W.heap.size t e i z size h1 h2 h3 h4 kl kc n b2 b3 (aF _);subst hL;subst hC;unfold execOp;simp[hop,hl,hc,hrun,Result.andThen];exact hK w' r1 r2
end
section
open Go Go.RowKit Go.Shelf Go.Maps
attribute [local go_sem] encS
theorem zS (q:BS):∀ (l:List BS) (b:Nat),b<l.length->((((aL l).set (b*4) (AS DQ (wd q 0).toNat)).set (b*4+1) (AS DQ (wd q 1).toNat)).set (b*4+2) (AS DQ (wd q 2).toNat)).set (b*4+3) (AS DQ (wd q 3).toNat)=aL (l.set b q)
 | [],b,h=>absurd h (FG b)
 | a::l,0,_=>rfl
 | a::l,b+1,h=>by
  have ih:=zS q l b (by simpa using h);have e:∀ (X:List AT) (j:Nat) (v:AT),((encS a).toList++X).set (j+4) v=(encS a).toList++X.set j v:=fun X j v=>rfl
  show(((((encS a).toList++aL l).set ((b+1)*4) _).set ((b+1)*4+1) _).set ((b+1)*4+2) _).set ((b+1)*4+3) _=(encS a).toList++aL (l.set b q);rw[show(b+1)*4=b*4+4 by omega,show b*4+4+1=b*4+1+4 by omega,show b*4+4+2=b*4+2+4 by omega,show b*4+4+3=b*4+3+4 by omega,e,e,e,e,ih]
theorem dr.store {W:AN} {base b2 n m c g s:Nat} {us ws:List AT} {ll:List (List Int)} (h:dr W base n us ll) (hr:W.ownsRow b2 39 1 (An (AI ⟨g,0,As⟩) m c) m ws) (v:AT):dr (W.setCell ⟨g,s,As⟩ v) base n us ll:=by
 refine⟨h.l1,h.l2,fun i u l hu hl=>?_,h.far⟩;have ho:=h.rows i u l hu hl;refine ak ho ((ae.refl (· ≠g) W).setCell (p:=⟨g,s,As⟩) (fun h=>h rfl) _) fun x hx e=>?_
 rcases ownBlock_ne (by decide) ho hr with h5 | h5
 ·rw[h5]at hx;cases hx
 ·exact h5 (by rw[hx,e];rfl)
def xi (lo:Nat) (v:AT) (n:Nat) (xs:List AT) (x:AT):gW.App:=⟨3,1,v,n,xs,1,lo,fun ns _=>ns=[x],fun _ _ _ _ h=>h⟩
theorem BJ (base:Nat) (v:AT) (d:DF) (rt:Rt d) (w:AN) (hd:aM base w v d) (rq:base<=w.heap.size): ah 116 #[v] w fun e w'=>∃ u,e=C' u/\aM base w' u (lZ d)/\aa w w':=by
 have oL:By (∀ u0 u1 u2,v=D' #[u0,u1,u2]->aS base w u2 d.mr):=AF fun u0 u1 u2 e=>by
  obtain⟨v0,v1,v2,e',h0,h1,h2⟩:=hd;rw[e']at e;cases e;exact h2
 have h:=hd.df;clear hd;obtain⟨iI,uD,jl,jm,jn⟩:=DH Tryz.ki;obtain⟨iL,uC,j6,j7,j8⟩:=DH Tryz.pd;obtain⟨iS,hiS,Mg,Mh,Mi⟩:=DH Tryz.yM;have eg1:∀ (args:Array AT) (w:AN),(callFunc 174 args).run Tryz.prog w=.ok (.enter 174 args) w:=fun args w=>rfl
 obtain⟨v0,v1,v2,rfl,h0,h1,h2⟩:=h;obtain⟨a0,c0,rfl⟩:=h0.1.form;obtain⟨a1,c1,rfl⟩:=h1.form;obtain⟨a2,c2,rfl⟩:=h2.form;clear h2;have rO:=rt.mr;obtain⟨n,hn⟩:=ag d.nx.length;obtain⟨K,hK⟩:=ag d.cl.length;obtain⟨N,hN⟩:=ag (cO (cm d) d.cl.length);have QS:n<=4000:=by have:=rt.le;omega
 have cM:1<=n:=by have:=rt.pos;omega
 have hK2:K<=256:=by have:=rt.Av;omega
 have hNK:N<=K:=by rw[hN,hK];exact Bw (oH d)
 have h2:=oL.out _ _ _ rfl;rw[rO, <-hn]at h2 ⊢;rw[<-hn]at h1;rw[<-hK]at h0 ⊢;have CP:By (∀ W (db:Nat),aa w W->ar W db #[An a0 K c0,An a1 n c1,An a2 n c2] 29->ah 137 #[AS B_ K,.func (.func 174) #[] #[J_ (AI ⟨db,0,As⟩)]] W fun e w'=>∃ u,e=C' (K_ #[u,AS B_ N])/\w'.ownsRow W.heap.size 3 1 u K ((Bm K).map fun k=>cK (cm d k))/\aa W w'):=AF fun W db hW hB=>by
  obtain⟨k1,k2⟩:=Su rt;rw[<-hK]at k1 k2;rw[<-hK]at hN;refine(qm 174 #[J_ (AI ⟨db,0,As⟩)] (Nj d) K (by omega) W (fun s hs=>?_) eg1 (fun s W2 hs hW2=>?_)).mono ?_
  ·unfold Nj
   rw[wP];unfold wW;rw[aP,A', <-hn];omega
  ·exact Fp s db d rt (by rw[<-hK];exact hs) (An a1 n c1) W2 ((hB.below hW2 hB.lt).cell 1) ((h1.below hW).below hW2)
  ·rintro e w' ⟨u,rfl,h5,h6⟩
   refine⟨u,by rw[k1, <-hN],?_,h6⟩;have e:(Bm K).map (fun s=>cK (dC (Nj d) K s))=(Bm K).map fun k=>cK (cm d k):=List.map_congr_left fun s hs=>by rw[k2 s (GO.1 hs)]
   rw[<-e];exact h5
 have HCL:By (∀ k,k<K->∃ (b off:Nat),a0=AI ⟨b,off,As⟩/\b<w.heap.size/\w.cell? ⟨b,off+k*4,As⟩=AI (AS DQ (wd (d.cl.getD k 0) 0).toNat)/\w.cell? ⟨b,off+k*4+1,As⟩=AI (AS DQ (wd (d.cl.getD k 0) 1).toNat)/\w.cell? ⟨b,off+k*4+2,As⟩=AI (AS DQ (wd (d.cl.getD k 0) 2).toNat)/\w.cell? ⟨b,off+k*4+3,As⟩=AI (AS DQ (wd (d.cl.getD k 0) 3).toNat)):=AF fun k hk=>by
  obtain⟨b,off,e1,e2,e3⟩:=h0.1.elem (i:=k) (s:=d.cl.getD k 0) (by rw[bB,aB (by rw[<-hK];exact hk)];rfl);exact⟨b,off,e1,e2,e3⟩
 have Bl:By (∀ s,s<n->∃ (b:Nat) (off:Nat) (ad:Option Lw) (cp:Nat),a1=AI ⟨b,off,As⟩/\b<w.heap.size/\w.cell? ⟨b,off+s,As⟩=AI (An ad K cp)/\bw aG w (An ad K cp) (d.nx.getD s [])):=AF fun s hs=>by
  have hrow:d.nx[s]? =AI (d.nx.getD s []):=by rw[bB,aB (by rw[<-hn];exact hs)];rfl
  obtain⟨b,off,a',c',e1,e2,e3,e4⟩:=h1.elem hrow;rw[rt.len s (by rw[<-hn];exact hs), <-hK]at e3 e4;exact⟨b,off,a',c',e1,e2,e3,e4⟩
 have H2:=AF h2;have HN:=AF hn;have HK:=AF hK;have oO:=AF hN;have RT:=AF rt;clear h0 h1 h2 hn hK hN rO rt eg1 oL;go_enter Tryz.func116,Tryz.ntmps116;go_wp2_with fail
 refine aK ?_;intro V hV;have B1:By (ar V w.heap.size #[An a0 K c0,An a1 n c1,An a2 n c2] 29):=AF (by rw[hV];exact(ar.new w _ _).alloc _);have R1:By (ar V (w.heap.size+1) #[An As 0 0,An As 0 0,An As 0 0] 29):=AF (by rw[hV];exact(ar.new (w.alloc _) _ _).at (by simp));have X1:By (aa w V):=AF (by rw[hV];exact(((Ext.refl w).alloc _).alloc _).below);clear hV;have hsV:w.heap.size+1<V.heap.size:=R1.lt;refine(CP V w.heap.size X1 B1).mono ?_;rintro e w5 ⟨u,rfl,ho,hx⟩;obtain⟨pa,pc,rfl⟩:=ownsRow_form ho;have P5:=AF ho;have B5:=AF (B1.below hx B1.lt);have R5:=AF (R1.below hx R1.lt);have X5:=AF (X1.trans (hx.mono X1.size));have hs5:V.heap.size<=w5.heap.size:=hx.size;clear ho hx B1 R1 X1 CP;obtain⟨b0,b1,b2⟩:=aM.fj B5;go_upto_region 3 with fail
 refine aI GW (fun _=>False) (by kernel_rfl) 10 [0,1,0,4,12,28,0,64,255,0,1023] (fun i=>i==1 || i==5 || i==9 || i==10) (by kernel_rfl) (fun i=>if i=1 then aU.row w5.heap.size 56 4 N (aL (Bs N 0))else if i=5 then aU.row w5.heap.size 39 1 n (Bs n (An As 0 0))else if i=9 then aU.ue w5.heap.size #[An As 0 0,An As 0 0,An As 0 0] 29 else aU.any _) ?_;intro C hC hne;have HC:=AF hC;have f1:=aD hC (p:=⟨w.heap.size,1,As⟩) B5.lt (fun h=>h) b1;have f2:=aD hC (p:=⟨w.heap.size,2,As⟩) B5.lt (fun h=>h) b2;clear hC b0 b1 b2
 repeat (refine au (fun K hK=>?_);first | (refine bL rfl ?_;try go_simp;refine hK _ _ ?_;clear hK K) | (refine bJ rfl rfl ?_;unfold az;go_simp;refine hK _ _ ?_;clear hK K))
 refine au (fun K0 hK=>?_);refine bS rfl rfl (aU.row w5.heap.size 56 4 N (aL (Bs N 0))) rfl (fun W hW hN=>?_) (fun v hv=>?_)
 ·have hM:=(HC.out W).1 hW
  clear hW hN hK K0;refine zR (.tmp 20) (.tmp 20) 26 rfl 56 iS (D' #[AS DQ 0,AS DQ 0,AS DQ 0,AS DQ 0]) 4 Tryz.underlying26 hiS Mg Mh B_ B_ _ _ N rfl rfl rfl rfl (by rw[Mi];omega) (by unfold maxLen;omega) (fun w' hr hg=>?_);rw[G8]at hr;exact⟨Move.aj (ae.aZ hg fun x hx=>⟨hx,fun e=>by cases e⟩:ae (· <W.heap.size) W w').below,⟨_,_,rfl⟩,aC hr hM.size⟩
 obtain⟨x0,y0,rfl⟩:=hv;go_simp;refine hK _ _ ?_;clear hK K0
 repeat (refine au (fun K hK=>?_);first | (refine bL rfl ?_;try go_simp;refine hK _ _ ?_;clear hK K) | (refine bJ rfl rfl ?_;unfold az;go_simp;refine hK _ _ ?_;clear hK K))
 refine au (fun K0 hK=>?_);refine bS rfl rfl (aU.row w5.heap.size 39 1 n (Bs n (An As 0 0))) rfl (fun W hW hN=>?_) (fun v hv=>?_)
 ·have hM:=(HC.out W).1 hW
  clear hW hN hK K0;refine zR (.tmp 24) (.tmp 24) 27 rfl 39 iL (An As 0 0) 1 Tryz.underlying27 uC j6 j7 B_ B_ _ _ n rfl rfl rfl rfl (by rw[j8];omega) (by unfold maxLen;omega) (fun w' hr hg=>?_);rw[G7]at hr;exact⟨Move.aj (ae.aZ hg fun x hx=>⟨hx,fun e=>by cases e⟩:ae (· <W.heap.size) W w').below,⟨_,_,rfl⟩,aC hr hM.size⟩
 obtain⟨x1,y1,rfl⟩:=hv;go_simp;refine hK _ _ ?_;clear hK K0
 repeat (refine au (fun K hK=>?_);first | (refine bL rfl ?_;try go_simp;refine hK _ _ ?_;clear hK K) | (refine bJ rfl rfl ?_;unfold az;go_simp;refine hK _ _ ?_;clear hK K))
 refine au (fun K0 hK=>?_);refine bS rfl rfl (aU.ue w5.heap.size #[An As 0 0,An As 0 0,An As 0 0] 29) rfl (fun W hW hN=>?_) (fun v hv=>?_)
 ·have hM:=(HC.out W).1 hW
  have nI:=hM.size;clear hW hN hK K0;go_simp;exact⟨Move.aj ((Ext.refl _).alloc _).below,⟨_,rfl⟩,fun b hb=>by cases hb;exact⟨ar.new _ _ _,nI⟩⟩
 obtain⟨bx,rfl⟩:=hv;go_simp;refine hK _ _ ?_;clear hK K0;refine bC (fun W hW hH=>?_);have hM:=(HC.out W).1 hW;have hb8:(aU.ue w5.heap.size #[An As 0 0,An As 0 0,An As 0 0] 29).H (J_ (AI ⟨bx,0,As⟩)) W:=hH _ (ax (show _=AI _ from rfl:_[0]? =AI _));have LN:By (W.ownsRow w5.heap.size 39 1 (An x1 n y1) n (Bs n (An As 0 0))):=AF (hH _ (ax (show _=AI _ from rfl:_[1]? =AI _)));have LC:By (W.ownsRow w5.heap.size 56 4 (An x0 N y0) N (aL (Bs N 0))):=AF (hH _ (ax (show _=AI _ from rfl:_[2]? =AI _)));have BX:=AF (hb8 bx rfl);have XW:=AF hM.below;have UC:w5.heap.size<=W.heap.size:=hM.size;clear hM hW hH HC hne f1 f2 hb8;obtain⟨⟨q0,q1,q2⟩,z0,z1,z2⟩:=BX.1.three;go_upto_region 4 with fail
 refine aw ?_;intro W2 hV;have KV:By (ae (· ≠bx) W W2):=AF (by rw[hV];exact cY _ _ _ _ _);have BO:By (ar W2 bx #[An x0 N y0,An x1 n y1,An a2 n c2] 29):=AF (by rw[hV];exact((BX.1.set 0 _).set 1 _).set 2 _);clear hV q0 q1 q2 z0 z1 z2;have yL:w5.heap.size<=bx:=BX.2;have LN2:=AF (ak LN KV fun x e=>bZ BX.1 LN (by decide) x e);have LC2:=AF (ak LC KV fun x e=>bZ BX.1 LC (by decide) x e);have KW:By (ae (· <w5.heap.size) w5 W2):=AF ((ae.aj XW fun _ h=>h:ae (· <w5.heap.size) w5 W).tr (KV.mono fun x (hx:x<w5.heap.size)=>by show x≠bx;omega));clear KV BX LN LC XW;obtain⟨g5,N7⟩:=ag w5.heap.size;have P2:=AF (ak P5 KW fun x e=>(P5.lt x e).2);have ZY:∀ x,(An pa K pc).ownBlock=AI x->x<w5.heap.size:=fun x e=>(P5.lt x e).2
 have B2:=AF (B5.keeps KW B5.lt);have R2:=AF (R5.keeps KW R5.lt);have X2:By (aa w W2):=AF (X5.trans (KW.mono fun x (hx:x<w.heap.size)=>by show x<w5.heap.size;omega:ae (· <w.heap.size) w5 W2).below);have YR:w.heap.size+1<w5.heap.size:=by omega
 have aio:w5.heap.size<=W2.heap.size:=KW.size;rw[<-N7]at LN2 LC2 yL ZY YR aio;clear N7 KW P5 B5 R5 X5 UC;have aip:=AF ZY;clear ZY;go_wp2_with fail
 go_loopw [31] (fun kv wr=>∃ (k:Nat) (us:List AT),k<=K/\kv=AS B_ k/\ar wr bx #[An x0 N y0,An x1 n y1,An a2 n c2] 29/\wr.ownsRow g5 56 4 (An x0 N y0) N (aL (kK d N k))/\wr.ownsRow g5 39 1 (An x1 n y1) n us/\dr wr g5 n us (jX d k)/\ae (· <g5) W2 wr) (fun kv _=>K-(intOf kv).toNat)
 case atStart=>exact⟨0,_,B' _,rfl,BO,by rw[Ni];exact LC2,LN2,by rw[I6, <-HN.out];exact dr.start _ _ _,ae.refl _ _⟩
 case round=>
  obtain⟨k,us,hk,rfl,hb,hc,hr,tJ,hx⟩:=hrel;obtain⟨wo,rfl⟩:=ag (wr:AN);have HB:=AF hb;have HC:=AF hc;have HR:=AF hr;have Wv:=AF tJ;have HX:=AF hx;clear hb hc hr tJ hx;by_cases hlt:k<K
  ·have ed:(k:Int)<K:=by omega
   have WU:k<d.cl.length:=by rw[<-HK.out];exact hlt
   obtain⟨b,hbe⟩:=ag (cm d k);have hbN:b<N:=by rw[hbe,oO.out];exact jw WU
   have TN:(b:Int)<N:=by omega
   obtain⟨o,hoe⟩:=ag (sO d.cl (cm d) b k);have PO:=ak P2 HX fun x e=>aip x e
   obtain⟨pg,pu,rfl,_,_,hpu,Km,_⟩:=eE PO hlt;rw[aN,A_ hlt]at hpu;cases hpu;replace Km:wo.cell? ⟨pg,k,As⟩=AI (AS B_ (cm d k:Nat)):=Km;rw[<-hbe]at Km
   have Iq:By (o=0↔ ¬cm d k<(cS (cm d) k).length):=AF (by
    rw[hoe,Fo (by omega) RT.part.ne,Vt (oH d) WU,hbe]
    exact⟨fun h ⟨j,h1,h2⟩=>h j h1 h2,fun h j h1 h2=>h ⟨j,h1,h2⟩⟩)
   have BK:=AF (B2.keeps HX (by show w.heap.size<g5;omega));have XK:By (aa w wo):=AF (X2.trans (HX.mono fun x (hx:x<w.heap.size)=>by show x<g5;omega:ae (· <w.heap.size) W2 wo).below);obtain⟨gc,rfl,NN⟩:∃ gc,x0=AI ⟨gc,0,As⟩/\g5<=gc:=by
    rcases HC.2 with⟨h5,h6⟩ | ⟨g,c,cur,h5,h6,_⟩
    ·cases h5;omega
    ·cases h5;exact⟨g,rfl,h6⟩
   obtain⟨gc',oc,e1,_,c0,c1,Ty,c3⟩:=(fD (l:=kK d N k) (by unfold kK;rw[aP,A'];exact HC)).1.elem (xh d hbN);cases e1;rw[<-hoe]at c0 c1 Ty c3;simp only[H']at c0 c1 Ty c3;have HBE:=AF hbe;have HOE:=AF hoe;clear PO hbe hoe;obtain⟨k0,k1,k2⟩:=aM.fj HB;obtain⟨m0,m1,m2⟩:=aM.fj BK;have heq:∀ W,(Op.equalIn 10000 56 (D' #[AS DQ (wd o 0).toNat,AS DQ (wd o 1).toNat,AS DQ (wd o 2).toNat,AS DQ (wd o 3).toNat]) (D' #[AS DQ 0,AS DQ 0,AS DQ 0,AS DQ 0])).run Tryz.prog W=(.ok (o==0) W):=fun W=>ie o 0 W
   obtain⟨q,hq⟩:=ag ((o==0));have HQ:=AF hq;rw[<-hq]at heq;clear hq
   go_upto_if 42 with fail
   go_cut [46] from 42 to 66 (fun _ wx=>∃ Vq,ar wx bx #[An (AI ⟨gc,0,As⟩) N y0,An x1 n y1,An a2 n c2] 29/\wx.ownsRow g5 56 4 (An (AI ⟨gc,0,As⟩) N y0) N (aL (kK d N k))/\wx.ownsRow g5 39 1 (An x1 n y1) n Vq/\dr wx g5 n Vq (jX d (k+1))/\ae (· <g5) wo wx)
   case first=>
    cases q with
    | false=>
     have hold:By (cm d k<(cS (cm d) k).length):=AF (Classical.byContradiction fun h=>by
      have h1:=Iq.2 h;have h2:=HQ.out;rw[h1]at h2
      cases h2)
     go_wp2_with fail
     go_meet
     exact⟨us,HB,HC,HR,by rw[Ng hold.out];exact Wv,ae.refl _ _⟩
    | true=>
     have hnw:By (¬cm d k<(cS (cm d) k).length):=AF (Iq.1 (beq_iff_eq.1 HQ.symm));go_wp2_with fail
     go_loopw [46] (fun sv wr=>∃ (s:Nat) (Vq:List AT),s<=n/\sv=AS B_ s/\ar wr bx #[An (AI ⟨gc,0,As⟩) N y0,An x1 n y1,An a2 n c2] 29/\wr.ownsRow g5 56 4 (An (AI ⟨gc,0,As⟩) N y0) N (aL (kK d N k))/\wr.ownsRow g5 39 1 (An x1 n y1) n Vq/\dr wr g5 n Vq (mA d k s)/\ae (· <g5) wo wr) (fun sv _=>n-(intOf sv).toNat)
     case atStart=>exact⟨0,us,B' _,rfl,HB,HC,HR,by rw[I5];exact Wv,ae.refl _ _⟩
     case round=>
      obtain⟨s,us1,hs,rfl,hb,hc,hr,tJ,hx⟩:=hrel;obtain⟨wi,rfl⟩:=ag (wr:AN);have IB:=AF hb;have IC:=AF hc;have IR:=AF hr;have IRS:=AF tJ;have IX:=AF hx;clear hb hc hr tJ hx;by_cases kX:s<n
      ·have Gi:(s:Int)<n:=by omega
       obtain⟨xg,xu,rfl,Ez,hxg,hxu,Te,hxf⟩:=eE IR kX;have hsN:s<d.nx.length:=by rw[<-HN.out];exact kX
       have hrow:=Nf d k hsN;obtain⟨l,hle⟩:=ag ((cS (cm d) k).map fun j=>(d.nx.getD s []).getD j 0);rw[<-hle]at hrow;have hur:=IRS.rows s xu l hxu hrow;obtain⟨m,hme⟩:=ag l.length;have lq:m<=k:=by rw[hme,hle,aP];exact Sq _ _
       rw[<-hme]at hur;obtain⟨ua,uc,rfl⟩:=ownsRow_form hur;obtain⟨b1,Nb,ad1,cp1,rfl,hb1,hc1,hsl1⟩:=Bl.out s kX;have XI:By (aa w wi):=AF (XK.trans (IX.mono fun x (hx:x<w.heap.size)=>by show x<g5;omega:ae (· <w.heap.size) wo wi).below);have tI:∀ b o u,b<w.heap.size->w.cell? ⟨b,o,As⟩=AI u->wi.cell? ⟨b,o,As⟩=AI u:=fun b o u hb h=>((ae.aj XI fun _ h=>h:ae (· <w.heap.size) w wi).cell (p:=⟨b,o,As⟩) hb).trans h
       obtain⟨ait,ZZ⟩:=nP RT hsN WU;obtain⟨b2,fL,rfl,hb2,hc2⟩:=hsl1.elem ZZ;replace hc1:=tI _ _ _ hb1 hc1;replace hc2:wi.cell? ⟨b2,fL+k,As⟩=AI (AS B_ (eH d s k:Nat)):=tI _ _ _ hb2 hc2;obtain⟨x,hxe⟩:=ag (eH d s k);rw[<-hxe]at hc2;have HX9:By ((d.nx.getD s []).getD k 0=((x:Nat):Int)):=AF (by rw[bB,ZZ,hxe];rfl);have HLE:=AF hle;have HME:=AF hme;have HUR:=AF hur;have HXU:=AF hxu;have gQ:=AF hrow;have hgi:g5<=wi.heap.size:=by have:=IX.size;have:=HX.size;omega
       have Z0:∀ z,(An ua m uc).ownBlock=AI z->g5<=z/\z<wi.heap.size:=fun z e=>HUR.lt z e
       have IBK:=AF (BK.keeps IX (by show w.heap.size<g5;omega));obtain⟨i0,i1,i2⟩:=aM.fj IB;obtain⟨j0,j1,j2⟩:=aM.fj IBK;clear hle hme hur hxu hrow ZZ ait hsl1 tI hxe;go_upto_region 11 with fail
       obtain⟨PL,uF⟩:=ag ([xi wi.heap.size (An ua m uc) m (l.map aG) (AS B_ x)]:List gW.App);have oP:PL[0]? =AI (xi wi.heap.size (An ua m uc) m (l.map aG) (AS B_ x)):=by rw[uF];rfl
       have hall:∀ q∈PL,q=xi wi.heap.size (An ua m uc) m (l.map aG) (AS B_ x):=fun q hq=>by rw[uF]at hq;simpa using hq
       have BH:By (gW.kj wi PL):=AF ⟨fun q hq=>by rw[hall q hq];exact aF _,fun q hq x e=>by
        rw[hall q hq]at e;exact(Z0 x e).2,fun i j q q' hi hj mM=>by
        have hl:PL.length=1:=by rw[uF];rfl
        have h1:=(AM.1 hi).1;have h2:=(AM.1 hj).1
        omega⟩
       have uY:∀ z,¬ (An ua m uc).ownBlock=AI z->¬ ∃ q∈PL,q.v.ownBlock=AI z:=fun z hz ⟨q,hq,e⟩=>by
        rw[hall q hq]at e;exact hz e
       have Pb:=AF uY;clear uF hall uY;refine RegG.br (gW.bR g5 wi PL) (gW.bR.drew) (fun _ _ _ h k=>h.trans k) (by kernel_rfl) 14 [0,1,0,0,8,0,56,120,0,0,768,1792,3840,8184,16383,32767] (fun i=>i==12 || i==13) (by kernel_rfl) (fun _=>As) (fun j hj=>(by first | rfl | (have kN:16<=j:=hj;first | exact if_neg (by omega) | (split<;>first | omega | rfl)))) (by kernel_rfl) (fun i=>if i=12 then gW.gT.vo g5 wi PL 1 #[AS B_ x] 3 else if i=13 then gW.gT.app g5 wi PL (xi wi.heap.size (An ua m uc) m (l.map aG) (AS B_ x)) (ax oP)else RegG.aU.any _) ?_;intro C hC hne;have HC:=AF hC;have kB:∀ {z:Nat},z<wi.heap.size->¬ (An ua m uc).ownBlock=AI z->∀ W: {W//C W},W.1.heap[z]? =wi.heap[z]? :=fun {z} h1 h2 W=>((hC W.1).1 W.2).keeps.keep z ⟨h1,Pb z h2⟩
       have nbx:¬ (An ua m uc).ownBlock=AI bx:=fun e=>bZ IB HUR (by decide) bx e rfl
       have ngx:¬ (An ua m uc).ownBlock=AI xg:=fun e=>by
        rcases ownBlock_ne (by decide) HUR IR.out with h5 | h5
        ·rw[h5]at e;cases e
        ·exact h5 (e.trans rfl)
       have o1:∀ W: {W//C W},W.1.cell? ⟨bx,1,As⟩=AI (An (AI ⟨xg,0,As⟩) n y1):=fun W=>(IB.same (kB IB.lt nbx W)).cell 1
       have o2:∀ W: {W//C W},W.1.cell? ⟨xg,s,As⟩=AI (An ua m uc):=fun W=>by
        have e:W.1.cell? ⟨xg,s,As⟩=wi.cell? ⟨xg,s,As⟩:=by unfold It;rw[kB hxg ngx W]
        exact e.trans Te
       have o3:∀ W: {W//C W},W.1.cell? ⟨b2,fL+k,As⟩=AI (AS B_ x):=fun W=>by
        have e:W.1.cell? ⟨b2,fL+k,As⟩=wi.cell? ⟨b2,fL+k,As⟩:=by unfold It;rw[kB (z:=b2) (by have:=XI.size;omega) (fun e=>by have:=(Z0 b2 e).1;omega) W]
        exact e.trans hc2
       clear hC kB
       repeat (refine RegG.au (fun K hK=>?_);first | (refine RegG.bL rfl ?_;try go_simp;refine hK _ _ ?_;clear hK K) | (refine RegG.bJ rfl rfl ?_;unfold az;go_simp;refine hK _ _ ?_;clear hK K))
       refine RegG.au (fun K hK=>?_);refine RegG.bS rfl rfl (gW.gT.vo g5 wi PL 1 #[AS B_ x] 3) rfl (fun W hW hN=>?_) (fun v hv=>?_)
       ·have hM:=(HC.out W).1 hW
        clear hW hK K
        (go_simp;exact⟨.below ((Ext.refl _).alloc _).below,⟨_,rfl⟩,fun b hb=>by cases hb;exact⟨ar.new _ _ _,BH.fresh hM.size⟩⟩)
       obtain⟨x3,rfl⟩:=hv;go_simp;refine hK _ _ ?_;clear hK K;refine RegG.au (fun K hK=>?_);refine RegG.bS rfl rfl (gW.gT.app g5 wi PL (xi wi.heap.size (An ua m uc) m (l.map aG) (AS B_ x)) (ax oP)) rfl (fun W hW hN=>?_) (fun v hv=>?_)
       ·have hM:=(HC.out W).1 hW
        clear hW hK K;refine gW.dE (w0:=wi) (PL:=PL) (p:=xi wi.heap.size (An ua m uc) m (l.map aG) (AS B_ x)) (.tmp 58) (.tmp 63) 39 rfl iI (AS B_ 0) 8 Tryz.underlying39 uD jl jm jn rfl (show(0:Nat)<1 from by decide) BH oP rfl (hM.old _ (ax oP) HUR) ⟨x3,0,As⟩ 1 rfl [AS B_ x] rfl rfl (cC (hN.at 0 rfl (by kernel_rfl) x3 rfl).1) (by intro u hu;simp at hu;rw[hu];rfl) (by show m+1<=maxLen;unfold maxLen;omega) (by show(m+1)*8<=_;omega) (G' hgi hM.size) (show(0:Nat)<1 from by decide) hM.size (fun v W2 g1 g2 g3 _=>⟨g1,g2,g3⟩)
       obtain⟨xe,xf,hv2⟩:=hv;replace hv2:v=An xe (m+1) xf:=hv2;subst hv2;go_simp;refine hK _ _ ?_;clear hK K;refine RegG.bC (fun W7 hW hH=>?_);have hM:=(HC.out W7).1 hW;have Q0:By (gW.After g5 wi (xi wi.heap.size (An ua m uc) m (l.map aG) (AS B_ x)) W7 (An xe (m+1) xf)):=AF (hH _ (ax (show _=AI _ from rfl:_[0]? =AI _)));have K7:By (ae (fun z=>z<wi.heap.size/\(An ua m uc).ownBlock≠AI z) wi W7):=AF (hM.keeps.mono fun z hz=>⟨hz.1,Pb z hz.2⟩);clear hM hW hH hne o1 o2 o3 BH Pb oP Te hc1 hc2 i0 i1 i2 j0 j1 j2;have IB7:=AF (IB.keeps K7 ⟨IB.lt,nbx⟩)
       have IR7:=AF (ak IR K7 fun z e=>⟨(IR.lt z e).2,fun e2=>by
        have e3:xg=z:=by simpa[Value.ownBlock]using e
        exact ngx (e3▸e2)⟩)
       have IC7:=AF (ak IC K7 fun z e=>⟨(IC.lt z e).2,fun e2=>by
        rcases ownBlock_ne (by decide) HUR IC.out with h5 | h5
        ·rw[h5]at e2;cases e2
        ·exact h5 (e2.trans e.symm)⟩)
       have RS7:By (dr W7 g5 n (us1.set s (An xe (m+1) xf)) (mA d k (s+1))):=AF (by
        obtain⟨⟨ns,h5,h6⟩,h7⟩:=Q0.out;have h6:ns=[AS B_ x]:=h6;subst h6;rw[<-Nd d k hsN, <-HLE.out,HX9.out];refine IRS.more HXU gQ K7 ?_ h7;have e:(l++ [((x:Nat):Int)]).map aG=l.map aG++ [AS B_ x]:=by rw[D0];rfl
        rw[e,aJ, <-HME.out]
        exact h5)
       have IX7:By (ae (· <g5) wo W7):=AF (IX.tr (K7.mono fun z (hz:z<g5)=>⟨by omega,fun e=>by have:=(Z0 z e).1;omega⟩));obtain⟨sg,su,se,_,hsg,hsu,hsc,hsf⟩:=eE IR7 kX;cases se;clear Q0 K7;go_wp2;go_roundw;case rel=>
        have kg:ae (· ≠xg) W7 (W7.setCell ⟨xg,s,As⟩ (An xe (m+1) xf)):=(ae.refl _ _).setCell (p:=⟨xg,s,As⟩) (fun h=>h rfl) _;refine⟨s+1,us1.set s (An xe (m+1) xf),by omega,by go_num,IB7.keeps kg (fun e=>bZ IB7 IR7 (by decide) xg rfl e.symm),ak IC7 kg fun z e e2=>?_,(IR7.stored s _).1,RS7.store IR7 _,IX7.tr (kg.mono fun z (hz:z<g5)=>by show z≠xg;omega)⟩;rcases ownBlock_ne (by decide) IC7 IR7.out with h5 | h5
        ·rw[h5]at e;cases e
        ·exact h5 (e.trans (by rw[e2];rfl))
       case measure=>simp[intOf];omega
      ·obtain rfl:s=n:=by omega
       have Gi:¬ ((s:Int)<s):=by omega
       go_wp2_with fail
       go_meet
       refine⟨us1,IB,IC,IR,?_,IX⟩;have h5:=IRS.out;rw[show mA d k s=jX d (k+1) by rw[HN.out];exact Nc hnw.out]at h5;exact h5
   case rest=>
   obtain⟨us2,jb,jc,jr,jrs,jx⟩:=hcut;obtain⟨W3,rfl⟩:=ag (wc:AN);have JB:=AF jb;have JC:=AF jc;have JR:=AF jr;have JRS:=AF jrs;have JX:=AF jx;clear jb jc jr jrs jx c0 c1 Ty c3 k0 k1 k2 m0 m1 m2 Km heq HQ Iq;have JK:=AF (BK.keeps JX (by show w.heap.size<g5;omega));obtain⟨sb,sof,e5,mi,d0,d1,d2,d3⟩:=HCL.out k hlt;cases e5;have JW:By (aa w W3):=AF (XK.trans (JX.mono fun x (hx:x<w.heap.size)=>by show x<g5;omega:ae (· <w.heap.size) wo W3).below);have tI:∀ b o u,b<w.heap.size->w.cell? ⟨b,o,As⟩=AI u->W3.cell? ⟨b,o,As⟩=AI u:=fun b o u hb h=>((ae.aj JW fun _ h=>h:ae (· <w.heap.size) w W3).cell (p:=⟨b,o,As⟩) hb).trans h
   have Vu:sb<W3.heap.size:=by have:=JW.size;omega
   replace d0:=tI _ _ _ mi d0;replace d1:=tI _ _ _ mi d1;replace d2:=tI _ _ _ mi d2;replace d3:=tI _ _ _ mi d3;obtain⟨gc2,oc2,e6,xJ,c0,c1,Ty,c3⟩:=(fD (l:=kK d N k) (by unfold kK;rw[aP,A'];exact JC)).1.elem (xh d hbN);cases e6;rw[<-HOE.out]at c0 c1 Ty c3;simp only[H']at c0 c1 Ty c3;obtain⟨t,hte⟩:=ag (d.cl.getD k 0);rw[<-hte]at d0 d1 d2 d3;have HTE:=AF hte;have CO:By (∀ W,ah 76 #[D' (encS o),D' (encS t)] W fun e w'=>e=C' (D' (encS (o ||| t)))/\Ext W w'):=AF fun W=>OQ o t W
   obtain⟨k0,k1,k2⟩:=aM.fj JB;obtain⟨m0,m1,m2⟩:=aM.fj JK;clear tI hte;go_upto_region 13 with fail
   refine aI GW (fun _=>False) (by kernel_rfl) 14 [0,1,0,0,8,0,56,120,0,256,0,1792,3840,8184,16383,32767] (fun i=>i==13) (by kernel_rfl) (fun i=>if i=13 then aU.Cm _ (D' (encS (o ||| t)))else aU.any _) ?_;intro C hC hne;have HC:=AF hC;have o0:=aD hC (p:=⟨bx,0,As⟩) JB.lt (fun h=>h) k0;have o1:=aD hC (p:=⟨w.heap.size,0,As⟩) JK.lt (fun h=>h) m0;have p0:=aD hC (p:=⟨gc,b*4,As⟩) xJ (fun h=>h) c0;have p1:=aD hC (p:=⟨gc,b*4+1,As⟩) xJ (fun h=>h) c1;have p2:=aD hC (p:=⟨gc,b*4+2,As⟩) xJ (fun h=>h) Ty;have p3:=aD hC (p:=⟨gc,b*4+3,As⟩) xJ (fun h=>h) c3;have r0:=aD hC (p:=⟨sb,sof+k*4,As⟩) Vu (fun h=>h) d0;have r1:=aD hC (p:=⟨sb,sof+k*4+1,As⟩) Vu (fun h=>h) d1;have r2:=aD hC (p:=⟨sb,sof+k*4+2,As⟩) Vu (fun h=>h) d2;have r3:=aD hC (p:=⟨sb,sof+k*4+3,As⟩) Vu (fun h=>h) d3;clear hC k0 k1 k2 m0 m1 m2 c0 c1 Ty c3 d0 d1 d2 d3
   repeat (refine au (fun K hK=>?_);first | (refine bL rfl ?_;try go_simp;refine hK _ _ ?_;clear hK K) | (refine bJ rfl rfl ?_;unfold az;go_simp;refine hK _ _ ?_;clear hK K))
   refine au (fun K hK=>?_);refine bS rfl rfl (aU.Cm _ (D' (encS (o ||| t)))) rfl (fun W hW hN=>?_) (fun v hv=>?_)
   ·have hM:=(HC.out W).1 hW
    clear hW;go_simp;refine bA ((CO W).mono ?_);rintro e w2 ⟨rfl,hx⟩;exact⟨_,rfl,Move.aj hx.below,rfl,trivial⟩
   replace hv:v=_:=hv;subst hv;go_simp;refine hK _ _ ?_;clear hK K;refine bC (fun W hW hH=>?_);have hM:=(HC.out W).1 hW;have ZB:=AF (JB.below hM.below JB.lt);have ZC:=AF (ai JC hM.below);have ZR:=AF (ai JR hM.below);have ZRS:=AF (JRS.below hM.below);have ZX:By (ae (· <g5) W2 W):=AF ((HX.tr JX).tr (ae.aj hM.below fun z (hz:z<g5)=>by have:=JX.size;have:=HX.size;omega:ae (· <g5) W3 W));clear hM hW hH HC hne o0 o1 p0 p1 p2 p3 r0 r1 r2 r3 JB JC JR JRS JX CO;obtain⟨gc3,oc3,e7,apv,c0,c1,Ty,c3⟩:=(fD (l:=kK d N k) (by unfold kK;rw[aP,A'];exact ZC)).1.elem (xh d hbN);cases e7;simp only[H']at c0 c1 Ty c3;have y0':=ZC.frozenAt (b*4);have y1':=ZC.frozenAt (b*4+1);have y2':=ZC.frozenAt (b*4+2);have y3':=ZC.frozenAt (b*4+3);go_wp2;go_roundw;case rel=>
    obtain⟨W8,WE⟩:=ag ((((W.setCell ⟨gc,b*4,As⟩ (AS DQ (wd (o ||| t) 0).toNat)).setCell ⟨gc,b*4+1,As⟩ (AS DQ (wd (o ||| t) 1).toNat)).setCell ⟨gc,b*4+2,As⟩ (AS DQ (wd (o ||| t) 2).toNat)).setCell ⟨gc,b*4+3,As⟩ (AS DQ (wd (o ||| t) 3).toNat));rw[<-WE];have kg:ae (· ≠gc) W W8:=by rw[WE];exact((((ae.refl _ _).setCell (p:=⟨gc,b*4,As⟩) (fun h=>h rfl) _).setCell (p:=⟨gc,b*4+1,As⟩) (fun h=>h rfl) _).setCell (p:=⟨gc,b*4+2,As⟩) (fun h=>h rfl) _).setCell (p:=⟨gc,b*4+3,As⟩) (fun h=>h rfl) _
    refine⟨k+1,us2,by omega,by go_num,ZB.keeps kg fun e=>bZ ZB ZC (by decide) gc rfl e.symm,?_,ak ZR kg fun z e e2=>?_,ZRS.keeps kg fun u z hu e hz e2=>?_,ZX.tr (kg.mono fun z (hz:z<g5)=>by show z≠gc;omega)⟩
    ·have h5:=((((ZC.stored (b*4) (AS DQ (wd (o ||| t) 0).toNat)).1.stored (b*4+1) (AS DQ (wd (o ||| t) 1).toNat)).1.stored (b*4+2) (AS DQ (wd (o ||| t) 2).toNat)).1.stored (b*4+3) (AS DQ (wd (o ||| t) 3).toNat)).1
     rw[zS (o ||| t) (kK d N k) b (by unfold kK;rw[aP,A'];exact hbN),HBE.out,HOE.out,HTE.out,HBE.out,Sr d (by rw[<-HBE.out];exact hbN)]at h5;rw[WE,HBE.out,HOE.out,HTE.out,HBE.out];exact h5
    ·rcases ownBlock_ne (by decide) ZR ZC.out with h5 | h5
     ·rw[h5]at e;cases e
     ·exact h5 (e.trans (by rw[e2];rfl))
    ·obtain⟨i,hi⟩:=List.mem_iff_getElem?.1 hu
     have fT:=(AM.1 hi).1;have hr5:=ZRS.rows i u _ hi (aB (by rw[ZRS.l2, <-ZRS.l1];exact fT));rcases ownBlock_ne (by decide) hr5 ZC.out with h5 | h5
     ·rw[h5]at e;cases e
     ·exact h5 (e.trans (by rw[e2];rfl))
   case measure=>simp[intOf];omega
  ·obtain rfl:k=K:=by omega
   have ed:¬ ((k:Int)<k):=by omega
   have RF:=AF (R2.keeps HX (by show w.heap.size+1<g5;omega));have XK:By (aa w wo):=AF (X2.trans (HX.mono fun x (hx:x<w.heap.size)=>by show x<g5;omega:ae (· <w.heap.size) W2 wo).below);obtain⟨⟨k0,k1,k2⟩,_⟩:=HB.three;obtain⟨⟨l0,l1,l2⟩,z0,z1,z2⟩:=RF.three;go_wp2;refine aQ ?_;intro W9 dG;have E9:By (ar W9 (w.heap.size+1) #[An x0 N y0,An x1 n y1,An a2 n c2] 29/\ae (· ≠w.heap.size+1) wo W9):=by rw[dG];exact AF ⟨RF.vy,cY _ _ _ _ _⟩
   clear dG z0 z1 z2 k0 k1 k2 l0 l1 l2;obtain⟨⟨m0,m1,m2⟩,_⟩:=E9.1.three;refine D_ (v:=D' #[An x0 N y0,An x1 n y1,An a2 n c2]) (by simp[results,Tryz.results116,go_sem,m0,m1,m2]) rfl ⟨_,rfl,⟨_,_,_,rfl,?_,?_,?_⟩,XK.trans (E9.2.mono fun x (hx:x<w.heap.size)=>by show x≠w.heap.size+1;omega:ae (· <w.heap.size) wo W9).below⟩
   ·have h5:=aC (base':=base) (ak HC E9.2 fun x e=>by have:=(HC.lt x e).1;show x≠_;omega) (by omega)
    have e:kK d N k=(lZ d).cl:=by rw[oO.out,HK.out];exact Ss d
    have e2:(lZ d).cl.length=N:=by rw[<-e];unfold kK;rw[aP,A']
    show W9.ownsRow base 56 4 _ (lZ d).cl.length _;rw[e2, <-e];exact h5
   ·have e:jX d k=(lZ d).nx:=by rw[HK.out];exact Nh d
    have h5:aS g5 wo (An x1 n y1) (jX d k):=RowsIn.ll Wv.rows Wv.l1 Wv.l2 HR;rw[e]at h5;exact(h5.keeps E9.2 fun x h1 _=>by show x≠_;omega).base (by omega)
   ·exact H2.keeps (R:=(· <w.heap.size)) ((ae.aj XK fun _ h=>h:ae (· <w.heap.size) w wo).tr (E9.2.mono fun x (hx:x<w.heap.size)=>by show x≠w.heap.size+1;omega)) fun _ _ h=>h
end
section
open Go Go.RowKit Go.Shelf Go.Maps
def zT (n0 n1 n2:Nat) (d:DF) (W:AN) (e:Ending) (w':AN):Prop:=
 ∃ a0 c0 a1 c1 a2 c2,e=C' (D' #[An a0 n0 c0,An a1 n1 c1,An a2 n2 c2])/\aM W.heap.size w' (D' #[An a0 n0 c0,An a1 n1 c1,An a2 n2 c2]) d/\aa W w'
theorem bV.form {w:AN} {v:AT} {d:DF} (h:bV w v d):∃ a0 c0 a1 c1 a2 c2,v=D' #[An a0 d.cl.length c0,An a1 d.nx.length c1,An a2 d.mr.length c2]:=by obtain⟨v0,v1,v2,rfl,h0,h1,h2⟩:=h;obtain⟨a0,c0,rfl⟩:=h0.1.form;obtain⟨a1,c1,rfl⟩:=h1.form;obtain⟨a2,c2,rfl⟩:=h2.form;exact⟨_,_,_,_,_,_,rfl⟩
theorem Ko {d:DF} (rt:Rt d) {n0 n1 n2:Nat} (h0:n0=(cN d).cl.length) (h1:n1=(cN d).nx.length) (h2:n2=(cN d).mr.length) (W:AN) (u:AT) (h:bV W u d):ah 115 #[u] W (rD n0 n1 n2 0 (cN d) W):=
 (Sl u d rt rt.Rh W h).mono fun e w' ⟨r,hr,hd,hx⟩=>by
  subst h0 h1 h2;obtain⟨a0,c0,a1,c1,a2,c2,rfl⟩:=hd.form;exact⟨a0,c0,a1,c1,a2,c2,hr,hd,hx⟩
theorem zU {d:DF} (rt:Rt d) (p:Nat->Nat) {n0 n1 n2:Nat} (h0:n0=(bI d p).cl.length) (h1:n1=(bI d p).nx.length) (h2:n2=(bI d p).mr.length) (W:AN) (u pv:AT) (h:bV W u d) (hp:bw (fun u:AT=>u) W pv ((Bm d.nx.length).map fun s=>cK (p s))):ah 81 #[u,pv] W (zT n0 n1 n2 (bI d p) W):=
 (I0 u pv d rt rt.Rh p W h hp).mono fun e w' ⟨r,hr,hd,hx⟩=>by
  subst h0 h1 h2;obtain⟨a0,c0,a1,c1,a2,c2,rfl⟩:=hd.form;exact⟨a0,c0,a1,c1,a2,c2,hr,hd,hx⟩
def Kp (base n0 n1 n2:Nat) (d:DF) (W:AN) (e:Ending) (w':AN):Prop:=
 ∃ a0 c0 a1 c1 a2 c2,e=C' (D' #[An a0 n0 c0,An a1 n1 c1,An a2 n2 c2])/\aM base w' (D' #[An a0 n0 c0,An a1 n1 c1,An a2 n2 c2]) d/\aa W w'
theorem Fq {d:DF} (rt:Rt d) {n0 n1 n2:Nat} (h0:n0=(lZ d).cl.length) (h1:n1=(lZ d).nx.length) (h2:n2=(lZ d).mr.length) (base:Nat) (W:AN) (u:AT) (h:aM base W u d) (hb:base<=W.heap.size):ah 116 #[u] W (Kp base n0 n1 n2 (lZ d) W):=
 (BJ base u d rt W h hb).mono fun e w' ⟨r,hr,hd,hx⟩=>by
  subst h0 h1 h2;obtain⟨a0,c0,a1,c1,a2,c2,rfl⟩:=hd.form;exact⟨a0,c0,a1,c1,a2,c2,hr,hd,hx⟩
theorem BP {w:AN} {base n:Nat} {v:AT} {e:J'} {l:List AT} (h:w.ownsRow base e 1 v n l) (hn:n=l.length):bw (fun u:AT=>u) w v l:=by
 have e1:l=l.map fun u:AT=>u:=by rw[List.map_id']
 rw[e1]at h;exact bU h hn
theorem ar.mG {w:AN} {b:Nat} {x0 x1 x2 y0 y1 y2:AT} {t:J'} (h:ar w b #[x0,x1,x2] t):ar (((w.setCell ⟨b,0,As⟩ y0).setCell ⟨b,1,As⟩ y1).setCell ⟨b,2,As⟩ y2) b #[y0,y1,y2] t:=((h.set 0 _).set 1 _).set 2 _
theorem xj {d:DF} (rt:Rt d) {k0 k1 k2:Nat} (rS:k0=(dJ d).cl.length) (mj:k1=(dJ d).nx.length) (hk2:k2=(dJ d).mr.length) (w:AN) (v:AT) (h:bV w v d): ah 62 #[v] w (zT k0 k1 k2 (dJ d) w):=by
 have rt1:Rt (cN d):=Vo rt;have rt2:Rt (bI (cN d) (fS (cN d))):=RV rt1 (M7 rt1);have rt3:Rt (Fj d):=ZQ rt2;obtain⟨n0,bX⟩:=ag d.cl.length;obtain⟨n1,cM⟩:=ag d.nx.length;obtain⟨n2,dP⟩:=ag d.mr.length;obtain⟨n3,Ga⟩:=ag ((cN d).cl.length);obtain⟨n4,QS⟩:=ag ((cN d).nx.length);obtain⟨n5,hn5⟩:=ag ((cN d).mr.length);obtain⟨m0,nZ⟩:=ag ((bI (cN d) (fS (cN d))).cl.length);obtain⟨m1,lA⟩:=ag ((bI (cN d) (fS (cN d))).nx.length);obtain⟨m2,mE⟩:=ag ((bI (cN d) (fS (cN d))).mr.length);obtain⟨m3,hm3⟩:=ag ((Fj d).cl.length);obtain⟨m4,tG⟩:=ag ((Fj d).nx.length);obtain⟨m5,hm5⟩:=ag ((Fj d).mr.length);obtain⟨R,hR⟩:=ag ((Bm (cN d).nx.length).map fun s=>cK (fS (cN d) s));have CT:By (∀ W u,bV W u d->ah 115 #[u] W (rD n3 n4 n5 0 (cN d) W)):=AF fun W u h=>Ko rt Ga QS hn5 W u h
 have CB:By (∀ W u,bV W u (cN d)->ah 79 #[u] W fun e w'=>∃ a c,e=C' (An a n4 c)/\w'.ownsRow W.heap.size 3 1 (An a n4 c) n4 R/\aa W w'):=AF fun W u h=>(xd u _ rt1 W h).mono fun e w' ⟨r,hr,ho,hx⟩=>by
  rw[<-hR, <-QS]at ho;obtain⟨a,c,rfl⟩:=ownsRow_form ho;exact⟨a,c,hr,ho,hx⟩
 have CM:By (∀ W u pv,bV W u (cN d)->bw (fun u:AT=>u) W pv R->ah 81 #[u,pv] W (zT m0 m1 m2 (bI (cN d) (fS (cN d))) W)):=AF fun W u pv h hp=>zU rt1 _ nZ lA mE W u pv h (by rw[<-hR];exact hp)
 have CN:By (∀ base W u,aM base W u (bI (cN d) (fS (cN d)))->base<=W.heap.size->ah 116 #[u] W (Kp base m3 m4 m5 (Fj d) W)):=AF fun base W u h hb=>Fq rt2 hm3 tG hm5 base W u h hb
 have CZ:By (∀ W u,bV W u (Fj d)->ah 115 #[u] W (rD k0 k1 k2 0 (dJ d) W)):=AF fun W u h=>Ko rt3 rS mj hk2 W u h
 have Yy:By (n4=R.length):=AF (by rw[hR,aP,A'];exact QS);obtain⟨a0,c0,a1,c1,a2,c2,rfl⟩:=h.form;rw[<-bX, <-cM, <-dP]at h ⊢;have H:=AF h;generalize bI (cN d) (fS (cN d))=d2 at*;generalize cN d=d1 at*;generalize Fj d=d3 at*;generalize dJ d=d4 at*;clear h rt rt1 rt2 rt3 bX cM dP Ga QS hn5 nZ lA mE hm3 tG hm5 rS mj hk2 hR;go_enter Tryz.func62,Tryz.ntmps62;go_upto_region 1 with fail
 refine aw ?_;intro V hV;have B0:By (ar V w.heap.size #[An a0 n0 c0,An a1 n1 c1,An a2 n2 c2] 29):=AF (by rw[hV];exact(ar.new w _ _).alloc _);have R0:By (ar V (w.heap.size+1) #[An As 0 0,An As 0 0,An As 0 0] 29):=AF (by rw[hV];exact(ar.new (w.alloc _) _ _).at (by simp));have X0:By (aa w V):=AF (by rw[hV];exact(((Ext.refl w).alloc _).alloc _).below);clear hV;obtain⟨p0,p1,p2⟩:=aM.fj B0;go_wp2_with fail
 refine(CT V _ (H.below X0)).mono ?_;rintro e w1 ⟨x0,y0,x1,y1,x2,y2,rfl,ho,hx⟩;have O1:=AF ho;have B1:=AF (B0.below hx B0.lt);have R1:=AF (R0.below hx R0.lt);have X1:=AF (X0.trans (hx.mono X0.size));have hV1:w.heap.size+1<V.heap.size:=R0.lt;have hW1:V.heap.size<=w1.heap.size:=hx.size;clear ho hx p0 p1 p2 B0 R0 X0 CT;obtain⟨⟨p0,p1,p2⟩,z0,z1,z2⟩:=B1.three;go_upto_region 2 with fail
 refine aw ?_;intro V1 hV;have KV:By (ae (· ≠w.heap.size) w1 V1):=AF (by rw[hV];exact cY _ _ _ _ _);have B2:By (ar V1 w.heap.size #[An x0 n3 y0,An x1 n4 y1,An x2 n5 y2] 29):=AF (by rw[hV];exact B1.mG);clear hV p0 p1 p2 z0 z1 z2;have R2:=AF (R1.keeps KV (by omega));have O2:=AF (O1.keeps KV fun x h1 _=>by show x≠w.heap.size;omega);have X2:By (aa w V1):=AF (X1.trans (KV.mono fun x (hx:x<w.heap.size)=>by show x≠w.heap.size;omega:ae (· <w.heap.size) w1 V1).below);have hW2:w1.heap.size<=V1.heap.size:=KV.size;clear B1 R1 O1 X1 KV;obtain⟨p0,p1,p2⟩:=aM.fj B2;refine aI GW (fun _=>False) (by kernel_rfl) 3 [0,0,2,7,15,31] (fun i=>i==2) (by kernel_rfl) (fun i=>if i=2 then aU.row V1.heap.size 3 1 n4 R else aU.any _) ?_;intro C hC hne;have HC:=AF hC;have f0:=aD hC (p:=⟨w.heap.size,0,As⟩) B2.lt (fun h=>h) p0;have f1:=aD hC (p:=⟨w.heap.size,1,As⟩) B2.lt (fun h=>h) p1;have f2:=aD hC (p:=⟨w.heap.size,2,As⟩) B2.lt (fun h=>h) p2;clear hC p0 p1 p2
 repeat (refine au (fun K hK=>?_);first | (refine bL rfl ?_;try go_simp;refine hK _ _ ?_;clear hK K) | (refine bJ rfl rfl ?_;unfold az;go_simp;refine hK _ _ ?_;clear hK K))
 refine au (fun K hK=>?_);refine bS rfl rfl (aU.row V1.heap.size 3 1 n4 R) rfl (fun W hW hN=>?_) (fun v hv=>?_)
 ·have hM:=(HC.out W).1 hW
  clear hW;go_simp;refine bA ((CB W _ (O2.below hM.below).df).mono ?_);rintro e w2 ⟨pa,pc,rfl,ho,hx⟩;exact⟨_,rfl,Move.aj hx,⟨_,_,rfl⟩,aC ho hM.size⟩
 obtain⟨pa,pc,rfl⟩:=hv;go_simp;refine hK _ _ ?_;clear hK K;refine bC (fun W hW hH=>?_);have hM:=(HC.out W).1 hW;have PR:By (W.ownsRow V1.heap.size 3 1 (An pa n4 pc) n4 R):=AF (hH _ (ax (show _=AI _ from rfl:_[0]? =AI _)));have B3:=AF (B2.below hM.below B2.lt);have R3:=AF (R2.below hM.below R2.lt);have O3:=AF (O2.below hM.below);have X3:=AF (X2.trans (hM.below.mono X2.size));have hW3:V1.heap.size<=W.heap.size:=hM.size;clear hM hW hH HC hne f0 f1 f2 B2 R2 O2 X2 CB;go_wp2_with fail
 refine(CM W _ _ O3.df (BP PR Yy)).mono ?_;rintro e w3 ⟨s0,t0,s1,t1,s2,t2,rfl,ho,hx⟩;have OM:=AF ho;have B4:=AF (B3.below hx B3.lt);have R4:=AF (R3.below hx R3.lt);have X4:=AF (X3.trans (hx.mono X3.size));have JY:W.heap.size<=w3.heap.size:=hx.size;clear ho hx B3 R3 X3 O3 PR CM;go_wp2_with fail
 refine(CN W.heap.size w3 _ OM JY).mono ?_;rintro e w4 ⟨q0,r0,q1,r1,q2,r2,rfl,hd,hx⟩;have ON:=AF hd;have B5:=AF (B4.below hx B4.lt);have R5:=AF (R4.below hx R4.lt);have X5:=AF (X4.trans (hx.mono X4.size));have YR:w3.heap.size<=w4.heap.size:=hx.size;clear hd hx B4 R4 X4 OM CN;obtain⟨⟨p0,p1,p2⟩,z0,z1,z2⟩:=B5.three;go_upto_region 3 with fail
 refine aw ?_;intro V5 hV;have KV:By (ae (· ≠w.heap.size) w4 V5):=AF (by rw[hV];exact cY _ _ _ _ _);have B6:By (ar V5 w.heap.size #[An q0 m3 r0,An q1 m4 r1,An q2 m5 r2] 29):=AF (by rw[hV];exact B5.mG);clear hV p0 p1 p2 z0 z1 z2;have R6:=AF (R5.keeps KV (by omega));have O6:=AF (ON.keeps KV fun x h1 _=>by show x≠w.heap.size;omega);have X6:By (aa w V5):=AF (X5.trans (KV.mono fun x (hx:x<w.heap.size)=>by show x≠w.heap.size;omega:ae (· <w.heap.size) w4 V5).below);have rW:w4.heap.size<=V5.heap.size:=KV.size;clear B5 R5 ON X5 KV;obtain⟨p0,p1,p2⟩:=aM.fj B6;go_wp2_with fail
 refine(CZ V5 _ O6.df).mono ?_;rintro e w5 ⟨g0,h0,g1,h1,g2,h2,rfl,ho,hx⟩;have OZ:=AF ho;have B7:=AF (B6.below hx B6.lt);have R7:=AF (R6.below hx R6.lt);have X7:=AF (X6.trans (hx.mono X6.size));have hW7:V5.heap.size<=w5.heap.size:=hx.size;clear ho hx p0 p1 p2 B6 R6 X6 O6 CZ;obtain⟨⟨p0,p1,p2⟩,z0,z1,z2⟩:=B7.three;go_upto_region 4 with fail
 refine aw ?_;intro V6 hV;have KV:By (ae (· ≠w.heap.size) w5 V6):=AF (by rw[hV];exact cY _ _ _ _ _);have B8:By (ar V6 w.heap.size #[An g0 k0 h0,An g1 k1 h1,An g2 k2 h2] 29):=AF (by rw[hV];exact B7.mG);clear hV p0 p1 p2 z0 z1 z2;have R8:=AF (R7.keeps KV (by omega));have O8:=AF (OZ.keeps KV fun x h1 _=>by show x≠w.heap.size;omega);have X8:By (aa w V6):=AF (X7.trans (KV.mono fun x (hx:x<w.heap.size)=>by show x≠w.heap.size;omega:ae (· <w.heap.size) w5 V6).below);clear B7 R7 OZ X7 KV;obtain⟨p0,p1,p2⟩:=aM.fj B8;obtain⟨⟨l0,l1,l2⟩,z0,z1,z2⟩:=R8.three;go_wp2;refine aQ ?_;intro W9 dG;have E9:By (ar W9 (w.heap.size+1) #[An g0 k0 h0,An g1 k1 h1,An g2 k2 h2] 29/\ae (· ≠w.heap.size+1) V6 W9):=by
  rw[dG];exact AF ⟨R8.mG,cY _ _ _ _ _⟩
 clear dG z0 z1 z2 p0 p1 p2 l0 l1 l2;obtain⟨m0,m1,m2⟩:=aM.fj E9.1;refine D_ (v:=D' #[An g0 k0 h0,An g1 k1 h1,An g2 k2 h2]) (by simp[results,Tryz.results62,go_sem,m0,m1,m2]) rfl ⟨g0,h0,g1,h1,g2,h2,rfl,(O8.keeps E9.2 fun x h1 _=>by show x≠_;omega).base (by omega),X8.trans (E9.2.mono fun x (hx:x<w.heap.size)=>by show x≠w.heap.size+1;omega:ae (· <w.heap.size) V6 W9).below⟩
def Fs (w:AN) (v:AT) (l:List (List (Nat×Nat×Nat))):Prop:=(∃ p c,v=An p 0 c/\l=[])\/
 ∃ b off c,v=An (AI ⟨b,off,As⟩) l.length c/\b<w.heap.size/\l.length<=c/\l≠[]/\∀ (i:Nat) (s:List (Nat×Nat×Nat)),l[i]? =AI s->s.length<=1000000000000000/\∃ u,dM w u s/\w.cell? ⟨b,off+i,As⟩=AI u
theorem Fs.below {w w':AN} {v:AT} {l:List (List (Nat×Nat×Nat))} (h:Fs w v l) (hk:aa w w'):Fs w' v l:=by
 rcases h with h | ⟨b,off,c,hv,hb,hc,hl,h⟩
 ·exact .inl h
 ·have hcell:∀ j,w'.cell? ⟨b,j,As⟩=w.cell? ⟨b,j,As⟩:=fun j=>(ae.aj hk fun _ h=>h:ae (· <w.heap.size) w w').cell (p:=⟨b,j,As⟩) hb
  refine .inr ⟨b,off,c,hv,ay hb hk.size,hc,hl,fun i s hi=>?_⟩;rw[hcell];obtain⟨h1,u,h3,h4⟩:=h i s hi;exact⟨h1,u,h3.below hk,h4⟩
def rM (w:AN) (v:AT) (l:List (List (Nat×Nat×Nat))) (fl:Nat):Prop:=∃ u,v=D' #[u,AS .u8 fl]/\Fs w u l
theorem rM.below {w w':AN} {v:AT} {l:List (List (Nat×Nat×Nat))} {fl:Nat} (h:rM w v l fl) (hk:aa w w'):rM w' v l fl:=by obtain⟨u,h1,h2⟩:=h;exact⟨u,h1,h2.below hk⟩
theorem dM.cap {w:AN} {a:Option Lw} {n c:Nat} {l:List (Nat×Nat×Nat)} (h:dM w (An a n c) l):l.length<=c:=by
 rcases h with⟨e,rfl⟩ | ⟨ad,c',e,rfl⟩ | ⟨b,off,c',e,hb,hc,hl,h⟩
 ·exact B' _
 ·exact B' _
 ·cases e;exact hc
theorem Sv {m:Nat} (h:m<256):bits .and .u8 (m:Int) 1=((m%2:Nat):Int):=by
 have h1:∀ m:Fin 256,bits .and .u8 ((m.val:Nat):Int) 1=((m.val%2:Nat):Int):=by decide+kernel
 exact h1 ⟨m,h⟩
theorem Z4 {fl:Nat} (oW:fl<256) (k:Nat):(bits .and .u8 ((fl:Int)/2^k) 1==1)=(fl/2^k%2==1):=by
 have h1:(fl:Int)/2^k=((fl/2^k:Nat):Int):=by simp
 rw[h1,Sv (Nat.lt_of_le_of_lt (Nat.div_le_self _ _) oW)];rcases Nat.mod_two_eq_zero_or_one (fl/2^k)with h | h<;>rw[h]<;>rfl
def BQ (n0 n1 n2:Nat) (ok:Bool) (d:DF) (W:AN) (e:Ending) (w':AN):Prop:=
 ∃ a0 c0 a1 c1 a2 c2,e=C' (K_ #[D' #[An a0 n0 c0,An a1 n1 c1,An a2 n2 c2],EV ok])/\aM W.heap.size w' (D' #[An a0 n0 c0,An a1 n1 c1,An a2 n2 c2]) d/\aa W w'
theorem dM.Z5 {w:AN} {a:Option Lw} {n c m:Nat} {l:List (Nat×Nat×Nat)} (h:dM w (An a n c) l) (hm:m=min n 12):dM w (An a m c) (l.take 12):=by
 rcases h with⟨e,rfl⟩ | ⟨ad,c',e,rfl⟩ | ⟨b,off,c',e,hb,hc,hl,h⟩
 ·cases e
  obtain rfl:m=0:=by omega
  exact .inl ⟨rfl,rfl⟩
 ·cases e
  obtain rfl:m=0:=by omega
  exact .inr (.inl ⟨ad,c,rfl,rfl⟩)
 ·cases e
  have hlen:(l.take 12).length=m:=by rw[DP];omega
  refine .inr (.inr ⟨b,off,c,by rw[hlen],hb,by omega,?_,fun i s hi=>h i s ?_⟩)
  ·intro e
   have h1:=congrArg List.length e;rw[hlen]at h1;have h2:l.length≠0:=fun e=>hl (List.eq_nil_of_length_eq_zero e)
   have h3:m=0:=h1;omega
  ·by_cases hi2:i<12
   ·rwa[List.getElem?_take_of_lt hi2]at hi
   ·rw[aT (by rw[DP];omega)]at hi;cases hi
theorem tQ (p:Option Lw) (c:Nat) (fl:Nat) (oW:fl<256) (l:List (List (Nat×Nat×Nat))) {d:DF} {code:Int} (he:kR (cT l fl) 60=(d,code)) (j5:code=0->0<d.nx.length) {n0 n1 n2:Nat} (h0:n0=d.cl.length) (h1:n1=d.nx.length) (h2:n2=d.mr.length) (w:AN) (hc:l.length<=c) (iE:l.length<=1000000000000000) (hS:∀ (i:Nat) (s:List (Nat×Nat×Nat)),l[i]? =AI s->∃ b off,p=AI ⟨b,off,As⟩/\b<w.heap.size/\s.length<=1000000000000000/\∃ u,dM w u s/\w.cell? ⟨b,off+i,As⟩=AI u) (hT:∀ W,aa w W->nB W): ah 11 #[D' #[An p l.length c,AS .u8 fl]] w (BQ n0 n1 n2 (code==0) d w):=by
 obtain⟨iP,hiP,Vv,Vw,aaa⟩:=DH Tryz.Zr;have CO:By (∀ W u,aa w W->iX W u (cT l fl)->ah 61 #[u,AS B_ 60] W (rD n0 n1 n2 code d W)):=AF fun W u hW hu=>ET (wO l fl oW) he h0 h1 h2 W u hu fun V hV=>hT V (hW.trans (hV.mono hW.size))
 have iM:By (code=0->0<n1):=AF fun e=>by rw[h1];exact j5 e
 obtain⟨ok,I7⟩:=ag ((code==0));rw[<-I7];have adM:=AF I7;clear I7;have HS:=AF hS;obtain⟨n,hn⟩:=ag l.length;obtain⟨N,hN⟩:=ag (min n 3);have kf:min (n:Int) 3=(N:Int):=by omega
 have EA:N<=n:=by omega
 have hN3:N<=3:=by omega
 rw[<-hn]at hc iE ⊢;have EB:N<=c:=by omega
 have oO:=AF hn;have HN:=AF hN;clear hS hn hN he j5 h0 h1 h2 hT;go_enter Tryz.func11,Tryz.ntmps11;go_upto_region 1 with fail
 refine aw ?_;intro V hV;have B0:By (ar V w.heap.size #[An p n c,AS .u8 fl] 24):=AF (by rw[hV];exact(ar.new w _ _).alloc _);have R0:By (ar V (w.heap.size+1) #[An As 0 0,An As 0 0,An As 0 0] 29):=AF (by rw[hV];exact(ar.new (w.alloc _) _ _).at (by simp));have X0:By (aa w V):=AF (by rw[hV];exact(((Ext.refl w).alloc _).alloc _).below);clear hV;have b0:V.cell? ⟨w.heap.size,0,As⟩=AI (An p n c):=B0.cell 0;go_wp2_with fail
 clear b0;go_loopw [4,19] (fun pv iv wr=>∃ k:Nat,k<=N/\iv=AS B_ k/\eV V.heap.size wr pv ((cT l fl).take k)/\aa V wr) (fun _ iv _=>N-(intOf iv).toNat);case atStart=>exact⟨0,by omega,rfl,eV.nil _ _,Below.refl _ _⟩
 case round=>
  obtain⟨k,hk,rfl,hI,hx⟩:=hrel;obtain⟨wo,rfl⟩:=ag (wr:AN);have HI:=AF hI;have HX:=AF (X0.trans (hx.mono X0.size));have HVX:=AF hx;have BO:=AF (B0.below hx B0.lt);have RO:=AF (R0.below hx R0.lt);clear hI hx;by_cases hlt:k<N
  ·have ed:(k:Int)<N:=by omega
   obtain⟨s,hsk⟩:∃ s,l[k]? =AI s:=⟨_,aB (by have:=oO.out;omega)⟩;obtain⟨b,off,rfl,hb,hs9,u,hu,c0⟩:=HS.out k _ hsk;have wc:∀ (o:Nat) (u:AT),w.cell? ⟨b,o,As⟩=AI u->wo.cell? ⟨b,o,As⟩=AI u:=fun o u h=>((ae.aj HX fun _ h=>h:ae (· <w.heap.size) w wo).cell (p:=⟨b,o,As⟩) hb).trans h
   replace c0:=wc _ _ c0;obtain⟨ua,uc,rfl⟩:=hu.form;obtain⟨sn,kX⟩:=ag s.length;obtain⟨S,hSe⟩:=ag (min sn 12);have alu:min (sn:Int) 12=(S:Int):=by omega
   have hSn:S<=sn:=by omega
   have hsc:sn<=uc:=by rw[kX];exact hu.cap
   have hSc:S<=uc:=by omega
   rw[<-kX]at hu c0;have HU:=AF (hu.Z5 hSe);obtain⟨m,hm⟩:=ag (((cT l fl).take k).length);obtain⟨pa,pc,NY,HI2⟩:∃ pa pc,_=An pa m pc/\By (eV V.heap.size wo (An pa m pc) ((cT l fl).take k)):=by
    obtain⟨pa,pc,e⟩:=HI.form;rw[<-hm]at e;exact⟨pa,pc,e,AF (e▸HI.out)⟩
   subst NY;have HM:=AF hm;have hmN:m<=3:=by rw[hm,DP];omega
   have HSK:=AF hsk;have hT9:(s.take 12).length<=1000000000000000:=by rw[DP];omega
   clear HI hm hu hsk wc kX hSe;go_wp2_with fail
   refine(Ij _ (s.take 12) hT9 wo (HU.below HX)).mono ?_;rintro e w1 ⟨t,rfl,ht,hx1⟩;have HT:=AF ht;have X1:By (aa w w1):=AF (HX.trans (hx1.mono HX.size));have V1:By (aa V w1):=AF (HVX.trans (hx1.mono HVX.size));have P1:=AF (HI2.below hx1);have B1:=AF (BO.below hx1 BO.lt);obtain⟨tp,tc,rfl⟩:=ht.form;clear ht hx1 HI2 c0 HVX BO;go_wp2_with fail
   refine(zC _ (gP (s.take 12)) w1 HT (nG _).fine (by have:=(nG (s.take 12)).size;omega) (nG _).cy).mono ?_;rintro e w2 ⟨u2,rfl,ho,hx2⟩;obtain⟨xa0,xn0,xc0,xa1,xn1,xc1,xa2,xn2,xc2,xa3,xn3,xc3,rfl⟩:=ho.form;have HO:=AF (ho.base (base':=V.heap.size) V1.size);have X2:By (aa w w2):=AF (X1.trans (hx2.mono X1.size));have V2:By (aa V w2):=AF (V1.trans (hx2.mono V1.size));have P2:=AF (P1.below hx2);have B2:=AF (B1.below hx2 B1.lt);clear ho hx2 X1 P1 HT V1 B1;go_upto_region 8 with fail
   refine aw ?_;intro V3 cP;have BN:By (ar V3 w2.heap.size #[An xa0 xn0 xc0,An xa1 xn1 xc1,An xa2 xn2 xc2,An xa3 xn3 xc3,EV (gP (s.take 12)).nf.emp] 118):=AF (by rw[cP];exact ar.new w2 _ _);have XV3:By (aa w2 V3):=AF (by rw[cP];exact((Ext.refl w2).alloc _).below);clear cP;have B3:=AF (B2.below XV3 B2.lt);have P3:=AF (P2.below XV3);have O3:=AF (HO.below XV3);have X3:By (aa w V3):=AF (X2.trans (XV3.mono X2.size));have V3':By (aa V V3):=AF (V2.trans (XV3.mono V2.size));obtain⟨f0,f1,f2,f3,f4⟩:=BN.five;have g1:V3.cell? ⟨w.heap.size,1,As⟩=AI (AS .u8 fl):=B3.cell 1;have hbn:=BN.lt;have hb3:=B3.lt;clear B2 P2 HO X2 V2 XV3;have hk3:k<3:=by omega
   obtain⟨bg,hbg⟩:=ag ((fl/2^k%2==1));obtain⟨mk,lq⟩:=ag (k*(fl/64):Nat);have YZ:qj fl k s=⟨(gP (s.take 12)).nf,bg,(mk:Int)⟩:=by rw[hbg,lq];rfl
   have HPT:=AF YZ;clear YZ;refine aI GW (fun _=>False) (by kernel_rfl) 16 [0,0,0,4,0,28,60,124,0,0,512,1536,3584,7936,16382,32766,65535,131071] (fun i=>i==15) (by kernel_rfl) (fun i=>if i=15 then aU.rowOf 1 #[An xa0 xn0 xc0,An xa1 xn1 xc1,An xa2 xn2 xc2,An xa3 xn3 xc3,EV (gP (s.take 12)).nf.emp,EV bg,AS B_ mk] 124 else aU.any _) ?_;intro C hC hne;have HC:=AF hC;have e0:=aD hC (p:=⟨w2.heap.size,0,As⟩) hbn (fun h=>h) f0;have e1:=aD hC (p:=⟨w2.heap.size,1,As⟩) hbn (fun h=>h) f1;have e2:=aD hC (p:=⟨w2.heap.size,2,As⟩) hbn (fun h=>h) f2;have e3:=aD hC (p:=⟨w2.heap.size,3,As⟩) hbn (fun h=>h) f3;have e4:=aD hC (p:=⟨w2.heap.size,4,As⟩) hbn (fun h=>h) f4;have r1:=aD hC (p:=⟨w.heap.size,1,As⟩) hb3 (fun h=>h) g1;clear hC g1 f0 f1 f2 f3 f4
   repeat (refine au (fun K hK=>?_);first | (refine bL rfl ?_;try go_simp;refine hK _ _ ?_;clear hK K) | (refine bJ rfl rfl ?_;unfold az;go_simp;refine hK _ _ ?_;clear hK K))
   have fb:=Z4 oW k;rw[<-hbg]at fb;have fq:((fl:Int)/2^6)=((fl/64:Nat):Int):=by simp
   have hfm:fl/64<=3:=by omega
   have hfk:k*(fl/64)<=2*3:=Nat.mul_le_mul (by omega) hfm;have fw:B_.wrap ((fl/64:Nat):Int)=((fl/64:Nat):Int):=IntWalk.i64_in _ (by omega);have fm:B_.wrap ((k:Int)*B_.wrap ((fl:Int)/64))=(mk:Int):=by rw[show((fl:Int)/64)=((fl/64:Nat):Int) by simp,fw,show(k:Int)*((fl/64:Nat):Int)=((k*(fl/64):Nat):Int) by simp, <-lq];exact IntWalk.i64_in _ (by omega)
   have fm2:B_.wrap ((k:Int)*B_.wrap ((fl:Int)/2^6))=(mk:Int):=fm;clear fq fw hbg lq;refine au (fun K hK=>?_);refine bS rfl rfl (aU.rowOf 1 #[An xa0 xn0 xc0,An xa1 xn1 xc1,An xa2 xn2 xc2,An xa3 xn3 xc3,EV (gP (s.take 12)).nf.emp,EV bg,AS B_ mk] 124) rfl (fun W hW hN=>?_) (fun v hv=>?_)
   ·clear hW hK K hN
    refine DG 115 124 (.tmp 51) rfl Tryz.underlying115 hiP Vv Vw (by decide) (by decide) #[An xa0 xn0 xc0,An xa1 xn1 xc1,An xa2 xn2 xc2,An xa3 xn3 xc3,EV (gP (s.take 12)).nf.emp,EV bg,AS B_ mk] (by simp[Act.eval,fb,fm]) rfl ?_;exact⟨Move.aj ((Ext.refl _).alloc _).below,⟨_,rfl⟩,fun b hb=>by cases hb;exact ar.new _ _ _⟩
   obtain⟨bl,rfl⟩:=hv;go_simp;refine hK _ _ ?_;clear hK K;refine bC (fun W4 hW hH=>?_);have hM:=(HC.out W4).1 hW;have B4:By (ar W4 bl #[An xa0 xn0 xc0,An xa1 xn1 xc1,An xa2 xn2 xc2,An xa3 xn3 xc3,EV (gP (s.take 12)).nf.emp,EV bg,AS B_ mk] 124):=AF (hH _ (ax (show _=AI _ from rfl:_[0]? =AI _)) bl rfl);have E4:By (aa V3 W4):=AF hM.below;clear hM hW hH HC fb fm fm2 e0 e1 e2 e3 e4 r1;have X4:By (aa w W4):=AF (X3.trans (E4.mono X3.size));have V4:By (aa V W4):=AF (V3'.trans (E4.mono V3'.size));have P4:=AF (P3.below E4);have O4:=AF (O3.below E4);have aiz:V.heap.size<=W4.heap.size:=V4.size;clear P3 E4 O3 BN B3 X3 V3';obtain⟨cs,g1,g2⟩:=P4.out;rw[<-HM.out]at g1;have G1:=AF g1;have G2:=AF g2;clear g1 g2 P4
   go_wp2_with (at_builtin;refine DS _ rfl (.tmp 37) (.tmp 52) 115 rfl V.heap.size 124 iP (D' #[An As 0 0,An As 0 0,An As 0 0,An As 0 0,EV GW,EV GW,AS B_ 0]) 7 120 Tryz.underlying115 hiP Vv Vw aaa rfl (by decide) _ _ _ rfl G1 ⟨bl,0,As⟩ 1 1 [An xa0 xn0 xc0,An xa1 xn1 xc1,An xa2 xn2 xc2,An xa3 xn3 xc3,EV (gP (s.take 12)).nf.emp,EV bg,AS B_ mk] rfl rfl (cC B4) (by
    intro u hu;simp only[List.mem_cons,List.not_mem_nil,or_false]at hu
    rcases hu with rfl | rfl | rfl | rfl | rfl | rfl | rfl<;>rfl) (by unfold maxLen;omega) (by omega) aiz ?_;intro v' w5 hown' hgrow hh hat;obtain⟨pa3,pc3,rfl⟩:=ownsRow_form hown';have Iw:=AF hown';have HG5:=AF hgrow;clear hown' hgrow hh hat)
   have P5:By (eV V.heap.size w5 (An pa3 (m+1) pc3) ((cT l fl).take k++ [qj fl k s])):=AF (eV.more (by rw[<-HM.out];exact G1) G2 O4 HG5 (by rw[<-HM.out,HPT.out];exact Iw));have X5:By (aa V w5):=AF (V4.trans ((Below.refl _ _).grown HG5 V4.size (fun c e=>(G1.lt c e).1)));clear Iw HG5;go_roundw;case rel=>
    refine⟨k+1,by omega,by go_num,?_,X5⟩;rw[Br HSK.out hk3];exact P5
   case measure=>simp[intOf];omega
  ·obtain rfl:k=N:=by omega
   have Cq:¬ ((k:Int)<k):=by omega
   have Gf:By (eV V.heap.size wo _ (cT l fl)):=AF (by
    have h5:=HI.out;rw[FF (by rw[tN];have:=HN.out;have:=oO.out;omega)]at h5
    exact h5)
   clear HI;obtain⟨pa,pc,rfl⟩:=Gf.form;go_wp2_with fail
   refine(CO wo _ HX Gf.pts).mono ?_;rintro e w5 ⟨a0,c0,a1,c1,a2,c2,rfl,ho,hx⟩;have O5:=AF ho;have R5:=AF (RO.below hx RO.lt);have X5:=AF (HX.trans (hx.mono HX.size));have hsO:w.heap.size+1<wo.heap.size:=RO.lt;clear ho hx CO;go_upto_region 11 with fail
   refine aw ?_;intro V6 hV;obtain⟨db,hdb⟩:=ag w5.heap.size;have D6:By (ar V6 db #[An a0 n0 c0,An a1 n1 c1,An a2 n2 c2] 29):=AF (by rw[hV,hdb];exact ar.new w5 _ _);have uq:aa w5 V6:=by rw[hV];exact((Ext.refl _).alloc _).below
   have O6:=AF (O5.below uq);have R6:=AF (R5.below uq R5.lt);have X6:=AF (X5.trans (uq.mono X5.size));have hdr:w.heap.size+1<db:=by rw[hdb];exact R5.lt
   rw[<-hdb];have q0:V6.cell? ⟨db,0,As⟩=AI (An a0 n0 c0):=D6.cell 0;have q1:V6.cell? ⟨db,1,As⟩=AI (An a1 n1 c1):=D6.cell 1;have q2:V6.cell? ⟨db,2,As⟩=AI (An a2 n2 c2):=D6.cell 2;clear hV uq O5 R5 X5 hdb;have aab:=D6.lt;have HF:By (∃ c,ar V6 (w.heap.size+1) c 29/\c.size=(#[An a0 n0 c0,An a1 n1 c1,An a2 n2 c2]:Array AT).size):=AF ⟨_,R6,rfl⟩;have I7:=adM.out;have hn:ok=GS->decide ((0:Int)<n1)=true:=fun e=>by
    rw[I7]at e;have:=iM.out (by simpa using e);exact decide_eq_true (by omega)
   have HN9:=AF hn;have alw:((code:Int)==0)=ok:=I7.symm;clear hn I7 adM;refine br (iF (w.heap.size+1) 29 #[An a0 n0 c0,An a1 n1 c1,An a2 n2 c2]) (iF.drew _ _ _ _) (fun _ _ _ h k=>h.trans k) (by kernel_rfl) 10 [0,0,2,6,14,30,62,126,254,15,1023] (fun i=>i==9) (by kernel_rfl) (fun i=>if i=9 then aU.wrote (w.heap.size+1) 29 #[An a0 n0 c0,An a1 n1 c1,An a2 n2 c2]else aU.any _) ?_;intro C hC _;have HC:=AF hC;have k0:∀ W: {W//C W},W.1.cell? ⟨db,0,As⟩=AI (An a0 n0 c0):=fun W=>(((hC W.1).1 W.2).keeps.cell (p:=⟨db,0,As⟩) ⟨aab,by show ¬db=_;omega⟩).trans q0
   have k1:∀ W: {W//C W},W.1.cell? ⟨db,1,As⟩=AI (An a1 n1 c1):=fun W=>(((hC W.1).1 W.2).keeps.cell (p:=⟨db,1,As⟩) ⟨aab,by show ¬db=_;omega⟩).trans q1
   have k2:∀ W: {W//C W},W.1.cell? ⟨db,2,As⟩=AI (An a2 n2 c2):=fun W=>(((hC W.1).1 W.2).keeps.cell (p:=⟨db,2,As⟩) ⟨aab,by show ¬db=_;omega⟩).trans q2
   clear hC q0 q1 q2;cases ok with
   | false=>
    repeat (refine au (fun K hK=>?_);first | (refine bL rfl ?_;try go_simp;refine hK _ _ ?_;clear hK K) | (refine bJ rfl rfl ?_;unfold az;go_simp;refine hK _ _ ?_;clear hK K))
    refine au (fun K hK=>?_);refine bS rfl rfl (aU.wrote (w.heap.size+1) 29 #[An a0 n0 c0,An a1 n1 c1,An a2 n2 c2]) rfl (fun W hW hN=>?_) (fun v hv=>?_)
    ·have hM:=(HC.out W).1 hW
     obtain⟨c,hb,hcs⟩:=hM.old HF;obtain⟨x0,x1,x2,rfl⟩:∃ x0 x1 x2,c= #[x0,x1,x2]:=by
      have h4:c.toList.length=3:=by rw[Array.length_toList,hcs];rfl
      match hc:c.toList,h4 with
      | [x0,x1,x2],_=>exact⟨x0,x1,x2,by rw[<-Array.toArray_toList (xs:=c),hc]⟩
     have HB:=AF hb;obtain⟨⟨y0,y1,y2⟩,z0,z1,z2⟩:=hb.three;clear hW hN hK K hb hcs hM;go_simp;exact⟨iF.store ⟨(cY _ _ _ _ _).mono fun _ h=>h.2,fun h=>by cases h⟩ HB.mG,trivial,HB.mG⟩
    go_simp;refine hK _ _ ?_;clear hK K hv
    repeat (refine au (fun K hK=>?_);first | (refine bL rfl ?_;try go_simp;refine hK _ _ ?_;clear hK K) | (refine bJ rfl rfl ?_;unfold az;go_simp;refine hK _ _ ?_;clear hK K))
    refine bC (fun w9 hW hH=>?_);have hM:=(HC.out w9).1 hW;have H4:By (ar w9 (w.heap.size+1) #[An a0 n0 c0,An a1 n1 c1,An a2 n2 c2] 29):=hH _ (bu ..);have K9:By (ae (fun k=>k<V6.heap.size/\¬k=w.heap.size+1) V6 w9):=AF hM.keeps;clear hM hW hH HC HF k0 k1 k2;go_wp2;obtain⟨m0,m1,m2⟩:=aM.fj (H4.out:ar w9 (w.heap.size+1) #[An a0 n0 c0,An a1 n1 c1,An a2 n2 c2] 29);refine D_ (v:=K_ #[D' #[An a0 n0 c0,An a1 n1 c1,An a2 n2 c2],EV GW]) (by simp[results,Tryz.results11,go_sem,m0,m1,m2]) rfl ⟨a0,c0,a1,c1,a2,c2,rfl,(O6.keeps K9 fun x h1 h2=>⟨h2,by omega⟩).base (by omega),X6.trans (K9.mono fun x (hx:x<w.heap.size)=>⟨by have:=X6.size;omega,by omega⟩:ae (· <w.heap.size) V6 w9).below⟩
   | true=>
    have d1:=HN9.out rfl;have d2:0<n1:=by have:=of_decide_eq_true d1;omega
    repeat (refine au (fun K hK=>?_);first | (refine bL rfl ?_;try go_simp;refine hK _ _ ?_;clear hK K) | (refine bJ rfl rfl ?_;unfold az;go_simp;refine hK _ _ ?_;clear hK K))
    refine au (fun K hK=>?_);refine bS rfl rfl (aU.wrote (w.heap.size+1) 29 #[An a0 n0 c0,An a1 n1 c1,An a2 n2 c2]) rfl (fun W hW hN=>?_) (fun v hv=>?_)
    ·have hM:=(HC.out W).1 hW
     obtain⟨c,hb,hcs⟩:=hM.old HF;obtain⟨x0,x1,x2,rfl⟩:∃ x0 x1 x2,c= #[x0,x1,x2]:=by
      have h4:c.toList.length=3:=by rw[Array.length_toList,hcs];rfl
      match hc:c.toList,h4 with
      | [x0,x1,x2],_=>exact⟨x0,x1,x2,by rw[<-Array.toArray_toList (xs:=c),hc]⟩
     have HB:=AF hb;obtain⟨⟨y0,y1,y2⟩,z0,z1,z2⟩:=hb.three;clear hW hN hK K hb hcs hM;go_simp;exact⟨iF.store ⟨(cY _ _ _ _ _).mono fun _ h=>h.2,fun h=>by cases h⟩ HB.mG,trivial,HB.mG⟩
    go_simp;refine hK _ _ ?_;clear hK K hv
    repeat (refine au (fun K hK=>?_);first | (refine bL rfl ?_;try go_simp;refine hK _ _ ?_;clear hK K) | (refine bJ rfl rfl ?_;unfold az;go_simp;refine hK _ _ ?_;clear hK K))
    refine bC (fun w9 hW hH=>?_);have hM:=(HC.out w9).1 hW;have H4:By (ar w9 (w.heap.size+1) #[An a0 n0 c0,An a1 n1 c1,An a2 n2 c2] 29):=hH _ (bu ..);have K9:By (ae (fun k=>k<V6.heap.size/\¬k=w.heap.size+1) V6 w9):=AF hM.keeps;clear hM hW hH HC HF k0 k1 k2;go_wp2;obtain⟨m0,m1,m2⟩:=aM.fj (H4.out:ar w9 (w.heap.size+1) #[An a0 n0 c0,An a1 n1 c1,An a2 n2 c2] 29);refine D_ (v:=K_ #[D' #[An a0 n0 c0,An a1 n1 c1,An a2 n2 c2],EV GS]) (by simp[results,Tryz.results11,go_sem,m0,m1,m2]) rfl ⟨a0,c0,a1,c1,a2,c2,rfl,(O6.keeps K9 fun x h1 h2=>⟨h2,by omega⟩).base (by omega),X6.trans (K9.mono fun x (hx:x<w.heap.size)=>⟨by have:=X6.size;omega,by omega⟩:ae (· <w.heap.size) V6 w9).below⟩
theorem xm (v:AT) (fl:Nat) (oW:fl<256) (l:List (List (Nat×Nat×Nat))) (iE:l.length<=1000000000000000) {d:DF} {code:Int} (he:kR (cT l fl) 60=(d,code)) (j5:code=0->0<d.nx.length) {n0 n1 n2:Nat} (h0:n0=d.cl.length) (h1:n1=d.nx.length) (h2:n2=d.mr.length) (w:AN) (h:rM w v l fl) (hT:∀ W,aa w W->nB W): ah 11 #[v] w (BQ n0 n1 n2 (code==0) d w):=by
 obtain⟨u,rfl,h⟩:=h;rcases h with⟨p,c,rfl,rfl⟩ | ⟨b,off,c,rfl,hb,hc,_,h⟩
 ·exact tQ p c fl oW [] he j5 h0 h1 h2 w (B' _) iE (fun i s hs=>by simp at hs) hT
 ·exact tQ _ c fl oW l he j5 h0 h1 h2 w hc iE (fun i s hs=>⟨b,off,rfl,hb,h i s hs⟩) hT
end
end Go.Proofs.YtjgccapbphadjaaGreatDoor
