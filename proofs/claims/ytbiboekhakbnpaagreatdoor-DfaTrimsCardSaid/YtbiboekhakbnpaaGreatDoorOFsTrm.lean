/- dfa.Trim. Printed by wip/gen/trim.py. -/
import Derived.Test.YtbiboekhakbnpaaGreatDoorOFsDcl
set_option maxRecDepth 100000
set_option maxHeartbeats 16000000
open Go.Lib (hid)
namespace Go.Proofs.YtbiboekhakbnpaaGreatDoor
open Go Go.RowKit Go.Shelf Go.Maps
attribute [local go_sem] encS
theorem kC (W:World) (b:Nat) (x y z:Value):aa (· ≠b) W (((W.setCell ⟨b,0,none⟩ x).setCell ⟨b,1,none⟩ y).setCell ⟨b,2,none⟩ z):=
 (((aa.refl _ _).setCell (p:=⟨b,0,none⟩) (fun h=>h rfl) _).setCell (p:=⟨b,1,none⟩) (fun h=>h rfl) _).setCell (p:=⟨b,2,none⟩) (fun h=>h rfl) _
theorem Dq (v:Value) (d:DF) (rt:Rt d) (sm:Sm d) (w:World) (h:gN w v d): Calls Tryz.prog 27 #[v] w fun e w'=>∃ u,e=.returned (.tuple #[u,.int .i64 0])/\aP w.heap.size w' u (l4 d)/\Below w.heap.size w w':=by
 obtain⟨iI,GN,pE,pF,pG⟩:=info_parts Tryz.qW;obtain⟨iL,wW,kQ,kR,kS⟩:=info_parts Tryz.oZ;have CR:Hid (∀ W,Below w.heap.size w W->Calls Tryz.prog 28 #[v] W fun e w'=>∃ u,e=.returned (.tuple #[u,.int .i64 0])/\w'.ownsRow W.heap.size 3 1 u (cB d).length ((cB d).map jr)/\Below W.heap.size W w'):=hid fun W hW=>rJ v d rt sm W (h.below hW)
 obtain⟨v0,v1,v2,rfl,h0,h1,h2⟩:=h;obtain⟨a0,c0,rfl⟩:=h0.1.form;obtain⟨a1,c1,rfl⟩:=h1.form;obtain⟨a2,c2,rfl⟩:=h2.form;have DK:=rt.mr;rw[DK]at h2 CR ⊢;obtain⟨n,hn⟩:∃ n,n=d.nx.length:=⟨_,rfl⟩;obtain⟨K,hK⟩:∃ n,n=d.cl.length:=⟨_,rfl⟩;obtain⟨L,hL⟩:∃ L,L=cB d:=⟨_,rfl⟩;obtain⟨m,hm⟩:∃ m,m=L.length:=⟨_,rfl⟩;rw[<-hL, <-hm]at CR;have IL:Hid (Hg n L):=hid (by rw[hL,hn];exact qJ rt);have Sz:n<=4000:=by have:=rt.le;omega
 have fL:1<=n:=by have:=rt.pos;omega
 have hK2:K<=256:=by have:=rt.Ey;omega
 have WR:m<=n:=by rw[hm];exact IL.out.len
 rw[<-hn]at h1 h2 CR ⊢;rw[<-hK]at h0 CR ⊢;have Va:Hid (∀ s,s<n->∃ (b:Nat) (off:Nat) (ad:Option Addr) (cp:Nat),a2=some ⟨b,off,none⟩/\b<w.heap.size/\w.cell? ⟨b,off+s,none⟩=some (.slice ad (d.mr.getD s []).length cp)/\bg aF w (.slice ad (d.mr.getD s []).length cp) (d.mr.getD s [])):=hid fun s hs=>by
  have hrow:d.mr[s]? =some (d.mr.getD s []):=by rw[List.getD_eq_getElem?_getD,List.getElem?_eq_getElem (by rw[DK, <-hn];exact hs)];rfl
  obtain⟨b,off,a',c',e1,e2,e3,e4⟩:=h2.elem hrow;exact⟨b,off,a',c',e1,e2,e3,e4⟩
 have Ww:Hid (∀ s,s<n->∃ (b:Nat) (off:Nat) (ad:Option Addr) (cp:Nat),a1=some ⟨b,off,none⟩/\b<w.heap.size/\w.cell? ⟨b,off+s,none⟩=some (.slice ad K cp)/\bg aF w (.slice ad K cp) (d.nx.getD s [])):=hid fun s hs=>by
  have hrow:d.nx[s]? =some (d.nx.getD s []):=by rw[List.getD_eq_getElem?_getD,List.getElem?_eq_getElem (by rw[<-hn];exact hs)];rfl
  obtain⟨b,off,a',c',e1,e2,e3,e4⟩:=h1.elem hrow;rw[rt.len s (by rw[<-hn];exact hs), <-hK]at e3 e4;exact⟨b,off,a',c',e1,e2,e3,e4⟩
 have H0:=hid h0;have HN:=hid hn;have HK:=hid hK;have HL:=hid hL;have HM:=hid hm;have RT:=hid rt;have SM:=hid sm;have HZ:Hid (∀ s,s∈L->∀ j,j<K->∃ t:Nat,t<n/\t∈L/\(d.nx.getD s [])[j]? =some (t:Int)/\(mX d s)[j]? =some t):=hid fun s hs j hj=>by
  have pV:=IL.out.lt s hs;obtain⟨t,e1,e2,e3⟩:=FX rt (s:=s) (k:=j) (by rw[<-hn];exact pV) (by rw[<-hK];exact hj);exact⟨t,by rw[hn];exact e1,by rw[hL]at hs ⊢;exact zl rt hs (List.mem_of_getElem? e3),e2,e3⟩
 have Vt:Hid (∀ s,s<n->(mX d s).length=K):=hid fun s hs=>by rw[hK];exact sB rt (by rw[<-hn];exact hs)
 clear h0 h1 h2 hn hK DK rt sm hL hm;go_enter Tryz.func27,Tryz.ntmps27;go_wp2_with fail
 refine aw ?_;intro V hV;have B1:Hid (ak V w.heap.size #[.slice a0 K c0,.slice a1 n c1,.slice a2 n c2] 31):=hid (by rw[hV];exact(ak.new w _ _).alloc _);have R1:Hid (ak V (w.heap.size+1) #[.slice none 0 0,.slice none 0 0,.slice none 0 0] 31):=hid (by rw[hV];exact(ak.new (w.alloc _) _ _).at (by simp));have X1:Hid (Below w.heap.size w V):=hid (by rw[hV];exact(((Ext.refl w).alloc _).alloc _).below);clear hV;have hsV:w.heap.size+1<V.heap.size:=R1.out.lt;refine(CR.out V X1.out).mono ?_;rintro e w2 ⟨u,rfl,ho,hx⟩;obtain⟨la,lc,rfl⟩:=ownsRow_form ho;have LR:=hid ho;have B2:=hid (B1.out.below hx B1.out.lt);have R2:=hid (R1.out.below hx R1.out.lt);have X2:=hid (X1.out.trans (hx.mono X1.out.size));have hs2:V.heap.size<=w2.heap.size:=hx.size;have L1:Hid (∀ x,(Value.slice la m lc).ownBlock=some x->x<w2.heap.size/\V.heap.size<=x):=hid fun x e=>⟨(ho.lt x e).2,(ho.lt x e).1⟩
 clear ho hx CR B1 R1 X1;obtain⟨⟨k0,k1,k2⟩,_⟩:=B2.out.three;go_wp2_with (at_make;refine wpList_make_full _ rfl (.tmp 26) (.tmp 26) 37 rfl w2.heap.size 3 iI (.int .i64 0) 1 Tryz.underlying37 GN pE pF .i64 .i64 _ _ n rfl rfl rfl rfl (by rw[pG];omega) (by unfold maxLen;omega) (Nat.le_refl _) ?_;intro w3 hr hg;refine Hid.out ?_);refine hid ?_;have OO:w2.heap.size<w3.heap.size:=by
  rcases hr.2 with⟨h5,_⟩ | ⟨g,c,cur,h5,_,h6,_⟩
  ·cases h5
  ·cases h5;exact(Array.getElem?_eq_some_iff.1 h6).1
 have hb3:Below w2.heap.size w2 w3:=(aa.aW hg fun x hx=>⟨hx,fun e=>by cases e⟩:aa (· <w2.heap.size) w2 w3).below;rw[wO]at hr;have N3:=hid hr;have L3:=hid (ag LR.out hb3);have B3:=hid (B2.out.below hb3 B2.out.lt);have R3:=hid (R2.out.below hb3 R2.out.lt);have X3:=hid (X2.out.trans (hb3.mono X2.out.size));clear hr hg hb3 k0 k1 k2 LR B2 R2 X2;obtain⟨g5,hg5⟩:∃ g,g=w2.heap.size:=⟨_,rfl⟩;rw[<-hg5]at N3 OO hs2 L1 ⊢;clear hg5;go_wp2;go_loopw [30] (fun iv wr=>∃ i:Nat,i<=m/\iv=.int .i64 i/\wr.ownsRow g5 3 1 (.slice (some ⟨g5,0,none⟩) n n) n ((uP n L i).map aF)/\aa (· ≠g5) w3 wr) (fun iv _=>m-(intOf iv).toNat);case atStart=>exact⟨0,Nat.zero_le _,rfl,by rw[<-Jz];exact N3.out,aa.refl _ _⟩
 case round=>
  obtain⟨i,hi,rfl,hnu,hx⟩:=hrel;obtain⟨wo,rfl⟩:∃ wo:World,wo=wr:=⟨_,rfl⟩;have HX:=hid hx;have NU:=hid hnu;have LO:=hid (ae L3.out hx fun x e=>by have:=L1.out x e;show x≠g5;omega);clear hx hnu;by_cases hlt:i<m
  ·obtain⟨s,hs⟩:∃ s,L[i]? =some s:=⟨_,List.getElem?_eq_getElem (by have:=HM.out;omega)⟩
   have pV:s<n:=IL.out.lt s (List.mem_of_getElem? hs);obtain⟨lg,lu,rfl,_,_,Kj,CU,_⟩:=eH LO.out hlt;rw[List.getElem?_map,hs]at Kj;cases Kj;replace CU:wo.cell? ⟨lg,i,none⟩=some (.int .i64 s):=CU;obtain⟨sg,su,se,_,hsg,hsu,hsc,hsf⟩:=eH NU.out pV;cases se;have mR:=NM (N:=n) IL.out.nodup hs pV;have Es:=hid mR;have hii:(i:Int)<m:=by omega
   have JP:(s:Int)<n:=by omega
   clear hs mR hsu;go_wp2;go_roundw;case rel=>
    refine⟨i+1,by omega,by go_num,?_,HX.out.setCell (p:=⟨g5,s,none⟩) (fun h=>h rfl) _⟩;rw[<-Es.out,List.map_set];exact(NU.out.stored s _).1
   case measure=>simp[intOf];omega
  ·obtain rfl:i=m:=by omega
   have hii:¬ ((i:Int)<i):=by omega
   have BO:=hid (B3.out.keeps HX.out (by show w.heap.size≠g5;omega));have RO:=hid (R3.out.keeps HX.out (by show w.heap.size+1≠g5;omega));have XO:Hid (Below w.heap.size w wo):=hid (X3.out.trans (HX.out.mono fun x (hx:x<w.heap.size)=>by show x≠g5;omega:aa (· <w.heap.size) w3 wo).below);have hso:w3.heap.size<=wo.heap.size:=HX.out.size;clear HX L3 B3 R3 X3 N3 hi hlt;obtain⟨⟨k0,k1,k2⟩,_⟩:=BO.out.three;go_wp2_with fail
   refine(ju (.slice a0 K c0) d.cl wo ⟨H0.out.1.below XO.out,H0.out.2⟩ SM.out.cl).mono ?_;rintro e w5 ⟨u,rfl,ho,hx⟩;rw[<-HK.out]at ho;obtain⟨ca,cc,rfl⟩:=ownsRow_form ho;have C5:=hid ho;have B5:=hid (BO.out.below hx BO.out.lt);have R5:=hid (RO.out.below hx RO.out.lt);have X5:=hid (XO.out.trans (hx.mono XO.out.size));have N5:=hid (ag NU.out hx);have L5:=hid (ag LO.out hx);have hs5:wo.heap.size<=w5.heap.size:=hx.size;clear ho hx BO RO XO NU LO k0 k1 k2;go_wp2;refine au ?_;intro V6 SF;have D6:Hid (ak V6 w5.heap.size #[.slice ca K cc,.slice none 0 0,.slice none 0 0] 31):=hid (by rw[SF];exact ak.new _ _ _);have VW:Below w5.heap.size w5 V6:=by rw[SF];exact((Ext.refl _).alloc _).below
   clear SF;have hs6:w5.heap.size<V6.heap.size:=D6.out.lt;have B6:=hid (B5.out.below VW B5.out.lt);have R6:=hid (R5.out.below VW R5.out.lt);have X6:=hid (X5.out.trans (VW.mono X5.out.size));have N6:=hid (ag N5.out VW);have L6:=hid (ag L5.out VW);have C6:=hid (ag C5.out VW);clear VW B5 R5 X5 N5 L5 C5;go_loopw [46] (fun kv wr=>∃ (k:Nat) (nx mk:Value),k<=i/\kv=.int .i64 k/\ak wr w5.heap.size #[.slice ca K cc,nx,mk] 31/\aC V6.heap.size wr nx ((L.take k).map (oo d))/\aC V6.heap.size wr mk ((L.take k).map fun s=>d.mr.getD s [])/\kU nx mk/\aa (fun x=>x<V6.heap.size/\x≠w5.heap.size) V6 wr) (fun kv _=>i-(intOf kv).toNat);case atStart=>exact⟨0,_,_,Nat.zero_le _,rfl,D6.out,aC.nil _ _,aC.nil _ _,.inl rfl,aa.refl _ _⟩
   case round=>
    obtain⟨k,nx,mk,hk,rfl,hb,G5,jx,hfar,hx⟩:=hrel;obtain⟨nB,rfl⟩:∃ nB:World,nB=wr:=⟨_,rfl⟩;have HB9:=hid hb;have RI:=hid G5;have RJ:=hid jx;have Vf:=hid hfar;have HX:=hid hx;have LO:=hid (ae L6.out hx fun x e=>by have:=L1.out x e;exact⟨by omega,by omega⟩)
    have NU:=hid (ae N6.out hx fun x e=>by
     have e2:g5=x:=by simpa[Value.ownBlock]using e
     exact⟨by omega,by omega⟩)
    have CO:=hid (ae C6.out hx fun x e=>by
     have h5:=C6.out.lt x e
     exact⟨h5.2,fun e2=>bI D6.out C6.out (by decide) x e e2⟩)
    have BO:=hid (B6.out.keeps hx ⟨by omega,by omega⟩);have RO:=hid (R6.out.keeps hx ⟨by omega,by omega⟩);have XO:Hid (Below w.heap.size w nB):=hid (X6.out.trans (hx.mono fun x (hx:x<w.heap.size)=>⟨by omega,by omega⟩:aa (· <w.heap.size) V6 nB).below);have amu:V6.heap.size<=nB.heap.size:=hx.size;clear hb G5 jx hfar hx;by_cases hlt:k<i
    ·obtain⟨s,hs⟩:∃ s,L[k]? =some s:=⟨_,List.getElem?_eq_getElem (by have:=HM.out;omega)⟩
     have hsL:=List.mem_of_getElem? hs;have pV:s<n:=IL.out.lt s hsL;obtain⟨lg,lu,rfl,_,_,Kj,CU,_⟩:=eH LO.out hlt;rw[List.getElem?_map,hs]at Kj;cases Kj;replace CU:nB.cell? ⟨lg,k,none⟩=some (.int .i64 s):=CU;obtain⟨b1,aaS,ad1,cp1,rfl,hb1,hc1,hsl1⟩:=Ww.out s pV;replace hc1:nB.cell? ⟨b1,aaS+s,none⟩=some (.slice ad1 K cp1):=((aa.ah XO.out fun _ h=>h:aa (· <w.heap.size) w nB).cell (p:=⟨b1,aaS+s,none⟩) hb1).trans hc1;have DC:=hid hsl1;have dw:L.take (k+1)=L.take k++ [s]:=by rw[List.take_add_one,hs];rfl
     have jW:=hid dw;have HSM:=hid hsL;have ed:(k:Int)<i:=by omega
     have JP:(s:Int)<n:=by omega
     have Pe:=BO.out.cell 1;simp only[List.getElem?_toArray,List.getElem?_cons_zero,List.getElem?_cons_succ]at Pe;clear hs hsl1 dw hsL;go_wp2;clear Pe hc1 CU;go_loopw [12,56] (fun tv jv wr=>∃ j:Nat,j<=K/\jv=.int .i64 j/\wr.ownsRow nB.heap.size 3 1 tv j (((mX d s).take j).map fun t=>jr (L.idxOf t))/\aa (fun x=>x<nB.heap.size) nB wr) (fun _ jv _=>K-(intOf jv).toNat);case atStart=>exact⟨0,Nat.zero_le _,rfl,World.ownsRow_nil _ _ _ _,aa.refl _ _⟩
     case round=>
      obtain⟨j,hj,rfl,ht,hx⟩:=hrel;obtain⟨wi,rfl⟩:∃ wi:World,wi=wr:=⟨_,rfl⟩;have HT:=hid ht;have KI:=hid hx;have XI:Hid (Below w.heap.size w wi):=hid (XO.out.trans (hx.mono fun x (hx:x<w.heap.size)=>by show x<nB.heap.size;omega:aa (· <w.heap.size) nB wi).below);have amy:nB.heap.size<=wi.heap.size:=hx.size;clear ht hx;obtain⟨ta,tc,rfl⟩:=ownsRow_form HT.out;by_cases JS:j<K
      ·obtain⟨t,sy,htL,hz,Dw⟩:=HZ.out s HSM.out j JS
       obtain⟨b',off',rfl,hb',hc'⟩:=(DC.out.below XI.out).elem hz;replace hc':wi.cell? ⟨b',off'+j,none⟩=some (.int .i64 (t:Int)):=hc';have NUI:=ae NU.out KI.out fun x e=>(NU.out.lt x e).2
       obtain⟨sg,su,se,_,hsg,hsu,hsc,hsf⟩:=eH NUI sy;cases se;rw[List.getElem?_map,show uP n L i=uP n L L.length by rw[HM.out],NN htL sy]at hsu;cases hsu;replace hsc:wi.cell? ⟨g5,t,none⟩=some (.int .i64 (L.idxOf t:Int)):=hsc;have jA:(j:Int)<K:=by omega
       have hti:(t:Int)<n:=by omega
       have aaT:(((mX d s).take (j+1)).map fun t=>jr (L.idxOf t))=(((mX d s).take j).map fun t=>jr (L.idxOf t))++ [jr (L.idxOf t)]:=by rw[List.take_add_one,Dw];simp
       have HT2:=hid aaT;obtain⟨ix,SS⟩:∃ ix,ix=L.idxOf t:=⟨_,rfl⟩;rw[<-SS]at hsc HT2;clear hz Dw aaT NUI SS;go_wp2_with (at_builtin;refine wpList_append_own_at _ rfl (.tmp 60) (.tmp 65) 37 rfl nB.heap.size 3 iI (.int .i64 0) 1 8 Tryz.underlying37 GN pE pF pG rfl (by decide) _ _ _ rfl (HT.out.alloc _) ⟨wi.heap.size,0,none⟩ 1 1 [jr ix] rfl rfl (dV _ _ _) (by simp[Value.oneCell',jr]) (by unfold maxLen;omega) (by omega) (by simp;omega) ?_;intro v' w6 hown' hgrow hh hat;have jq:=hid hown';have HG:=hid hgrow;clear hown' hgrow hh hat);go_roundw;case rel=>
        have vq:∀ x,(Value.slice ta j tc).ownBlock=some x->nB.heap.size<=x:=fun x hx=>(HT.out.lt x hx).1
        refine⟨j+1,by omega,by go_num,by rw[HT2.out];exact jq.out,?_⟩;exact(KI.out.tr (aa.ah ((Ext.refl _).alloc _).below fun x (hx:x<nB.heap.size)=>by show x<wi.heap.size;omega)).tr (aa.aW HG.out fun x (hx:x<nB.heap.size)=>⟨by simp;omega,fun e=>by have:=vq x e.symm;omega⟩)
       case measure=>simp[intOf];omega
      ·obtain rfl:j=K:=by omega
       have jA:¬ ((j:Int)<j):=by omega
       have TV:Hid (wi.ownsRow nB.heap.size 3 1 (.slice ta j tc) j ((oo d s).map aF)):=hid (by
        have h5:=HT.out;rw[List.take_of_length_le (by rw[Vt.out s pV];exact Nat.le_refl _)]at h5;have e:(oo d s).map aF=(mX d s).map fun t=>jr (L.idxOf t):=by unfold oo;rw[List.map_map, <-HL.out];rfl
        rw[e];exact h5)
       have D4:(oo d s).length=j:=by unfold oo;rw[List.length_map,Vt.out s pV]
       have HRL:=hid D4;clear D4 HT;obtain⟨b2,kf,ad2,cp2,rfl,hb2,hc2,hsl2⟩:=Va.out s pV;have hcw:wi.cell? ⟨b2,kf+s,none⟩=some (.slice ad2 (d.mr.getD s []).length cp2):=((aa.ah XI.out fun _ h=>h:aa (· <w.heap.size) w wi).cell (p:=⟨b2,kf+s,none⟩) hb2).trans hc2;have aaU:(d.mr.getD s []).length<=1000000:=by
        by_cases h5:s<d.mr.length
        ·exact SM.out.PS _ (List.mem_of_getElem? (by rw[List.getD_eq_getElem?_getD,List.getElem?_eq_getElem h5];rfl:d.mr[s]? =some _))
        ·rw[List.getD_eq_getElem?_getD,List.getElem?_eq_none (by omega)];exact Nat.zero_le _
       obtain⟨ml,rM⟩:∃ x,x=(d.mr.getD s []).length:=⟨_,rfl⟩;obtain⟨mx,hmx⟩:∃ x,x=(d.mr.getD s []).map aF:=⟨_,rfl⟩;have Jf:Hid (∀ W,Below w.heap.size w W->Calls Tryz.prog 32 #[.slice ad2 ml cp2] W fun e w'=>∃ u,e=.returned u/\w'.ownsRow W.heap.size 3 1 u ml mx/\Below W.heap.size W w'):=hid fun W hW=>by
        rw[rM,hmx];exact jw _ (d.mr.getD s []) W (hsl2.below hW) aaU
       rw[<-rM]at hcw;have NXI:=RI.out.keeps KI.out fun x _ h2=>h2
       have MKI:=RJ.out.keeps KI.out fun x _ h2=>h2
       obtain⟨us,u1,u2,u3⟩:=NXI;obtain⟨ms,m1,m2,m3⟩:=MKI;have vr:(L.take k).length=k:=by rw[List.length_take];have:=HM.out;omega
       have Mb:us.length=k:=by rw[u1,List.length_map,vr]
       have SR:ms.length=k:=by rw[m1,List.length_map,vr]
       rw[Mb]at u2;rw[SR]at m2;obtain⟨na,nc,rfl⟩:=ownsRow_form u2;obtain⟨ma,mc,rfl⟩:=ownsRow_form m2;have VX:=hid (HB9.out.keeps KI.out (by show w5.heap.size<nB.heap.size;omega));have BI:=hid (BO.out.keeps KI.out (by show w.heap.size<nB.heap.size;omega));have L1':Hid (∀ x,(Value.slice na k nc).ownBlock=some x->x<nB.heap.size/\V6.heap.size<=x):=hid (by obtain⟨us',h0,h2,_⟩:=RI.out;exact fun x e=>⟨(h2.lt x e).2,(h2.lt x e).1⟩);have L2':Hid (∀ x,(Value.slice ma k mc).ownBlock=some x->x<nB.heap.size/\V6.heap.size<=x):=hid (by obtain⟨us',h0,h2,_⟩:=RJ.out;exact fun x e=>⟨(h2.lt x e).2,(h2.lt x e).1⟩);have U1:=hid u1;have U2:=hid u2;have U3:=hid u3;have M1:=hid m1;have M2:=hid m2;have M3:=hid m3;have Ki:=hid Mb;have HMS:=hid SR;have xy:=hid rM;have HMX:=hid hmx;have HCW:=hid hcw;clear u1 u2 u3 m1 m2 m3 Mb SR rM hmx RI RJ hc2 hsl2 vr hcw aaU;obtain⟨PL,zh⟩:∃ PL:List jB.App,PL=[(ri wi.heap.size (.slice na k nc) k us (.slice ta j tc)),(mkApp wi.heap.size (.slice ma k mc) k ms ml mx)]:=⟨_,rfl⟩;have qE:PL[0]? =some (ri wi.heap.size (.slice na k nc) k us (.slice ta j tc)):=by rw[zh];rfl
       have rF:PL[1]? =some (mkApp wi.heap.size (.slice ma k mc) k ms ml mx):=by rw[zh];rfl
       have hall:∀ q∈PL,q=(ri wi.heap.size (.slice na k nc) k us (.slice ta j tc))\/q=(mkApp wi.heap.size (.slice ma k mc) k ms ml mx):=fun q hq=>by rw[zh]at hq;simpa using hq
       have Jq:Hid (jB.jG wi PL):=hid ⟨fun q hq=>by rcases hall q hq with rfl | rfl<;>exact Nat.le_refl _,fun q hq x e=>by
        rcases hall q hq with rfl | rfl
        ·have:=L1'.out x e;omega
        ·have:=L2'.out x e;omega,fun i j q q' hi hj pU=>by
        have hl:PL.length=2:=by rw[zh];rfl
        have h1:=(List.getElem?_eq_some_iff.1 hi).1;have h2:=(List.getElem?_eq_some_iff.1 hj).1;rcases(show i=0\/i=1 by omega)with rfl | rfl<;>rcases(show j=0\/j=1 by omega)with rfl | rfl<;>(first | (exact absurd rfl pU) | skip)<;>(first | rw[qE]at hi | rw[rF]at hi)<;>(first | rw[qE]at hj | rw[rF]at hj)<;>cases hi<;>cases hj
        ·exact Vf.out
        ·exact Vf.out.symm⟩
       have Pc:∀ x,(x<V6.heap.size\/nB.heap.size<=x)->¬ ∃ q∈PL,q.v.ownBlock=some x:=fun x hx ⟨q,hq,e⟩=>by
        rcases hall q hq with rfl | rfl
        ·have:=L1'.out x e;omega
        ·have:=L2'.out x e;omega
       have zi:=hid hall;have FI:=hid Pc;have zQ:Hid (∀ W',jB.bw V6.heap.size wi PL wi W'->Below w.heap.size w W'):=hid fun W' h=>XI.out.trans (h.keeps.mono fun x hx=>⟨by have:x<w.heap.size:=hx;omega,Pc x (by have:x<w.heap.size:=hx;omega)⟩:aa (· <w.heap.size) wi W').below
       clear zh hall Pc;go_upto_region 20 with fail
       have HST:Hid (∀ W W' u,jB.bw V6.heap.size wi PL W W'->(u.oneCell'=true/\W.ownsRow wi.heap.size 3 1 u ml mx)->(u.oneCell'=true/\W'.ownsRow wi.heap.size 3 1 u ml mx)):=hid fun W W' u hm h=>⟨h.1,ae h.2 hm.keeps fun x hx=>⟨(h.2.lt x hx).2,FI.out x (.inr (by have:=(h.2.lt x hx).1;omega))⟩⟩
       refine RegG.aU (jB.bw V6.heap.size wi PL) (jB.bw.drew) (fun _ _ _ h k=>h.trans k) (by kernel_rfl) 16 [0,1,0,4,15,0,32,0,128,0,896,1920,3999,8095,16383,127,65535,131071,262143] (fun i=>i==3 || i==4 || i==12 || i==13 || i==14) (by kernel_rfl) (fun j=>if j=14 then some 72 else none) (fun j hj=>(by first | rfl | (have iz:19<=j:=hj;first | exact if_neg (by omega) | (split<;>first | omega | rfl)))) (by kernel_rfl) (fun i=>if i=3 then jB.jd.tq V6.heap.size wi PL 1 #[.slice ta j tc] 37 else if i=4 then jB.jd.app V6.heap.size wi PL (ri wi.heap.size (.slice na k nc) k us (.slice ta j tc)) (List.mem_of_getElem? qE)else if i=12 then jB.jd.row V6.heap.size wi PL Jq.out wi.heap.size (Nat.le_refl _) 3 1 ml mx else if i=13 then jB.jd.Ya V6.heap.size wi PL 37 (fun W u=>u.oneCell'=true/\W.ownsRow wi.heap.size 3 1 u ml mx) HST.out else if i=14 then jB.jd.Lr V6.heap.size wi PL (mkApp wi.heap.size (.slice ma k mc) k ms ml mx) (List.mem_of_getElem? rF)else RegG.aO.any _) ?_;intro C hC hne;have HC:=hid hC;have il:∀ {x:Nat},x<wi.heap.size->(¬ ∃ q∈PL,q.v.ownBlock=some x)->∀ W: {W//C W},W.1.heap[x]? =wi.heap[x]? :=fun {x} h1 h2 W=>((hC W.1).1 W.2).keeps.keep x ⟨h1,h2⟩
       have o1:∀ W: {W//C W},W.1.cell? ⟨w5.heap.size,1,none⟩=some (.slice na k nc):=fun W=>(VX.out.same (il VX.out.lt (FI.out _ (by omega)) W)).cell 1
       have o2:∀ W: {W//C W},W.1.cell? ⟨w5.heap.size,2,none⟩=some (.slice ma k mc):=fun W=>(VX.out.same (il VX.out.lt (FI.out _ (by omega)) W)).cell 2
       have o3:∀ W: {W//C W},W.1.cell? ⟨w.heap.size,2,none⟩=some (.slice (some ⟨b2,kf,none⟩) n c2):=fun W=>(BI.out.same (il BI.out.lt (FI.out _ (by omega)) W)).cell 2
       have o4:∀ W: {W//C W},W.1.cell? ⟨b2,kf+s,none⟩=some (.slice ad2 ml cp2):=fun W=>by
        have e:W.1.cell? ⟨b2,kf+s,none⟩=wi.cell? ⟨b2,kf+s,none⟩:=by unfold World.cell?;rw[il (x:=b2) (by have:=XI.out.size;omega) (FI.out b2 (by omega)) W]
        exact e.trans HCW.out
       clear hC il
       repeat (refine RegG.ai (fun K hK=>?_);first | (refine RegG.br rfl ?_;try go_simp;refine hK _ _ ?_;clear hK K) | (refine RegG.aZ rfl rfl ?_;unfold ar;go_simp;refine hK _ _ ?_;clear hK K))
       refine RegG.ai (fun K hK=>?_);refine RegG.bA rfl rfl (jB.jd.tq V6.heap.size wi PL 1 #[.slice ta j tc] 37) rfl (fun W hW hN=>?_) (fun v hv=>?_)
       ·have hM:=(HC.out W).1 hW
        clear hW hK K
        (go_simp;exact⟨.below ((Ext.refl _).alloc _).below,⟨_,rfl⟩,fun b hb=>by cases hb;exact⟨ak.new _ _ _,Jq.out.fresh hM.size⟩⟩)
       obtain⟨x3,rfl⟩:=hv;go_simp;refine hK _ _ ?_;clear hK K;refine RegG.ai (fun K hK=>?_);refine RegG.bA rfl rfl (jB.jd.app V6.heap.size wi PL (ri wi.heap.size (.slice na k nc) k us (.slice ta j tc)) (List.mem_of_getElem? qE)) rfl (fun W hW hN=>?_) (fun v hv=>?_)
       ·have hM:=(HC.out W).1 hW
        clear hW hK K;refine jB.dB (w0:=wi) (PL:=PL) (p:=(ri wi.heap.size (.slice na k nc) k us (.slice ta j tc))) (.tmp 69) (.tmp 71) 29 rfl iL (.slice none 0 0) 24 Tryz.underlying29 wW kQ kR kS rfl (show(0:Nat)<1 from by decide) Jq.out qE rfl (hM.old _ (List.mem_of_getElem? qE) U2.out) ⟨x3,0,none⟩ 1 rfl [.slice ta j tc] rfl rfl (bZ (hN.at 0 rfl (by kernel_rfl) x3 rfl).1) (by intro u hu;simp at hu;rw[hu];rfl) (by show k+1<=maxLen;unfold maxLen;omega) (by show(k+1)*24<=_;omega) (Nat.le_trans (by omega) hM.size) (show(0:Nat)<1 from by decide) hM.size (fun v W2 g1 g2 g3 _=>⟨g1,g2,g3⟩)
       obtain⟨DN,DO,hv2⟩:=hv;replace hv2:v=.slice DN (k+1) DO:=hv2;subst hv2;go_simp;refine hK _ _ ?_;clear hK K
       repeat (refine RegG.ai (fun K hK=>?_);first | (refine RegG.br rfl ?_;try go_simp;refine hK _ _ ?_;clear hK K) | (refine RegG.aZ rfl rfl ?_;unfold ar;go_simp;refine hK _ _ ?_;clear hK K))
       refine RegG.ai (fun K hK=>?_);refine RegG.bA rfl rfl (jB.jd.row V6.heap.size wi PL Jq.out wi.heap.size (Nat.le_refl _) 3 1 ml mx) rfl (fun W hW hN=>?_) (fun v hv=>?_)
       ·have hM:=(HC.out W).1 hW
        clear hW hK K
        (go_simp;refine aT ((Jf.out W (zQ.out _ hM)).mono ?_);rintro e w2 ⟨um,rfl,ho,hx⟩;exact⟨_,rfl,.below hx,ownsRow_form ho,ax ho hM.size⟩)
       obtain⟨a9,c9,rfl⟩:=hv;go_simp;refine hK _ _ ?_;clear hK K;refine RegG.ai (fun K hK=>?_);refine RegG.bA rfl rfl (jB.jd.Ya V6.heap.size wi PL 37 (fun W u=>u.oneCell'=true/\W.ownsRow wi.heap.size 3 1 u ml mx) HST.out) rfl (fun W hW hN=>?_) (fun v hv=>?_)
       ·have hM:=(HC.out W).1 hW
        clear hW hK K
        (go_simp;exact⟨.below ((Ext.refl _).alloc _).below,⟨_,rfl⟩,fun b hb=>by cases hb;exact⟨⟨_,ak.new _ _ _,rfl,(show W.ownsRow wi.heap.size 3 1 (.slice a9 ml c9) ml mx from hN.at 0 rfl (by kernel_rfl)).alloc _⟩,Jq.out.fresh hM.size⟩⟩)
       obtain⟨ZW,rfl⟩:=hv;go_simp;refine hK _ _ ?_;clear hK K;refine RegG.ai (fun K hK=>?_);refine RegG.bA rfl rfl (jB.jd.Lr V6.heap.size wi PL (mkApp wi.heap.size (.slice ma k mc) k ms ml mx) (List.mem_of_getElem? rF)) rfl (fun W hW hN=>?_) (fun v hv=>?_)
       ·have hM:=(HC.out W).1 hW
        have hq:jB.After V6.heap.size wi (ri wi.heap.size (.slice na k nc) k us (.slice ta j tc)) W (.slice DN (k+1) DO):=hN.at 2 rfl (by kernel_rfl);obtain⟨⟨ub,hb1,hb2,hb3⟩,_⟩:=hN.at 0 rfl (by kernel_rfl) ZW rfl;clear hW hK K;refine jB.dB (w0:=wi) (PL:=PL) (p:=(mkApp wi.heap.size (.slice ma k mc) k ms ml mx)) (.tmp 74) (.tmp 81) 29 rfl iL (.slice none 0 0) 24 Tryz.underlying29 wW kQ kR kS rfl (show(0:Nat)<1 from by decide) Jq.out rF rfl (hM.old _ (List.mem_of_getElem? rF) M2.out) ⟨ZW,0,none⟩ 1 rfl [ub] ⟨ub,rfl,hb2,hb3⟩ rfl (bZ hb1) (by intro u hu;simp at hu;rw[hu];exact hb2) (by show k+1<=maxLen;unfold maxLen;omega) (by show(k+1)*24<=_;omega) (Nat.le_trans (by omega) hM.size) (show(0:Nat)<1 from by decide) hM.size (fun v W2 g1 g2 g3 g4=>⟨g1,g2,g3,?_⟩);rcases g4 with g4 | g4
        ·exact .inl g4
        ·refine .inr (.inr fun e=>?_)
         rw[g4]at e;obtain⟨⟨ns,h5,_⟩,_⟩:=hq;have:=(h5.lt _ e.symm).2;omega
       obtain⟨FJ,FK,hv2⟩:=hv;replace hv2:v=.slice FJ (k+1) FK:=hv2;subst hv2;go_simp;refine hK _ _ ?_;clear hK K
       repeat (refine RegG.ai (fun K hK=>?_);first | (refine RegG.br rfl ?_;try go_simp;refine hK _ _ ?_;clear hK K) | (refine RegG.aZ rfl rfl ?_;unfold ar;go_simp;refine hK _ _ ?_;clear hK K))
       refine RegG.aY (fun W7 hW hH=>?_);have hM:=(HC.out W7).1 hW;have Q0:Hid (jB.After V6.heap.size wi (ri wi.heap.size (.slice na k nc) k us (.slice ta j tc)) W7 (.slice DN (k+1) DO)):=hid (hH _ (List.mem_of_getElem? (show _=some _ from rfl:_[3]? =some _)));have Q1:Hid (jB.After V6.heap.size wi (mkApp wi.heap.size (.slice ma k mc) k ms ml mx) W7 (.slice FJ (k+1) FK)/\((Value.slice FJ (k+1) FK).ownBlock=(Value.slice ma k mc).ownBlock\/kU (.slice FJ (k+1) FK) (.slice DN (k+1) DO))):=hid (hH _ (List.mem_of_getElem? (show _=some _ from rfl:_[0]? =some _)));have K7:Hid (aa (fun x=>x<wi.heap.size/\¬ ∃ q∈PL,q.v.ownBlock=some x) wi W7):=hid hM.keeps
       have KR:Hid (∀ (e:TypeId) (bs sz m:Nat) (u:Value) (ys:List Value),e≠37->wi.ownsRow bs e sz u m ys->W7.ownsRow bs e sz u m ys):=hid (by
        intro e bs sz m u ys he ho;refine ae ho K7.out fun x hx=>⟨(ho.lt x hx).2,?_⟩
        rintro⟨q,hq,P0⟩;rcases zi.out q hq with rfl | rfl
        ·rcases ownBlock_ne he ho U2.out with h5 | h5
         ·rw[h5]at hx;cases hx
         ·exact h5 (hx.trans P0.symm)
        ·rcases ownBlock_ne he ho M2.out with h5 | h5
         ·rw[h5]at hx;cases hx
         ·exact h5 (hx.trans P0.symm))
       have B7:=hid (VX.out.keeps K7.out ⟨VX.out.lt,FI.out _ (.inl (by omega))⟩);have K8:Hid (aa (fun x=>x<V6.heap.size/\x≠w5.heap.size) V6 W7):=hid ((HX.out.tr (KI.out.mono fun x hx=>by have:=hx.1;show x<nB.heap.size;omega)).tr (K7.out.mono fun x hx=>⟨by have:=hx.1;omega,FI.out x (.inl hx.1)⟩))
       have O7:Hid (aC V6.heap.size W7 (.slice DN (k+1) DO) ((L.take (k+1)).map (oo d))):=hid (by
        obtain⟨⟨ns,h5,h6⟩,_⟩:=Q0.out;have h6:ns=[.slice ta j tc]:=h6;subst h6;rw[jW.out,List.map_append];refine aC.more U1.out Ki.out h5 (fun i u l hu hl=>KR.out _ _ _ _ _ _ (by decide) (U3.out i u l hu hl)) ?_;rw[HRL.out]
        exact ax (KR.out _ _ _ _ _ _ (by decide) TV.out) (by omega))
       have P7:Hid (aC V6.heap.size W7 (.slice FJ (k+1) FK) ((L.take (k+1)).map fun s=>d.mr.getD s [])):=hid (by
        obtain⟨⟨⟨ns,h5,u,h6,_,h7⟩,_⟩,_⟩:=Q1.out;have h6:ns=[u]:=h6;subst h6;rw[jW.out,List.map_append];refine aC.more M1.out HMS.out h5 (fun i u l hu hl=>KR.out _ _ _ _ _ _ (by decide) (M3.out i u l hu hl)) ?_;rw[<-xy.out, <-HMX.out]
        exact ax h7 (by omega))
       have FR:Hid (kU (.slice DN (k+1) DO) (.slice FJ (k+1) FK)):=hid (by
        rcases Q1.out.2 with h | h
        ·rcases Q0.out.2 with h' | h'
         ·rcases Vf.out with h3 | h3
          ·exact .inl (h'.trans h3)
          ·exact .inr (by rw[h',h];exact h3)
         ·by_cases e:(Value.slice DN (k+1) DO).ownBlock=none
          ·exact .inl e
          ·right
           intro e2;rw[h]at e2;cases e3:(Value.slice ma k mc).ownBlock with
           | none=>rw[e3]at e2;exact e e2
           | some x=>rw[e3]at e2;have:=h' x e2;have:=(L2'.out x e3).1;omega
        ·exact h.symm)
       clear hM hW hH HC o1 o2 o3 o4 qE rF Jq zi FI zQ HST K7 KR VX BI TV Q0 Q1 L1' L2' U1 U2 U3 M1 M2 M3 Ki HMS xy HMX Jf jW hne;obtain⟨⟨k0,k1,k2⟩,z0,z1,z2⟩:=B7.out.three;go_wp2;go_roundw;case rel=>
        have kg:aa (· ≠w5.heap.size) W7 ((W7.setCell ⟨w5.heap.size,1,none⟩ (.slice DN (k+1) DO)).setCell ⟨w5.heap.size,2,none⟩ (.slice FJ (k+1) FK)):=
         ((aa.refl _ _).setCell (p:=⟨w5.heap.size,1,none⟩) (fun h=>h rfl) _).setCell (p:=⟨w5.heap.size,2,none⟩) (fun h=>h rfl) _
        exact⟨k+1,_,_,by omega,by go_num,(B7.out.set 1 _).set 2 _,O7.out.keeps kg (fun x h1 _ e=>by omega),P7.out.keeps kg (fun x h1 _ e=>by omega),FR.out,K8.out.tr (kg.mono fun x hx=>hx.2)⟩
       case measure=>simp[intOf];omega
    ·obtain rfl:k=i:=by omega
     have ed:¬ ((k:Int)<k):=by omega
     have dw:L.take k=L:=List.take_of_length_le (by rw[<-HM.out];exact Nat.le_refl _);have NXF:=hid RI.out;have MKF:=hid RJ.out;rw[dw,HL.out]at NXF MKF;obtain⟨na,nc,rfl⟩:=NXF.out.form;obtain⟨ma,mc,rfl⟩:=MKF.out.form;obtain⟨⟨k0,k1,k2⟩,_⟩:=HB9.out.three;obtain⟨⟨l0,l1,l2⟩,z0,z1,z2⟩:=RO.out.three;clear dw;obtain⟨q1,Qt⟩:∃ q,q=((cB d).map (oo d)).length:=⟨_,rfl⟩;obtain⟨q2,XD⟩:∃ q,q=((cB d).map fun s=>d.mr.getD s []).length:=⟨_,rfl⟩;rw[<-Qt]at k1 NXF;rw[<-XD]at k2 MKF;rw[<-Qt, <-XD]at HB9;clear Qt XD;go_wp2;refine bC ?_;intro W9 gg;have E9:Hid (ak W9 (w.heap.size+1) #[.slice ca K cc,.slice na q1 nc,.slice ma q2 mc] 31/\aa (· ≠w.heap.size+1) nB W9):=by rw[gg];exact hid ⟨RO.out.tD,kC _ _ _ _ _⟩
     clear gg z0 z1 z2 k0 k1 k2 l0 l1 l2;obtain⟨⟨m0,m1,m2⟩,_⟩:=E9.out.1.three;refine bodyPost_ret (v:=.tuple #[.agg #[.slice ca K cc,.slice na q1 nc,.slice ma q2 mc],.int .i64 0]) (by simp[results,Tryz.results27,go_sem,m0,m1,m2]) rfl ⟨_,rfl,⟨_,_,_,rfl,?_,?_,?_⟩,XO.out.trans (E9.out.2.mono fun x (hx:x<w.heap.size)=>by show x≠w.heap.size+1;omega:aa (· <w.heap.size) nB W9).below⟩
     ·have h5:=ax (base':=w.heap.size) (ae CO.out E9.out.2 fun x e=>by have:=(CO.out.lt x e).1;show x≠_;omega) (by omega)
      show W9.ownsRow w.heap.size 70 4 _ d.cl.length _;rw[<-HK.out];exact h5
     ·exact(NXF.out.keeps E9.out.2 fun x h1 _=>by show x≠_;omega).base (by omega)
     ·exact(MKF.out.keeps E9.out.2 fun x h1 _=>by show x≠_;omega).base (by omega)
end Go.Proofs.YtbiboekhakbnpaaGreatDoor
