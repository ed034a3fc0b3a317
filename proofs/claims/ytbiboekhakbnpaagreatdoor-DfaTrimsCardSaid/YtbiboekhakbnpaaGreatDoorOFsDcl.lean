/- dfa.Reached. -/
import Derived.Test.YtbiboekhakbnpaaGreatDoorOF37
set_option maxRecDepth 100000
set_option maxHeartbeats 16000000
open Go.Lib (hid)
namespace Go.Proofs.YtbiboekhakbnpaaGreatDoor
open Go Go.RowKit Go.Shelf Go.Maps
attribute [local go_sem] encS
theorem JE (p:List BS) {c:Nat} (hc:c<256) (W:World):(Instr.index 102 (.agg (bB p)) (.int .u8 c)).run Tryz.prog W=.ok (.int .u8 (cls p c)) W:=by
 have h1:=j5 p hc;have h2:(c:Int)<256:=by omega
 simp[Instr.index,asIntOf,run_underlying Tryz.underlying102,part,Tryz.isAgg5,Tryz.sizeOf5,h1,go_sem];intro h;omega
theorem zC (v:Value) (d:DF) (sm:Sm d) (c:Nat) (hc:c<256) (w:World) (h:gN w v d): Calls Tryz.prog 20 #[v,.int .u8 c] w fun e w'=>e=.returned (if d.right then .tuple #[.int .i64 (cls d.cl c),.int .i64 0]else .tuple #[.int .i64 0,.int .i64 182])/\Below w.heap.size w w':=by
 have CR:Hid (∀ W,Below w.heap.size w W->Calls Tryz.prog 21 #[v] W fun e w'=>e=.returned (.bool d.right)/\Below W.heap.size W w'):=fun W hW=>fY v d W (h.below hW) sm
 have CT:Hid (d.right=true->∀ W,Below w.heap.size w W->Calls Tryz.prog 46 #[v] W fun e w'=>e=.returned (.agg (bB d.cl))/\Below W.heap.size W w'):=fun hr W hW=>ky v d ((cU d).1 hr) W (h.below hW)
 have N4:Hid (d.right=true->cls d.cl c<256):=fun hr=>by
  have rt:=(cU d).1 hr;have:=rt.part.lp hc;have:=rt.Ey;omega
 obtain⟨v0,v1,v2,rfl,h0,h1,h2⟩:=h;obtain⟨a0,c0,rfl⟩:=h0.1.form;obtain⟨a1,c1,rfl⟩:=h1.form;obtain⟨a2,c2,rfl⟩:=h2.form;generalize d.cl.length=n0 at*;generalize d.nx.length=n1 at*;generalize d.mr.length=n2 at*;clear h0 h1 h2 sm;obtain⟨r,hr⟩:∃ r,r=d.right:=⟨_,rfl⟩;rw[<-hr]at CR CT N4 ⊢;have SS:=fun W=>JE d.cl hc W
 obtain⟨q,hqq⟩:∃ q,q=cls d.cl c:=⟨_,rfl⟩;rw[<-hqq]at SS N4 ⊢;clear hqq;go_enter Tryz.func20,Tryz.ntmps20;go_wp2_with fail
 refine aw ?_;intro V hV;have B1:Hid (ak V w.heap.size #[.slice a0 n0 c0,.slice a1 n1 c1,.slice a2 n2 c2] 31):=by rw[hV];exact ak.new w _ _
 have X1:Hid (Below w.heap.size w V):=by rw[hV];exact((Ext.refl w).alloc _).below
 clear hV;refine(CR.out _ X1.out).mono ?_;rintro e w2 ⟨rfl,hx⟩;have B2:=hid (B1.out.below hx B1.out.lt);have X2:=hid (X1.out.trans (hx.mono X1.out.size));clear hx B1 X1;obtain⟨⟨k0,k1,k2⟩,_⟩:=B2.out.three;clear hr;cases r with
 | false=>
  go_wp2;refine bodyPost_ret (v:=.tuple #[.int .i64 0,.int .i64 182]) (by simp[results,Tryz.results20,go_sem]) rfl ⟨rfl,X2.out⟩
 | true=>
  have hq:=N4.out (by trivial);have cv:=IntWalk.i64_in (q:Int) (by omega);go_wp2_with fail
  refine(CT.out (by trivial) _ X2.out).mono ?_;rintro e w3 ⟨rfl,hx⟩;have X3:=hid (X2.out.trans (hx.mono X2.out.size));clear hx;go_wp2;refine bodyPost_ret (v:=.tuple #[.int .i64 q,.int .i64 0]) (by simp[results,Tryz.results20,go_sem]) rfl ⟨rfl,X3.out⟩
end Go.Proofs.YtbiboekhakbnpaaGreatDoor
namespace Go.Proofs.YtbiboekhakbnpaaGreatDoor
open Go Go.RowKit Go.Shelf Go.Maps
theorem rJ (v:Value) (d:DF) (rt:Rt d) (sm:Sm d) (w:World) (h:gN w v d): Calls Tryz.prog 28 #[v] w fun e w'=>∃ u,e=.returned (.tuple #[u,.int .i64 0])/\w'.ownsRow w.heap.size 3 1 u (cB d).length ((cB d).map jr)/\Below w.heap.size w w':=by
 obtain⟨iI,GN,pE,pF,pG⟩:=info_parts Tryz.qW;have CR:Hid (∀ W,Below w.heap.size w W->Calls Tryz.prog 21 #[v] W fun e w'=>e=.returned (.bool true)/\Below W.heap.size W w'):=fun W hW=>by
  have:=fY v d W (h.below hW) sm;rwa[(cU d).2 rt]at this
 obtain⟨v0,v1,v2,rfl,h0,h1,h2⟩:=h;obtain⟨a0,c0,rfl⟩:=h0.1.form;obtain⟨a1,c1,rfl⟩:=h1.form;obtain⟨a2,c2,rfl⟩:=h2.form;have DK:=rt.mr;rw[DK]at h2 CR ⊢;obtain⟨n,hn⟩:∃ n,n=d.nx.length:=⟨_,rfl⟩;obtain⟨K,hK⟩:∃ n,n=d.cl.length:=⟨_,rfl⟩;have Sz:n<=4000:=by have:=rt.le;omega
 have fL:1<=n:=by have:=rt.pos;omega
 have hK2:K<=256:=by have:=rt.Ey;omega
 rw[<-hn]at h1 h2 CR ⊢;rw[<-hK]at h0 CR ⊢;have H1:=hid h1;have HN:=hid hn;have HK:=hid hK;have RT:=hid rt;clear h0 h1 h2 hn hK DK rt sm;go_enter Tryz.func28,Tryz.ntmps28;go_wp2_with fail
 refine aw ?_;intro V hV;have B1:Hid (ak V w.heap.size #[.slice a0 K c0,.slice a1 n c1,.slice a2 n c2] 31):=by rw[hV];exact ak.new w _ _
 have X1:Hid (Below w.heap.size w V):=by rw[hV];exact((Ext.refl w).alloc _).below
 clear hV;refine(CR.out V X1.out).mono ?_;rintro e w2 ⟨rfl,hx⟩;have C1:=hid (B1.out.below hx B1.out.lt);have RY:w.heap.size<w2.heap.size:=C1.out.lt;have X2:=hid (X1.out.trans (hx.mono X1.out.size));clear hx B1 X1 CR;have XB:Hid (∀ W,aa (fun x=>x<w2.heap.size) w2 W->Below w.heap.size w W):=hid fun W k=>X2.out.trans (k.mono fun x (hx:x<w.heap.size)=>by show x<w2.heap.size;omega:aa (· <w.heap.size) w2 W).below
 go_upto_region 4 with fail
 refine au ?_;intro V3 cg;have O3:Hid (ak V3 w2.heap.size #[.int .i64 0] 3):=by rw[cg];exact ak.new _ _ _
 have K3:Hid (aa (fun x=>x<w2.heap.size) w2 V3):=by rw[cg];exact hid (aa.ah ((Ext.refl _).alloc _).below fun x h=>h)
 have hs3:w2.heap.size<V3.heap.size:=by rw[cg];simp
 clear cg;have D1:=hid (C1.out.keeps K3.out RY);obtain⟨⟨k0,k1,k2⟩,_⟩:=D1.out.three;go_wp2_with (at_make;refine wpList_make_full _ rfl (.tmp 15) (.tmp 15) 37 rfl V3.heap.size 3 iI (.int .i64 0) 1 Tryz.underlying37 GN pE pF .i64 .i64 _ _ n rfl rfl rfl rfl (by rw[pG];omega) (by unfold maxLen;omega) (Nat.le_refl _) ?_;intro w3 hr hg;refine Hid.out ?_);refine hid ?_;have OO:V3.heap.size<w3.heap.size:=by
  rcases hr.2 with⟨h5,_⟩ | ⟨g,c,cur,h5,_,h6,_⟩
  ·cases h5
  ·cases h5;exact(Array.getElem?_eq_some_iff.1 h6).1
 have hb3:Below V3.heap.size V3 w3:=(aa.aW hg fun x hx=>⟨hx,fun e=>by cases e⟩:aa (· <V3.heap.size) V3 w3).below;rw[wO]at hr;have R3:=hid hr;have O4:=hid (O3.out.below hb3 O3.out.lt);have K4:Hid (aa (fun x=>x<w2.heap.size) w2 w3):=hid (K3.out.tr (aa.ah hb3 fun x (hx:x<w2.heap.size)=>by omega));clear hr hg hb3 k0 k1 k2 D1 O3 K3;obtain⟨g5,hg5⟩:∃ g,g=V3.heap.size:=⟨_,rfl⟩;rw[<-hg5]at R3 hs3 OO ⊢;clear hg5;have f0:w3.frozen? ⟨g5,0,none⟩=false:=R3.out.frozenAt 0;have f1:w3.cell? ⟨g5,0,none⟩=some (.int .i64 0):=by rw[R3.out.cellAt 0 (by omega),List.getElem?_map,List.getElem?_replicate,if_pos (by omega)];rfl
 have hni:(0:Int)<n:=by omega
 go_wp2;clear f0 f1;go_loopw [4,6] (fun ov iv wr=>∃ (i:Nat) (L:List Nat),iv=.int .i64 i/\L=jz d i/\i<=L.length/\wr.ownsRow w2.heap.size 3 1 ov L.length (L.map jr)/\ov.ownBlock≠some g5/\wr.ownsRow g5 3 1 (.slice (some ⟨g5,0,none⟩) n n) n ((lZ n L).map aF)/\aa (fun x=>x<w2.heap.size) w2 wr/\w3.heap.size<=wr.heap.size) (fun _ iv _=>n-(intOf iv).toNat);case atStart=>
  have kg:aa (· ≠g5) w3 (w3.setCell ⟨g5,0,none⟩ (.int .i64 1)):=(aa.refl (· ≠g5) _).setCell (p:=⟨g5,0,none⟩) (fun h=>h rfl) _;refine⟨0,[0],rfl,rfl,Nat.zero_le _,?_,?_,?_,K4.out.tr (kg.mono fun x (hx:x<w2.heap.size)=>by show x≠g5;omega),kg.size⟩
  ·exact⟨rfl,.inr ⟨w2.heap.size,1, #[.int .i64 0],rfl,Nat.le_refl _,O4.out.keeps kg (by show w2.heap.size≠g5;omega),Nat.le_refl _,by unfold maxLen;omega,rfl,rfl⟩⟩
  ·intro e
   have:w2.heap.size=g5:=by simpa[Value.ownBlock]using e
   omega
  ·rw[<-C3 (by omega),List.map_set]
   exact(R3.out.stored 0 _).1
 case round=>
  obtain⟨i,L,rfl,hL,wW,ho,hne,pV,hx,hsz⟩:=hrel;obtain⟨wo,rfl⟩:∃ wo:World,wo=wr:=⟨_,rfl⟩;have IL:Hid (Hg n L):=hid (by rw[hL,HN.out];exact uL RT.out i);have Vr:=IL.out.len;have HX:=hid hx;have HO:=hid ho;have HS:=hid pV;have HNE:=hid hne;have HL:=hid hL;clear hx ho pV hne hL;obtain⟨m,hm⟩:∃ m,m=L.length:=⟨_,rfl⟩;rw[<-hm]at HO wW Vr;have HM:=hid hm;clear hm;obtain⟨oa,oc,rfl⟩:=ownsRow_form HO.out;by_cases hlt:i<m
  ·obtain⟨s,hs⟩:∃ s,L[i]? =some s:=⟨_,List.getElem?_eq_getElem (by have:=HM.out;omega)⟩
   have pV:s<n:=IL.out.lt s (List.mem_of_getElem? hs);obtain⟨og,ou,rfl,hog1,hog2,Kj,CU,_⟩:=eH HO.out hlt;rw[List.getElem?_map,hs]at Kj;cases Kj;replace CU:wo.cell? ⟨og,i,none⟩=some (.int .i64 s):=CU;have hrow:d.nx[s]? =some (d.nx.getD s []):=by rw[List.getD_eq_getElem?_getD,List.getElem?_eq_getElem (by rw[<-HN.out];exact pV)];rfl
   obtain⟨b,off,a',c',rfl,hb,hc,dI⟩:=H1.out.elem hrow;have D4:(d.nx.getD s []).length=K:=by rw[HK.out];exact RT.out.len s (by rw[<-HN.out];exact pV)
   rw[D4]at hc dI;replace hc:wo.cell? ⟨b,off+s,none⟩=some (.slice a' K c'):=((aa.ah (XB.out wo HX.out) fun _ h=>h:aa (· <w.heap.size) w wo).cell (p:=⟨b,off+s,none⟩) hb).trans hc;replace hb:b<wo.heap.size:=Nat.lt_of_lt_of_le hb (XB.out wo HX.out).size;have BW:=hid (C1.out.keeps HX.out RY);have DC:=hid dI;have Ww:Hid (∀ k,k<K->∃ t:Nat,t<n/\(d.nx.getD s [])[k]? =some (t:Int)/\(mX d s)[k]? =some t):=hid fun k hk=>by
    obtain⟨t,e1,e2,e3⟩:=FX RT.out (s:=s) (k:=k) (by rw[<-HN.out];exact pV) (by rw[<-HK.out];exact hk);exact⟨t,by rw[HN.out];exact e1,e2,e3⟩
   have Vt:Hid (jz d (i+1)=(mX d s).foldl dG L/\(mX d s).length=K):=hid ⟨by rw[uM (by rw[<-HL.out];exact hs), <-HL.out],by rw[HK.out];exact sB RT.out (by rw[<-HN.out];exact pV)⟩;have hii:(i:Int)<m:=by omega
   have JP:(s:Int)<n:=by omega
   have Pe:=BW.out.cell 1;simp only[List.getElem?_toArray,List.getElem?_cons_zero,List.getElem?_cons_succ]at Pe;clear hs dI hrow D4;go_upto_region 9 with fail
   refine aA false (fun _=>False) (by kernel_rfl) 10 [0,1,0,0,12,28,63,127,255,0] (fun i=>false) (by kernel_rfl) (fun i=>aO.any _) ?_;intro C hC hne;have HC:=hid hC;have q1:=ay hC (p:=⟨w.heap.size,1,none⟩) BW.out.lt (fun h=>h) Pe;have q2:=ay hC (p:=⟨og,i,none⟩) hog2 (fun h=>h) CU;have q3:=ay hC (p:=⟨b,off+s,none⟩) hb (fun h=>h) hc;clear hC
   repeat (refine ai (fun K hK=>?_);first | (refine br rfl ?_;try go_simp;refine hK _ _ ?_;clear hK K) | (refine aZ rfl rfl ?_;unfold ar;go_simp;refine hK _ _ ?_;clear hK K))
   refine aY (fun W hW hH=>?_);have hM:=(HC.out W).1 hW;have ny:=hM.below;have WO:=hid (ag HO.out ny);have WS:=hid (ag HS.out ny);have WX:Hid (aa (fun x=>x<w2.heap.size) w2 W):=hid (HX.out.tr (aa.ah ny fun x (hx:x<w2.heap.size)=>Nat.lt_of_lt_of_le hx HX.out.size));have WB:=hid (BW.out.below ny BW.out.lt);have vU:w3.heap.size<=W.heap.size:=Nat.le_trans hsz ny.size;clear hM ny hW hH HC q1 q2 q3 hne HO HS HX BW Pe CU hc;go_wp2;go_loopw [4,34] (fun ov jv wr=>∃ (j:Nat) (L':List Nat),j<=K/\jv=.int .i64 j/\L'=((mX d s).take j).foldl dG L/\wr.ownsRow w2.heap.size 3 1 ov L'.length (L'.map jr)/\ov.ownBlock≠some g5/\wr.ownsRow g5 3 1 (.slice (some ⟨g5,0,none⟩) n n) n ((lZ n L').map aF)/\aa (fun x=>x<w2.heap.size) w2 wr/\w3.heap.size<=wr.heap.size) (fun _ jv _=>K-(intOf jv).toNat);case atStart=>exact⟨0,L,Nat.zero_le _,rfl,rfl,by rw[<-HM.out];exact WO.out,HNE.out,WS.out,WX.out,vU⟩
   case round=>
    obtain⟨j,L',hj,rfl,hL',ho,hne,hsn',hx,hsz'⟩:=hrel;obtain⟨wi,rfl⟩:∃ wi:World,wi=wr:=⟨_,rfl⟩
    have IL':Hid (Hg n L'):=hid (by
     rw[hL'];refine IL.out.fold _ fun t ht=>?_
     have:=zk RT.out (s:=s) (by rw[<-HN.out];exact pV) t (List.mem_of_mem_take ht)
     rw[HN.out];exact this)
    have aeV:=IL'.out.len;have HO:=hid ho;have HS:=hid hsn';have HX:=hid hx;have N7:=hid hne;have HL':=hid hL';clear ho hsn' hx hne hL';obtain⟨m',hm'⟩:∃ m,m=L'.length:=⟨_,rfl⟩;rw[<-hm']at HO aeV;have WZ:=hid hm';clear hm';obtain⟨oa,oc',rfl⟩:=ownsRow_form HO.out;by_cases JS:j<K
    ·obtain⟨t,sy,hz,Dw⟩:=Ww.out j JS
     obtain⟨b',off',rfl,hb',hc'⟩:=(DC.out.below (XB.out wi HX.out)).elem hz;replace hc':wi.cell? ⟨b',off'+j,none⟩=some (.int .i64 (t:Int)):=hc';have jA:(j:Int)<K:=by omega
     have hti:(t:Int)<n:=by omega
     have hstep:((mX d s).take (j+1)).foldl dG L=dG L' t:=by rw[Jy L Dw,HL'.out]
     obtain⟨sg,su,se,_,hsg,hsu,hsc,hsf⟩:=eH HS.out sy;cases se;rw[List.getElem?_map,pP _ sy]at hsu;by_cases il:t∈L'
     ·rw[if_pos il]at hsu
      cases hsu
      have hst:dG L' t=L':=by unfold dG;rw[if_pos il]
      rw[hst]at hstep;replace hsc:wi.cell? ⟨g5,t,none⟩=some (.int .i64 1):=hsc;have HST:=hid hstep;clear hstep hst hz Dw;go_wp2;go_roundw;case rel=>exact⟨j+1,L',by omega,by go_num,HST.out.symm,by rw[<-WZ.out];exact HO.out,N7.out,HS.out,HX.out,hsz'⟩
      case measure=>simp[intOf];omega
     ·rw[if_neg il]at hsu
      cases hsu
      have hst:dG L' t=L'++ [t]:=by unfold dG;rw[if_neg il]
      rw[hst]at hstep;replace hsc:wi.cell? ⟨g5,t,none⟩=some (.int .i64 0):=hsc;have HST:=hid hstep;have ahV:m'+1<=n:=by
       have:=(IL'.out.add sy).len;rw[hst,List.length_append]at this;have:=WZ.out;simp at*;omega
      clear hstep hst hz Dw;go_upto_region 14 with fail
      refine au ?_;intro W3 hW3;have kg:aa (· ≠g5) wi W3:=by rw[hW3];exact(aa.refl (· ≠g5) _).setCell (p:=⟨g5,t,none⟩) (fun h=>h rfl) _
      have S3:Hid (W3.ownsRow g5 3 1 (.slice (some ⟨g5,0,none⟩) n n) n ((lZ n (L'++ [t])).map aF)):=hid (by
       rw[<-xI L' sy,List.map_set,hW3]
       exact(HS.out.stored t _).1)
      have U3:Hid (W3.ownsRow w2.heap.size 3 1 (.slice oa m' oc') m' (L'.map jr)):=hid (ae HO.out kg fun x hx e=>N7.out (by rw[hx,e]));have Y3:Hid (aa (fun x=>x<w2.heap.size) w2 W3):=hid (HX.out.tr (kg.mono fun x (hx:x<w2.heap.size)=>by show x≠g5;omega));have hs5:w3.heap.size<=W3.heap.size:=Nat.le_trans hsz' kg.size;clear hW3 kg HO HS HX hsc hsf hc';go_wp2_with (at_builtin;refine wpList_append_own_at _ rfl (.tmp 46) (.tmp 48) 37 rfl w2.heap.size 3 iI (.int .i64 0) 1 8 Tryz.underlying37 GN pE pF pG rfl (by decide) _ _ _ rfl (U3.out.alloc _) ⟨W3.heap.size,0,none⟩ 1 1 [jr t] rfl rfl (dV _ _ _) (by simp[Value.oneCell',jr]) (by unfold maxLen;omega) (by omega) (by simp;omega) ?_;intro v' w6 hown' hgrow hh hat;have jq:=hid hown';have HG:=hid hgrow;clear hown' hgrow hh);go_roundw;case rel=>
       have hs6:W3.heap.size<=w6.heap.size:=by have:=HG.out.size;simp at this;omega
       have vq:∀ x,(Value.slice oa m' oc').ownBlock=some x->w2.heap.size<=x:=fun x hx=>(U3.out.lt x hx).1
       refine⟨j+1,L'++ [t],by omega,by go_num,HST.out.symm,?_,?_,?_,?_,by omega⟩
       ·rw[List.length_append, <-WZ.out,List.map_append]
        exact jq.out
       ·intro e
        rcases hat with h5 | h5
        ·exact N7.out (h5.symm.trans e)
        ·rw[h5]at e
         have h6:(W3.alloc (.cells #[jr t] 3)).heap.size=g5:=by simpa using e
         simp at h6;omega
       ·refine(S3.out.alloc _).kept HG.out (.inr fun e=>?_)
        exact N7.out e.symm
       ·exact(Y3.out.tr (aa.ah ((Ext.refl _).alloc _).below fun x (hx:x<w2.heap.size)=>by omega)).tr (aa.aW HG.out fun x (hx:x<w2.heap.size)=>⟨by simp;omega,fun e=>by have:=vq x e.symm;omega⟩)
      case measure=>simp[intOf];omega
    ·obtain rfl:j=K:=by omega
     have jA:¬ ((j:Int)<j):=by omega
     have jC:L'=jz d (i+1):=by rw[HL'.out,Vt.out.1,List.take_of_length_le (by rw[Vt.out.2];exact Nat.le_refl _)]
     have HF:=hid jC;clear jC;have s5:m<=m':=by rw[HM.out,WZ.out,HL'.out];exact CY _ _
     go_wp2;go_roundw;case rel=>exact⟨i+1,L',by go_num,HF.out,by have:=WZ.out;omega,by rw[<-WZ.out];exact HO.out,N7.out,HS.out,HX.out,hsz'⟩
     case measure=>simp[intOf];omega
  ·obtain rfl:i=m:=by omega
   have hii:¬ ((i:Int)<i):=by omega
   have jC:cB d=L:=by rw[HL.out];exact C0 (by rw[<-HL.out, <-HM.out];exact Nat.le_refl _) (by rw[<-HN.out];exact Vr)
   have HF:=hid jC;clear jC;go_wp2;refine bodyPost_ret (v:=.tuple #[.slice oa i oc,.int .i64 0]) (by simp[results,Tryz.results28,go_sem]) rfl ?_;exact⟨_,rfl,by rw[HF.out, <-HM.out];exact ax HO.out (Nat.le_of_lt RY),X2.out.trans (HX.out.mono fun x (hx:x<w.heap.size)=>by show x<w2.heap.size;omega:aa (· <w.heap.size) w2 wo).below⟩
end Go.Proofs.YtbiboekhakbnpaaGreatDoor
