/- (*maker).state: the number of a state, which may be new. -/
import Derived.Test.YtbiboekhakbnpaaGreatDoorOF18
set_option maxRecDepth 100000
set_option maxHeartbeats 16000000
open Go.Lib (hid)
namespace Go.Proofs.YtbiboekhakbnpaaGreatDoor
open Go Go.RowKit Go.Shelf Go.Maps
def eW (ps:List PT) (row:List (List Int)) (k:Nat):List Int:=((List.zip ps row).take k).filterMap fun y=>if y.1.nf.acc y.2 then some y.1.mark else none
theorem FM {ps:List PT} {row:List (List Int)} {k:Nat} {x:PT} {l:List Int} (hx:ps[k]? =some x) (hl:row[k]? =some l):eW ps row (k+1)=eW ps row k++if x.nf.acc l then [x.mark]else []:=by
 have hz:(List.zip ps row)[k]? =some (x,l):=by rw[List.getElem?_zip_eq_some];exact⟨hx,hl⟩
 unfold eW;rw[List.take_add_one,hz,List.filterMap_append];by_cases h:x.nf.acc l=true<;>simp[h]
theorem Js {ps:List PT} {row:List (List Int)} (h:row.length=ps.length):eW ps row ps.length=fF ps row:=by unfold eW fF;rw[List.take_of_length_le];rw[List.length_zip,h];omega
theorem Jt (ps:List PT) (row:List (List Int)) (k:Nat):(eW ps row k).length<=k:=by unfold eW;exact Nat.le_trans (List.length_filterMap_le _ _) (by rw[List.length_take];omega)
def Vg (F:Nat→Prop) (base mb ob f:Nat) (pv cv:Value) (ps:List PT) (rows:List (List (List Int))) (nx:List (List Int)) (r:List (List Int)) (w1 w:World) (e:Ending) (w':World):Prop:=
  aa (fun x=>x<w1.heap.size∧(x<base∨¬F x)) w w'∧
  ((r∈rows∧e=.returned (.int .i64 (Ue rows r))∧Sn F w' base mb ob f pv cv ps rows nx)∨
   (r∉rows∧rows.length<f∧e=.returned (.int .i64 rows.length)∧Sn F w' base mb ob f pv cv ps (rows++ [r]) nx)∨
   (r∉rows∧f≤rows.length∧e=.panicked [{v:=.iface 146 (.agg #[]),recovered:=false}]))
theorem xF (F:Nat->Prop) (base mb ob f:Nat) (pv cv:Value) (ps:List PT) (rows:List (List (List Int))) (nx:List (List Int)) (ok:Qh ps) (w1 w:World) (hM:Sn F w1 base mb ob f pv cv ps rows nx) (hk:Below w1.heap.size w1 w) (hF:∀ x,w1.heap.size<=x->F x) (lv:Value) (r:List (List Int)) (hl:aC w1.heap.size w lv r) (hr:nk ps r) (hn:rows.Nodup) (SQ:∀ p∈rows,nk ps p) (hf:f<=4000) (hlen:rows.length<=f) (hP:∀ W,Below base w1 W->dh W pv ps) (hT:∀ W,Below base w1 W->gO W): Calls Tryz.prog 81 #[.pointer (some ⟨mb,0,none⟩),lv] w fun e w'=>Vg F base mb ob f pv cv ps rows nx r w1 w e w':=by
 obtain⟨iLL,aep,ZA,ZE,ZH⟩:=info_parts Tryz.Up;obtain⟨iL,wW,kQ,kR,kS⟩:=info_parts Tryz.oZ;obtain⟨iI,GN,pE,pF,pG⟩:=info_parts Tryz.qW;obtain⟨sv,nv,kv,us,ns,ks,M⟩:=hM;have hb1:base<=w1.heap.size:=Nat.le_trans M.bm (Nat.le_of_lt M.blk.lt);have HB0:Hid (Below base w1 w):=hid (hk.mono hb1);have CK:Hid (Calls Tryz.prog 118 #[lv] w fun e w'=>e=.returned (qw r)/\Below w.heap.size w w'):=hid (Qg lv r (yD ok hr) w hl.ll fun W hW=>hT W (HB0.out.trans (hW.mono (Nat.le_trans hb1 hk.size))));have MW:=hid (M.below hk);have M1:=hid M;have HK:=hid hk;have HL:=hid hl;have KI:Hid (∀ p∈rows,nr p):=hid fun p hp=>(yD ok (SQ p hp)).in
 have KR:Hid (nr r):=hid (yD ok hr).in;have HP:=hid hP;have OK:=hid ok;have HR:=hid hr;have HNn:=hid hn;have HF:=hid hF;obtain⟨L,hL⟩:∃ L,L=rows.length:=⟨_,rfl⟩;have zO:=hid hL;have hLf:L<=f:=by omega
 have hst:=M.st.1;rw[<-hL]at hst;obtain⟨sa,sc,rfl⟩:=ownsRow_form hst;obtain⟨la,lc,rfl⟩:=hl.form;obtain⟨K0,Hz⟩:∃ z,z=qw r:=⟨_,rfl⟩;obtain⟨n,Bh⟩:∃ z,z=ps.length:=⟨_,rfl⟩;have qx:n<=64:=by rw[Bh];exact ok.1
 obtain⟨pa,pc,rfl⟩:=(hP w1 (Below.refl _ _)).form;rw[<-Bh]at MW M1 HP hP M ⊢;have DR:=hid Bh;rw[<-Hz]at CK;have Xu:=hid Hz;have Vh:base<=w.heap.size:=Nat.le_trans hb1 hk.size;clear M hk hl hr hn SQ hP hT hF hL hst Hz ok hlen Bh;go_enter Tryz.func81,Tryz.ntmps81;go_wp2_with fail
 refine CK.out.mono ?_;rintro e wa ⟨rfl,hx⟩;have MA:=hid (MW.out.below hx);have XA:=hid hx;have LA:=hid (HL.out.below hx);clear hx MW CK;obtain⟨m0,m1,m2,m3,m4,m5,m6⟩:=MA.out.blk.seven;have Gn:=Qf MA.out.map HNn.out KI.out r KR.out;rw[<-Xu.out]at Gn;rcases Gn with⟨hq,hlk⟩ | ⟨hq,hlk⟩
 ·have HQ:=hid hq
  clear hq;go_wp2_with fail
  by_cases zN:f<=L
  ·have hfi:(f:Int)<=(L:Int):=by omega
   have d1:decide ((f:Int)<=(L:Int))=true:=decide_eq_true hfi
   go_quiet (fail)
   go_wp2_with fail
   exact⟨rfl,(aa.ah XA.out fun x hx=>Nat.lt_of_lt_of_le hx.1 HK.out.size:aa (fun x=>x<w1.heap.size/\(x<base\/¬F x)) w wa).drewN _,.inr (.inr ⟨HQ.out,by rw[<-zO.out];exact zN,rfl⟩)⟩
  ·have hfi:¬ ((f:Int)<=(L:Int)):=by omega
   have d1:decide ((f:Int)<=(L:Int))=false:=decide_eq_false hfi
   go_quiet (fail)
   go_wp2_with fail
   refine au ?_;intro wb Vi;have MB:Hid (Mk F wb base mb ob f (.slice pa n pc) cv ps rows nx (.slice sa L sc) nv kv us ns ks):=hid (by rw[Vi];exact MA.out.keeps ((aa.refl (fun _=>True) wa).drewN _) fun _ _ _=>trivial);have LB:Hid (aC w1.heap.size wb (.slice la r.length lc) r):=hid (by rw[Vi];exact LA.out);have XB:Hid (Below w.heap.size w wb):=hid (by rw[Vi];exact((aa.ah XA.out fun _ h=>h:aa (· <w.heap.size) w wa).drewN _).below);have aer:wb.heap.size=wa.heap.size:=by rw[Vi];rfl
   clear Vi m0 m1 m2 m3 m4 m5 m6 MA LA XA hlk;obtain⟨m0,m1,m2,m3,m4,m5,m6⟩:=MB.out.blk.seven;refine aA false (fun _=>False) (by kernel_rfl) 10 [0,1,3,7,0,0,32,96,224,480,1023] (fun i=>i==10) (by kernel_rfl) (fun _=>aO.any _) ?_;intro C hC hne;have HC:=hid hC;have f2:=ay hC (p:=⟨mb,2,none⟩) MB.out.blk.lt (fun h=>h) m2;have f3:=ay hC (p:=⟨mb,3,none⟩) MB.out.blk.lt (fun h=>h) m3;clear hC m0 m1 m2 m3 m4 m5 m6
   repeat (refine ai (fun K hK=>?_);first | (refine br rfl ?_;try go_simp;refine hK _ _ ?_;clear hK K) | (refine aZ rfl rfl ?_;unfold ar;go_simp;refine hK _ _ ?_;clear hK K))
   refine aY (fun wm hW hH=>?_);have ie:=(HC.out wm).1 hW;have MW:=hid (MB.out.below ie.below);have LW:=hid (LB.out.below ie.below);have XW:=hid (XB.out.trans (ie.below.mono XB.out.size));clear ie hW hH HC hne f2 f3 MB LB XB aer;obtain⟨wc,hput,SR,zL,Vj⟩:=Uf (w:=wm) MW.out.map KI.out r KR.out HQ.out;rw[<-Xu.out, <-zO.out]at hput;have BC:=hid (MW.out.blk.keeps zL (fun e=>by have h1:=MW.out.map;have h2:wm.heap[mb]? =_:=MW.out.blk;rw[e]at h2;have h3:wm.heap[ob]? =_:=h1;rw[h2]at h3;cases h3));have SC:Hid (wc.ownsRow base 29 1 (.slice sa L sc) L us):=hid (by have h5:=ae MW.out.st.1 zL (fun x hx=>qD MW.out.st.1 MW.out.map (fun c fz e=>by cases e) x hx);rw[<-zO.out]at h5;exact h5);have hbc:base<=wc.heap.size:=by rw[Vj];exact Nat.le_trans Vh XW.out.size
   have QK:=hid Vj;clear Vj;obtain⟨c0,c1,c2,c3,c4,c5,c6⟩:=BC.out.seven;go_wp2_with (at_builtin;refine Hid.out ?_);refine hid ?_;refine wpList_append_own_at _ rfl (.tmp 52) (.tmp 54) 93 rfl base 29 iLL (.slice none 0 0) 1 24 Tryz.underlying93 aep ZA ZE ZH rfl (by decide) _ _ _ rfl (SC.out.alloc _) ⟨wc.heap.size,0,none⟩ 1 1 [.slice la r.length lc] rfl rfl (dV _ _ _) (by simp[Value.oneCell']) (by unfold maxLen;omega) (by omega) (by simp;omega) ?_;intro v' wd hown' hgrow hh hat;have HO:=hid hown';have HG:=hid hgrow;have Le:=hid hat;clear hown' hgrow hh hat;obtain⟨ZI,WN,rfl⟩:=ownsRow_form HO.out;have BD:=hid ((BC.out.alloc _).grown HG.out (fun e=>bI BC.out SC.out (by decide) mb e.symm rfl));clear c0 c1 c2 c3 c4 c5 c6 hput;obtain⟨c0,c1,c2,c3,c4,c5,c6⟩:=BD.out.seven;have z2:=BD.out.frozen 2;go_wp2;refine au ?_;intro we WQ;have BE:Hid (ak we mb #[.slice pa n pc,.int .i64 f,.slice ZI (L+1) WN,.map (some ob),cv,nv,kv] 95):=hid (by rw[WQ];exact BD.out.set 2 _);have Vk:∀ x,(Value.slice sa L sc).ownBlock=some x->base<=x/\x<w1.heap.size:=fun x e=>M1.out.st.1.lt x e
   have KG:Hid (aa (fun x=>x<wm.heap.size/\(Value.slice sa L sc).ownBlock≠some x) wc wd):=hid (((aa.refl _ _).alloc (fun x hx=>by rw[QK.out];exact hx.1) _).tr (aa.aW HG.out fun x hx=>⟨by have:=hx.1;rw[<-QK.out]at this;simp;omega,fun e=>hx.2 e.symm⟩))
   have KE:Hid (aa (fun x=>x<wm.heap.size/\x≠ob/\x≠mb/\(Value.slice sa L sc).ownBlock≠some x) wm we):=hid (by
    rw[WQ]
    exact((zL.mono fun x hx=>hx.2.1).tr (KG.out.mono fun x hx=>⟨hx.1,hx.2.2.2⟩)).setCell (fun h=>h.2.2.1 rfl) _)
   have SE:Hid (we.ownsRow base 29 1 (.slice ZI (L+1) WN) (L+1) (us++ [.slice la r.length lc])):=hid (by
    rw[WQ]
    exact ae HO.out ((aa.refl (· ≠mb) wd).setCell (p:=⟨mb,2,none⟩) (fun h=>h rfl) _) fun x hx=>bI BD.out HO.out (by decide) x hx)
   have ME:Hid (ki we ob (rows++ [r])):=hid (by
    rw[WQ];have h5:ob≠mb:=fun e=>by
     have h2:wc.heap[mb]? =_:=BC.out;have h3:wc.heap[ob]? =_:=SR;rw[e,h2]at h3;cases h3
    have h6:ki wd ob (rows++ [r]):=SR.keeps KG.out ⟨by rw[<-QK.out];exact SR.lt,fun e=>qD SC.out SR (fun c fz e=>by cases e) ob e rfl⟩
    exact h6.keeps ((aa.refl (· ≠mb) wd).setCell (p:=⟨mb,2,none⟩) (fun h=>h rfl) _) h5)
   have XE:Hid (Below base w1 we):=hid ((HB0.out.trans (XW.out.mono Vh)).trans (KE.out.mono fun x hx=>⟨Nat.lt_of_lt_of_le (Nat.lt_of_lt_of_le hx Vh) XW.out.size,by have h1:x<base:=hx;have:=M1.out.bo;omega,by have h1:x<base:=hx;have:=M1.out.bm;omega,fun e=>by have h1:x<base:=hx;have:=(Vk x e).1;omega⟩:aa (· <base) wm we).below);have LE:Hid (aC w1.heap.size we (.slice la r.length lc) r):=hid (LW.out.keeps KE.out fun x h1 h2=>⟨h2,by have:=M1.out.map.lt;omega,by have:=M1.out.blk.lt;omega,fun e=>by have:=(Vk x e).2;omega⟩);have hrn:r.length=n:=by rw[DR.out];exact HR.out.1
   have HRN:=hid hrn;have ZJ:base<=we.heap.size:=by rw[WQ];have:=BD.out.lt;have:=M1.out.bm;simp;omega
   clear WQ c0 c1 c2 c3 c4 c5 c6 z2 hrn Vk;go_loopw [8,63] (fun mv iv wr=>∃ k:Nat,k<=n/\iv=.int .i64 k/\wr.ownsRow we.heap.size 3 1 mv (eW ps r k).length ((eW ps r k).map aF)/\Below we.heap.size we wr) (fun _ iv _=>n-(intOf iv).toNat);case atStart=>exact⟨0,by omega,rfl,World.ownsRow_nil _ _ _ _,Below.refl _ _⟩
   case round=>
    obtain⟨k,hk,rfl,ho,hx⟩:=hrel;obtain⟨wo,rfl⟩:∃ wo:World,wo=wr:=⟨_,rfl⟩;have HX:=hid hx;have jY:=Jt ps r k;obtain⟨am,ham⟩:∃ z,z=(eW ps r k).length:=⟨_,rfl⟩;rw[<-ham]at ho jY;obtain⟨ma,mc,rfl⟩:=ownsRow_form ho;have HOm:=hid ho;have HAM:=hid ham;clear hx ho ham;by_cases hlt:k<n
    ·have ed:(k:Int)<n:=by omega
     have BJ:(k:Int)<(r.length:Int):=by have:=HRN.out;omega
     obtain⟨x,hx⟩:∃ x,ps[k]? =some x:=⟨_,List.getElem?_eq_getElem (by have:=DR.out;omega)⟩;obtain⟨l,hl⟩:∃ l,r[k]? =some l:=⟨_,List.getElem?_eq_getElem (by have:=HRN.out;omega)⟩;obtain⟨b,off,v0,v1,v2,v3,rfl,hb,zP,q0,q1,q2,q3,q4,q5,q6⟩:=(HP.out wo (XE.out.trans (HX.out.mono ZJ))).elem hx;obtain⟨b2,kf,a',c',rfl,hb2,cl,dI⟩:=(LE.out.ll.below HX.out).elem hl;obtain⟨x0,n0,y0,x1,n1,y1,x2,n2,y2,x3,n3,y3,rfl,rfl,rfl,rfl⟩:=zP.GK;have GQ:=hid zP;have DC:=hid dI;have h2:=OK.out.2 x (List.mem_of_getElem? hx);have hst:=HR.out.2 k x l hx hl;obtain⟨B,hB⟩:∃ z,z=x.nf.acc l:=⟨_,rfl⟩;have CA:Hid (∀ (v u:Value) (W:World),dO W v x.nf->bg aF W u l->Calls Tryz.prog 119 #[v,u] W fun e w'=>e=.returned (.tuple #[.bool B,.int .i64 0])/\Below W.heap.size W w'):=hid fun v u W hv hu=>by rw[hB];exact yC v u x.nf h2.1 l hst W hv h2.2.1 hu (Nat.le_trans (EU h2.1 hst) (by decide))
     have jW:Hid (eW ps r (k+1)=eW ps r k++if B then [x.mark]else []):=hid (by rw[hB];exact FM hx hl);clear hx hl zP dI h2 hst hB;go_wp2;refine au ?_;intro V hV;have BX:Hid (ak V wo.heap.size #[.slice x0 n0 y0,.slice x1 n1 y1,.slice x2 n2 y2,.slice x3 n3 y3,.bool x.nf.emp,.bool x.A0,.int .i64 x.mark] 46):=hid (by rw[hV];exact ak.new wo _ _);have XV:Hid (Below wo.heap.size wo V):=hid (by rw[hV];exact((Ext.refl wo).alloc _).below);have LN:V.cell? ⟨b2,kf+k,none⟩=some (.slice a' l.length c'):=((aa.ah XV.out fun _ h=>h:aa (· <wo.heap.size) wo V).cell (p:=⟨b2,kf+k,none⟩) hb2).trans cl;clear hV q0 q1 q2 q3 q4 q5 q6 cl;refine aA false (fun _=>False) (by kernel_rfl) 11 [0,1,0,0,12,28,63,127,255,255,511,2047] (fun i=>i==6) (by kernel_rfl) (fun i=>if i=6 then aO.vo _ (.tuple #[.bool B,.int .i64 0])else aO.any _) ?_;intro C hC hne;have HC:=hid hC;have f0:=ay hC (p:=⟨wo.heap.size,0,none⟩) BX.out.lt (fun h=>h) (BX.out.cell 0);have f1:=ay hC (p:=⟨wo.heap.size,1,none⟩) BX.out.lt (fun h=>h) (BX.out.cell 1);have f2:=ay hC (p:=⟨wo.heap.size,2,none⟩) BX.out.lt (fun h=>h) (BX.out.cell 2);have f3:=ay hC (p:=⟨wo.heap.size,3,none⟩) BX.out.lt (fun h=>h) (BX.out.cell 3);have f4:=ay hC (p:=⟨wo.heap.size,4,none⟩) BX.out.lt (fun h=>h) (BX.out.cell 4);have f5:=ay hC (p:=⟨b2,kf+k,none⟩) (World.block_lt_of_cell? _ _ LN) (fun h=>h) LN;clear hC LN
     repeat (refine ai (fun K hK=>?_);first | (refine br rfl ?_;try go_simp;refine hK _ _ ?_;clear hK K) | (refine aZ rfl rfl ?_;unfold ar;go_simp;refine hK _ _ ?_;clear hK K))
     refine ai (fun K hK=>?_);refine bA rfl rfl (aO.vo _ (.tuple #[.bool B,.int .i64 0])) rfl (fun W hW hN=>?_) (fun v hv=>?_)
     ·have hM:=(HC.out W).1 hW
      clear hW;go_simp;refine aT ((CA.out _ _ _ ((GQ.out.below XV.out).below hM.below) ((DC.out.below XV.out).below hM.below)).mono ?_);rintro e w2 ⟨rfl,hx⟩;exact⟨_,rfl,Move.ah hx,rfl,trivial⟩
     replace hv:v=_:=hv;subst hv;go_simp;refine hK _ _ ?_;clear hK K
     repeat (refine ai (fun K hK=>?_);first | (refine br rfl ?_;try go_simp;refine hK _ _ ?_;clear hK K) | (refine aZ rfl rfl ?_;unfold ar;go_simp;refine hK _ _ ?_;clear hK K))
     refine aY (fun W hW hH=>?_);have ie:=(HC.out W).1 hW;have BW:=hid (BX.out.below ie.below BX.out.lt);have XW2:=hid (XV.out.trans (ie.below.mono XV.out.size));clear ie hW hH HC hne f0 f1 f2 f3 f4 f5;have i6:=BW.out.seven.2.2.2.2.2.2;have OW:=hid (ag HOm.out XW2.out);have Ym:wo.heap.size<W.heap.size:=BW.out.lt;have aeu:we.heap.size<=wo.heap.size:=HX.out.size;cases B with
     | false=>
      go_wp2;go_roundw;case rel=>exact⟨k+1,by omega,by go_num,by rw[jW.out];simp only[Bool.false_eq_true,if_false,List.append_nil];rw[<-HAM.out];exact OW.out,HX.out.trans (XW2.out.mono aeu)⟩
      case measure=>simp[intOf];omega
     | true=>
      go_wp2_with (at_builtin;refine wpList_append_own_at _ rfl (.tmp 79) (.tmp 82) 37 rfl we.heap.size 3 iI (.int .i64 0) 1 8 Tryz.underlying37 GN pE pF pG rfl (by decide) _ _ _ rfl (OW.out.alloc _) ⟨W.heap.size,0,none⟩ 1 1 [.int .i64 x.mark] rfl rfl (dV _ _ _) (by simp[Value.oneCell']) (by unfold maxLen;omega) (by omega) (by simp;omega) ?_;intro v' w2 hown' hgrow hh hat;have jq:=hid hown';have HG2:=hid hgrow;clear hown' hgrow hh hat)
      go_roundw
      case rel=>
       refine⟨k+1,by omega,by go_num,?_,?_⟩
       ·rw[jW.out]
        simp only[if_true];rw[List.length_append,List.map_append, <-HAM.out];exact jq.out
       ·have XX:=HX.out.trans (XW2.out.mono HX.out.size)
        exact(XX.alloc XX.size _).grown HG2.out (by have:=XX.size;simp;omega) (fun c e=>(OW.out.lt c e).1)
      case measure=>simp[intOf];omega
    ·obtain rfl:k=n:=by omega
     have vQ:¬ ((k:Int)<k):=by omega
     have CSo:Hid (Calls Tryz.prog 25 #[.slice ma am mc] wo fun e w'=>e=.returned (.tuple #[])/\w'.ownsRow we.heap.size 3 1 (.slice ma am mc) am ((eu (eW ps r k)).map aF)/\aa (fun x=>x<wo.heap.size/\(Value.slice ma am mc).ownBlock≠some x) wo w'):=hid (Iy _ _ _ _ _ HOm.out (by omega));go_wp2_with fail
     refine CSo.out.mono ?_;rintro e wf ⟨rfl,ho,hx⟩;have OF:=hid ho;have MZ:∀ x,(Value.slice ma am mc).ownBlock=some x->we.heap.size<=x:=fun x e=>(HOm.out.lt x e).1
     have XF:Hid (Below we.heap.size we wf):=hid (HX.out.trans (hx.mono fun x yx=>⟨Nat.lt_of_lt_of_le yx HX.out.size,fun e=>by have h1:x<we.heap.size:=yx;have:=MZ x e;omega⟩:aa (· <we.heap.size) wo wf).below);clear ho hx HOm HX CSo MZ;have jx:eW ps r k=fF ps r:=by have:=Js (ps:=ps) (row:=r) HR.out.1;rw[<-DR.out]at this;exact this
     obtain⟨cn,Wq⟩:∃ z,z=(Lib.compact (eu (eW ps r k))).length:=⟨_,rfl⟩;obtain⟨cx,Li⟩:∃ z,z=(Lib.compact (eu (eW ps r k))).map aF:=⟨_,rfl⟩;have MKS:Hid (Lib.compact (eu (eW ps r k))=bX ps r):=hid (by rw[jx];exact vP fun x hx=>(OK.out.2 x hx).2.2);have ale:cn<=64:=by have h5:=Lib.compact_length_le (eu (eW ps r k));rw[<-Wq,jI, <-HAM.out]at h5;omega
     have CC:Hid (∀ W,W.ownsRow we.heap.size 3 1 (.slice ma am mc) am ((eu (eW ps r k)).map aF)->Calls Tryz.prog 26 #[.slice ma am mc] W fun e w'=>e=.returned (.slice ma cn mc)/\w'.ownsRow we.heap.size 3 1 (.slice ma cn mc) cn cx/\aa (fun x=>x<W.heap.size/\(Value.slice ma am mc).ownBlock≠some x) W w'):=hid fun W hW=>(yN _ _ _ _ W hW (by omega)).mono fun e w' ⟨u,he,h1,h2,h3⟩=>by
      have h4:=vV (by rw[jI, <-HAM.out]) h3;rw[<-Wq]at h4 h1;rw[<-Li]at h1;rw[h4]at he h1;exact⟨he,h1,h2⟩
     have HCN:Hid (cn=(bX ps r).length/\cx=(bX ps r).map aF):=hid ⟨by rw[Wq,MKS.out],by rw[Li,MKS.out]⟩;have BJ:wm.ownsRow base 37 1 kv L ks:=by have:=MW.out.rD.1;rw[<-zO.out]at this;exact this
     obtain⟨ka,kc,rfl⟩:=ownsRow_form BJ;have KR0:=hid BJ;have vU:wm.ownsRow base 29 1 (.slice sa L sc) L us:=by have:=MW.out.st.1;rw[<-zO.out]at this;exact this
     have SW:=hid vU
     have ZL:Hid (we.ownsRow base 37 1 (.slice ka L kc) L ks):=hid (ae BJ KE.out fun x hx=>⟨(BJ.lt x hx).2,qD BJ MW.out.map (fun c fz e=>by cases e) x hx,bI MW.out.blk BJ (by decide) x hx,fun e2=>by
      rcases ownBlock_ne (by decide) BJ vU with h5 | h5
      ·rw[h5]at hx;cases hx
      ·exact h5 (by rw[hx,e2])⟩)
     have ZM:∀ x,(Value.slice ka L kc).ownBlock=some x->x<we.heap.size:=fun x e=>(ZL.out.lt x e).2
     have HKV:=hid ZM;have BF:=hid (BE.out.below XF.out BE.out.lt);have KRF:=hid (ag ZL.out XF.out);have ZN:(Value.slice ka L kc).ownBlock≠some mb:=fun e=>bI BE.out ZL.out (by decide) mb e rfl
     have aev:we.heap.size<=wf.heap.size:=XF.out.size;clear jx Wq Li BJ vU ZM;obtain⟨c0,c1,c2,c3,c4,c5,c6⟩:=BF.out.seven;go_wp2_with fail
     refine RegQ.aU (vw we.heap.size base L cn (.slice ka L kc) (.slice ma cn mc) ks cx) vw.drew (fun _ _ _ h k=>h.trans k) (by kernel_rfl) 10 [0,0,2,6,14,30,0,64,192,510,1023,2047,4095,8191] (fun i=>i==7 || i==8 || i==9 || i==13) (by kernel_rfl) (fun i=>if i=7 then ue.Uq we.heap.size base L cn (.slice ka L kc) (.slice ma cn mc) ks cx else if i=8 then ue.box we.heap.size base L cn (.slice ka L kc) (.slice ma cn mc) ks cx else if i=9 then ue.new we.heap.size base L cn (.slice ka L kc) (.slice ma cn mc) ks cx else aO.any _) (fun j W=>j=7->W.ownsRow we.heap.size 3 1 (.slice ma am mc) am ((eu (eW ps r k)).map aF)) (fun _ _ _=>OF.out) ?_;intro C hC hne;have HC:=hid hC;have f6:∀ W: {W//C W},W.1.cell? ⟨mb,6,none⟩=some (.slice ka L kc):=fun W=>(((hC W.1).1 W.2).keep.cell (p:=⟨mb,6,none⟩) ⟨BE.out.lt,BF.out.lt,ZN⟩).trans c6
     clear hC c0 c1 c2 c3 c4 c5 c6
     repeat (refine RegQ.ai (fun K hK=>?_);first | (refine RegQ.br rfl ?_;try go_simp;refine hK _ _ ?_;clear hK K) | (refine RegQ.aZ rfl rfl ?_;unfold ar;go_simp;refine hK _ _ ?_;clear hK K))
     refine RegQ.ai (fun K hK=>?_);refine RegQ.bA rfl rfl (ue.Uq we.heap.size base L cn (.slice ka L kc) (.slice ma cn mc) ks cx) rfl (fun W hW hD hN=>?_) (fun v hv=>?_)
     ·have xG:=hD rfl
      clear hW hD hN hK K;go_simp;refine aT ((CC.out W xG).mono ?_);rintro e w2 ⟨rfl,ho,hk2⟩;exact⟨_,rfl,⟨vw.compact xG hk2 ho,fun j hj _ e=>absurd e hj⟩,rfl,ho⟩
     replace hv:v=_:=hv;subst hv;go_simp;refine hK _ _ ?_;clear hK K;refine RegQ.ai (fun K hK=>?_);refine RegQ.bA rfl rfl (ue.box we.heap.size base L cn (.slice ka L kc) (.slice ma cn mc) ks cx) rfl (fun W hW hD hN=>?_) (fun v hv=>?_)
     ·have Yy:=((HC.out W).1 hW).size
      clear hW hN hK K;go_simp;exact⟨⟨vw.below ((Ext.refl _).alloc _).below,fun j _ _ h e=>(h e).alloc _⟩,⟨_,by omega,rfl⟩,fun b hb=>by cases hb;exact ak.new _ _ _⟩
     obtain⟨bx,UL,rfl⟩:=hv;go_simp;refine hK _ _ ?_;clear hK K;refine RegQ.ai (fun K hK=>?_);refine RegQ.bA rfl rfl (ue.new we.heap.size base L cn (.slice ka L kc) (.slice ma cn mc) ks cx) rfl (fun W hW hD hN=>?_) (fun v hv=>?_)
     ·have ie:=(HC.out W).1 hW
      have ny:ak W bx #[.slice ma cn mc] 37:=hN.at 0 rfl (by kernel_rfl) bx rfl;have hkw:=ie.old KRF.out;have Yy:=ie.size;have YA:=hid ny;have zQ:=hid hkw;clear hW hN hK K ie ny hkw;refine kp (.tmp 92) (.tmp 95) 29 rfl base 37 iL (.slice none 0 0) 1 24 Tryz.underlying29 wW kQ kR kS rfl (by decide) (.slice ka L kc) L ks rfl zQ.out ⟨bx,0,none⟩ 1 1 [.slice ma cn mc] rfl YA.out.Sd rfl (by simp[Value.oneCell']) (by unfold maxLen;omega) (by omega) (by omega) (by decide) ?_;intro v' w2 ho hg jo;refine⟨⟨vw.append zQ.out HKV.out ho hg (jo.imp (fun h=>h.1) id),fun j _ _ h e=>(h e).kept hg (ownBlock_ne (by decide) (h e) zQ.out)⟩,ownsRow_form ho,ho,?_⟩;rcases jo with⟨_,h⟩ | ⟨g,cap,h1,h2,_⟩
      ·exact .inr fun x hx=>by rw[h]at hx;cases hx;omega
      ·exact .inl (by rw[h2,h1];rfl)
     obtain⟨kb,kd,rfl⟩:=hv;go_simp;refine hK _ _ ?_;clear hK K;refine RegQ.aY (fun W hW hH=>?_);have ie:=(HC.out W).1 hW;have NR:Hid (W.ownsRow base 37 1 (.slice kb (L+1) kd) (L+1) (ks++ [.slice ma cn mc])/\((Value.slice kb (L+1) kd).ownBlock=(Value.slice ka L kc).ownBlock\/∀ x,(Value.slice kb (L+1) kd).ownBlock=some x->we.heap.size<=x)):=hid (hH _ (List.mem_of_getElem? (show _=some _ from rfl:_[0]? =some _)));have CR:Hid (W.ownsRow we.heap.size 3 1 (.slice ma cn mc) cn cx):=hid (hH _ (List.mem_of_getElem? (show _=some _ from rfl:_[2]? =some _)));have BG:=hid (BF.out.keeps ie.keep ⟨BE.out.lt,BF.out.lt,ZN⟩);have KV:=hid ie.keep;clear ie hW hH HC hne f6 CC OF;obtain⟨c0,c1,c2,c3,c4,c5,c6⟩:=BG.out.seven;have z6:=BG.out.frozen 6;have wL:IntKind.i64.wrap (L:Int)=L:=IntWalk.i64_in _ (by omega);go_wp2;refine AX ?_;intro wg hwg;go_ret;have Wx:wm.heap.size<=we.heap.size:=KE.out.size;have h1m:w1.heap.size<=wm.heap.size:=Nat.le_trans HK.out.size XW.out.size;have Vl:∀ x,(Value.slice ka L kc).ownBlock=some x->base<=x/\x<w1.heap.size:=fun x e=>M1.out.rD.1.lt x e
     have aew:∀ x,(Value.slice sa L sc).ownBlock=some x->base<=x/\x<w1.heap.size:=fun x e=>M1.out.st.1.lt x e
     have alh:=M1.out.blk.lt;have ali:=M1.out.map.lt;have K2:aa (fun x=>x<we.heap.size/\x≠mb/\(Value.slice ka L kc).ownBlock≠some x) we wg:=by rw[hwg];exact((aa.ah XF.out fun x hx=>hx.1:aa (fun x=>x<we.heap.size/\x≠mb/\(Value.slice ka L kc).ownBlock≠some x) we wf).tr (KV.out.mono fun x hx=>⟨hx.1,Nat.lt_of_lt_of_le hx.1 aev,hx.2.2⟩)).setCell (fun h=>h.2.1 rfl) _
     have K:aa (fun x=>x<wm.heap.size/\x≠ob/\x≠mb/\(Value.slice sa L sc).ownBlock≠some x/\(Value.slice ka L kc).ownBlock≠some x) wm wg:=(KE.out.mono fun x hx=>⟨hx.1,hx.2.1,hx.2.2.1,hx.2.2.2.1⟩).tr (K2.mono fun x hx=>⟨Nat.lt_of_lt_of_le hx.1 Wx,hx.2.2.1,hx.2.2.2.2⟩);obtain⟨lus,ll1,ll2,ll3⟩:=LE.out;have Vm:∀ x,(Value.slice la r.length lc).ownBlock=some x->w1.heap.size<=x/\x<we.heap.size:=fun x e=>ll2.lt x e
     have Ny:∀ (v y:Value) (N:Nat),(∀ x,v.ownBlock=some x->N<=x)->(∀ x,y.ownBlock=some x->x<N)->kU v y:=fun v y N h1 h2=>by
      cases e:v.ownBlock with
      | none=>exact .inl e
      | some x=>exact .inr fun e2=>by have:=h1 x e;have:=h2 x (by rw[<-e2,e]);omega
     have Hz:aa (fun x=>x<w1.heap.size/\(x<base\/¬F x)) w wg:=(aa.ah XW.out fun x hx=>Nat.lt_of_lt_of_le hx.1 HK.out.size:aa (fun x=>x<w1.heap.size/\(x<base\/¬F x)) w wm).tr (K.mono fun x hx=>⟨by omega,fun e=>by subst e;rcases hx.2 with h | h;exact absurd M1.out.bo (by omega);exact h M1.out.fo,fun e=>by subst e;rcases hx.2 with h | h;exact absurd M1.out.bm (by omega);exact h M1.out.fm,fun e=>by rcases hx.2 with h | h;exact absurd (aew x e).1 (by omega);exact h (M1.out.st.2 x e),fun e=>by rcases hx.2 with h | h;exact absurd (Vl x e).1 (by omega);exact h (M1.out.rD.2 x e)⟩);have q1:ak wg mb #[.slice pa k pc,.int .i64 f,.slice ZI (L+1) WN,.map (some ob),cv,nv,.slice kb (L+1) kd] 95:=by rw[hwg];exact BG.out.set 6 _
     have q2:ki wg ob (rows++ [r]):=ME.out.keeps K2 ⟨ME.out.lt,(fun e=>by have h2:we.heap[mb]? =_:=BE.out;have h3:we.heap[ob]? =_:=ME.out;rw[e,h2]at h3;cases h3),fun e=>qD ZL.out ME.out (fun c fz e=>by cases e) ob e rfl⟩
     have q3:fM F wg base 29 (.slice ZI (L+1) WN) (L+1) (us++ [.slice la r.length lc]):=⟨ae SE.out K2 fun x hx=>⟨(SE.out.lt x hx).2,bI BE.out SE.out (by decide) x hx,fun e2=>by
      rcases ownBlock_ne (by decide) SE.out ZL.out with h5 | h5
      ·rw[h5]at hx;cases hx
      ·exact h5 (by rw[hx,e2])⟩,fun x hx=>by
      rcases Le.out with h | h
      ·exact M1.out.st.2 x (h.symm.trans hx)
      ·rw[h]at hx;cases hx;exact HF.out _ (by have:=QK.out;simp;omega)⟩
     have q4:I9 F wg base (.slice la r.length lc) r:=(I9.of (LE.out.keeps K2 fun x h1 h2=>⟨h2,by omega,fun e=>by have:=(Vl x e).2;omega⟩) HF.out).base hb1;have q5:kU (.slice la r.length lc) nv:=Ny _ _ w1.heap.size (fun x e=>(Vm x e).1) (fun x e=>(M1.out.rS.1.lt x e).2);have q6:kU (.slice la r.length lc) (.slice kb (L+1) kd):=by
      rcases NR.out.2 with h | h
      ·exact Ny _ _ w1.heap.size (fun x e=>(Vm x e).1) (fun x e=>(Vl x (h.symm.trans e)).2)
      ·cases e:(Value.slice la r.length lc).ownBlock with
       | none=>exact .inl e
       | some x=>exact .inr fun e2=>by have:=(Vm x e).2;have:=h x (by rw[<-e2,e]);omega
     have q7:fM F wg base 37 (.slice kb (L+1) kd) (L+1) (ks++ [.slice ma cn mc]):=⟨by rw[hwg];exact ae NR.out.1 ((aa.refl (· ≠mb) W).setCell (p:=⟨mb,6,none⟩) (fun h=>h rfl) _) fun x hx=>bI BG.out NR.out.1 (by decide) x hx,fun x hx=>by
      rcases NR.out.2 with h | h
      ·exact M1.out.rD.2 x (h.symm.trans hx)
      ·exact HF.out x (by have:=h x hx;omega)⟩
     have q8:fM F wg base 3 (.slice ma cn mc) cn cx:=⟨by rw[hwg];exact ax (ae CR.out ((aa.refl (· ≠mb) W).setCell (p:=⟨mb,6,none⟩) (fun h=>h rfl) _) fun x hx=>bI BG.out CR.out (by decide) x hx) ZJ,fun x hx=>HF.out x (by have:=(CR.out.lt x hx).1;omega)⟩;have q9:∀ v,(∀ x,v.ownBlock=some x->x<wm.heap.size)->kU v (.slice ka L kc)->kU v (.slice kb (L+1) kd):=fun v h1 h2=>h2.step NR.out.2 fun b e=>Nat.lt_of_lt_of_le (h1 b e) Wx
     have MF:=Mk.more MW.out zO.out K q1 q2 q3 q4 q5 q6 q7 q8 HCN.out.1 HCN.out.2 q9;exact⟨Hz,.inr (.inl ⟨HQ.out,by rw[<-zO.out];omega,by rw[<-zO.out];rfl,_,_,_,_,_,_,MF⟩)⟩
 ·have HQ:=hid hq
  obtain⟨ix,SS⟩:∃ z,z=Ue rows r:=⟨_,rfl⟩;rw[<-SS]at hlk;have HIX:=hid SS;clear hq SS;go_wp2;go_ret;refine⟨aa.ah XA.out fun x hx=>Nat.lt_of_lt_of_le hx.1 HK.out.size,.inl ⟨HQ.out,by rw[HIX.out];rfl,_,_,_,_,_,_,MA.out⟩⟩
end Go.Proofs.YtbiboekhakbnpaaGreatDoor
