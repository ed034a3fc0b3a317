/- dfa.Of: sets as a source of an append; plain facts. -/
import Derived.Lib.SlBuf
import Derived.Test.YtjgccapbphadjaaGreatDoorOB09
set_option maxRecDepth 100000
set_option maxHeartbeats 16000000
open Go.Lib (hid)
open Go.Value renaming slice->An,int->AM,pointer->B',oneCell'->C_,tuple->Dn,bool->GO,agg->G_
open Option renaming some->As,none->AF
open Go.Lib renaming hid->AI
open Go.Ending renaming returned->AN
open List renaming length_replicate->AS,replicate->A_,getElem?_replicate->Bm,take_of_length_le->Cd,map_append->DH,take_add_one->DQ,append_nil->FF,zip->G'
open Go.IntKind renaming i64->AT,u64->DP
open Go renaming World->A',wpList_append_own_at->By,info_parts->Dm,callsD_of_wpS->GA,Ending->GC,Leaves->GS
open Nat renaming le_trans->Bs,le_of_lt->D0,min->D',sub_zero->EV,zero_le->Ft,zero_add->GG,ne_of_lt->GH
open Int renaming ofNat->B_,toNat_natCast->E_
open Go.Proofs.Tryz renaming underlying27->C',prog->Dl,underlying39->D_,results170->FG,results114->F_,ntmps170->GB,func170->GF,f114->GW
open Go.RowKit renaming Hid->DE,Below->Gz
namespace Go.Proofs.YtjgccapbphadjaaGreatDoor
open Go Go.RowKit Go.Shelf Go.Maps
def gu (ps:List PT) (row:List (List Int)) (k:Nat):List Int:=((G' ps row).take k).filterMap fun y=>if y.1.nf.acc y.2 then As y.1.mark else AF
theorem Jf {ps:List PT} {row:List (List Int)} {k:Nat} {x:PT} {l:List Int} (hx:ps[k]? =As x) (hl:row[k]? =As l):gu ps row (k+1)=gu ps row k++if x.nf.acc l then [x.mark]else []:=by
 have hz:(G' ps row)[k]? =As (x,l):=by rw[List.getElem?_zip_eq_some];exact⟨hx,hl⟩
 unfold gu;rw[DQ,hz,List.filterMap_append];by_cases h:x.nf.acc l=true<;>simp[h]
theorem Nw {ps:List PT} {row:List (List Int)} (h:row.length=ps.length):gu ps row ps.length=gW ps row:=by unfold gu gW;rw[Cd];rw[List.length_zip,h];omega
theorem Nx (ps:List PT) (row:List (List Int)) (k:Nat):(gu ps row k).length<=k:=by unfold gu;exact Bs (List.length_filterMap_le _ _) (by rw[List.length_take];omega)
def ZI (F:Nat→Prop) (base mb ob f:Nat) (pv cv:Value) (ps:List PT) (rows:List (List (List Int))) (nx:List (List Int)) (r:List (List Int)) (w1 w:A') (e:GC) (w':A'):Prop:=
  ae (fun x=>x<w1.heap.size∧(x<base∨¬F x)) w w'∧
  ((r∈rows∧e=AN (AM AT (YI rows r))∧WK F w' base mb ob f pv cv ps rows nx)∨
   (r∉rows∧rows.length<f∧e=AN (AM AT rows.length)∧WK F w' base mb ob f pv cv ps (rows++ [r]) nx)∨
   (r∉rows∧f≤rows.length∧e=.panicked [{v:=.iface 265 (G_ #[]),recovered:=false}]))
theorem Av (F:Nat->Prop) (base mb ob f:Nat) (pv cv:Value) (ps:List PT) (rows:List (List (List Int))) (nx:List (List Int)) (ok:U5 ps) (w1 w:A') (hM:WK F w1 base mb ob f pv cv ps rows nx) (hk:aa w1 w) (hF:∀ x,w1.heap.size<=x->F x) (lv:Value) (r:List (List Int)) (hl:bw w1.heap.size w lv r) (hr:pM ps r) (hn:rows.Nodup) (uA:∀ p∈rows,pM ps p) (hf:f<=4000) (hlen:rows.length<=f) (hP:∀ W,Gz base w1 W->ji W pv ps) (hT:∀ W,Gz base w1 W->nN W): ah 171 #[B' (As ⟨mb,0,AF⟩),lv] w fun e w'=>ZI F base mb ob f pv cv ps rows nx r w1 w e w':=by
 obtain⟨iLL,ahM,adk,adl,adm⟩:=Dm Tryz.YT;obtain⟨iL,zY,mR,mS,mU⟩:=Dm Tryz.tX;obtain⟨iI,y8,kP,kQ,kR⟩:=Dm Tryz.mH;obtain⟨sv,nv,kv,us,ns,ks,M⟩:=hM;have hb1:base<=w1.heap.size:=Bs M.bm (D0 M.blk.lt);have HB0:DE (Gz base w1 w):=AI (hk.mono hb1);have CK:DE (ah 212 #[lv] w fun e w'=>e=AN (Ir r)/\aa w w'):=AI (U4 lv r (Ca ok hr) w hl.ll fun W hW=>hT W (HB0.trans (hW.mono (Bs hb1 hk.size))));have MW:=AI (M.below hk);have M1:=AI M;have HK:=AI hk;have HL:=AI hl;have KI:DE (∀ p∈rows,ui p):=AI fun p hp=>(Ca ok (uA p hp)).in
 have KR:DE (ui r):=AI (Ca ok hr).in;have HP:=AI hP;have OK:=AI ok;have HR:=AI hr;have HNn:=AI hn;have HF:=AI hF;obtain⟨L,hL⟩:=ag rows.length;have Dq:=AI hL;have hLf:L<=f:=by omega
 have hst:=M.st.1;rw[<-hL]at hst;obtain⟨sa,sc,rfl⟩:=ownsRow_form hst;obtain⟨la,lc,rfl⟩:=hl.form;obtain⟨K0,zB⟩:=ag (Ir r);obtain⟨n,Kw⟩:=ag ps.length;have s4:n<=64:=by rw[Kw];exact ok.1
 obtain⟨pa,pc,rfl⟩:=(hP w1 (Below.refl _ _)).form;rw[<-Kw]at MW M1 HP hP M ⊢;have Si:=AI Kw;rw[<-zB]at CK;have OD:=AI zB;have ZJ:base<=w.heap.size:=Bs hb1 hk.size;clear M hk hl hr hn uA hP hT hF hL hst zB ok hlen Kw;go_enter Tryz.func171,Tryz.ntmps171;go_wp2_with fail
 refine CK.mono ?_;rintro e wa ⟨rfl,hx⟩;have MA:=AI (MW.below hx);have XA:=AI hx;have LA:=AI (HL.below hx);clear hx MW CK;obtain⟨m0,m1,m2,m3,m4,m5,m6⟩:=MA.blk.seven;have pF:=U0 MA.map HNn KI r KR;rw[<-OD.out]at pF;rcases pF with⟨hq,hlk⟩ | ⟨hq,hlk⟩
 ·have HQ:=AI hq
  clear hq;go_wp2_with fail
  by_cases pG:f<=L
  ·have hfi:(f:Int)<=(L:Int):=by omega
   have d1:decide ((f:Int)<=(L:Int))=true:=decide_eq_true hfi
   go_quiet (fail)
   go_wp2_with fail
   exact⟨rfl,(ae.ai XA fun x hx=>aD hx.1 HK.size:ae (fun x=>x<w1.heap.size/\(x<base\/¬F x)) w wa).drewN _,.inr (.inr ⟨HQ,by rw[<-Dq.out];exact pG,rfl⟩)⟩
  ·have hfi:¬ ((f:Int)<=(L:Int)):=by omega
   have d1:decide ((f:Int)<=(L:Int))=false:=decide_eq_false hfi
   go_quiet (fail)
   go_wp2_with fail
   refine aA ?_;intro wb Xh;have MB:DE (Mk F wb base mb ob f (An pa n pc) cv ps rows nx (An sa L sc) nv kv us ns ks):=AI (by rw[Xh];exact MA.keeps ((ae.refl (fun _=>True) wa).drewN _) fun _ _ _=>trivial);have LB:DE (bw w1.heap.size wb (An la r.length lc) r):=AI (by rw[Xh];exact LA);have XB:DE (aa w wb):=AI (by rw[Xh];exact((ae.ai XA fun _ h=>h:ae (· <w.heap.size) w wa).drewN _).below);have ahO:wb.heap.size=wa.heap.size:=by rw[Xh];rfl
   clear Xh m0 m1 m2 m3 m4 m5 m6 MA LA XA hlk;obtain⟨m0,m1,m2,m3,m4,m5,m6⟩:=MB.blk.seven;refine aL false (fun _=>False) (by kernel_rfl) 10 [0,1,3,7,0,0,32,96,224,480,1023] (fun i=>i==10) (by kernel_rfl) (fun _=>aX.any _) ?_;intro C hC hne;have HC:=AI hC;have f2:=aC hC (p:=⟨mb,2,AF⟩) MB.blk.lt (fun h=>h) m2;have f3:=aC hC (p:=⟨mb,3,AF⟩) MB.blk.lt (fun h=>h) m3;clear hC m0 m1 m2 m3 m4 m5 m6
   repeat (refine au (fun K hK=>?_);first | (refine cg rfl ?_;try go_simp;refine hK _ _ ?_;clear hK K) | (refine bV rfl rfl ?_;unfold aF;go_simp;refine hK _ _ ?_;clear hK K))
   refine bM (fun wm hW hH=>?_);have ki:=(HC.out wm).1 hW;have MW:=AI (MB.below ki.below);have LW:=AI (LB.below ki.below);have XW:=AI (XB.trans (ki.below.mono XB.size));clear ki hW hH HC hne f2 f3 MB LB XB ahO;obtain⟨wc,hput,Jg,yF,ZL⟩:=YJ (w:=wm) MW.map KI r KR HQ;rw[<-OD.out, <-Dq.out]at hput;have BC:=AI (MW.blk.keeps yF (fun e=>by have h1:=MW.map;have h2:wm.heap[mb]? =_:=MW.blk;rw[e]at h2;have h3:wm.heap[ob]? =_:=h1;rw[h2]at h3;cases h3));have SC:DE (wc.ownsRow base 27 1 (An sa L sc) L us):=AI (by have h5:=aj MW.st.1 yF (fun x hx=>lZ MW.st.1 MW.map (fun c fz e=>by cases e) x hx);rw[<-Dq.out]at h5;exact h5);have hbc:base<=wc.heap.size:=by rw[ZL];exact Bs ZJ XW.size
   have Vx:=AI ZL;clear ZL;obtain⟨c0,c1,c2,c3,c4,c5,c6⟩:=BC.seven;go_wp2_with (at_builtin;refine Hid.out ?_);refine AI ?_;refine By _ rfl (.tmp 52) (.tmp 54) 194 rfl base 27 iLL (An AF 0 0) 1 24 Tryz.underlying194 ahM adk adl adm rfl (by decide) _ _ _ rfl (SC.alloc _) ⟨wc.heap.size,0,AF⟩ 1 1 [An la r.length lc] rfl rfl (eF _ _ _) (by simp[C_]) (by unfold maxLen;omega) (by omega) (by simp;omega) ?_;intro v' wd hown' hgrow hh hat;have HO:=AI hown';have HG:=AI hgrow;have L9:=AI hat;clear hown' hgrow hh hat;obtain⟨sa2,sc2,rfl⟩:=ownsRow_form HO;have BD:=AI ((BC.alloc _).grown HG (fun e=>cy BC SC (by decide) mb e.symm rfl));clear c0 c1 c2 c3 c4 c5 c6 hput;obtain⟨c0,c1,c2,c3,c4,c5,c6⟩:=BD.seven;have z2:=BD.frozen 2;go_wp2;refine aA ?_;intro we hwe;have BE:DE (ar we mb #[An pa n pc,AM AT f,An sa2 (L+1) sc2,.map (As ob),cv,nv,kv] 196):=AI (by rw[hwe];exact BD.set 2 _);have ZM:∀ x,(An sa L sc).ownBlock=As x->base<=x/\x<w1.heap.size:=fun x e=>M1.st.1.lt x e
   have KG:DE (ae (fun x=>x<wm.heap.size/\(An sa L sc).ownBlock≠As x) wc wd):=AI (((ae.refl _ _).alloc (fun x hx=>by rw[Vx.out];exact hx.1) _).tr (ae.bB HG fun x hx=>⟨by have:=hx.1;rw[<-Vx.out]at this;simp;omega,fun e=>hx.2 e.symm⟩))
   have KE:DE (ae (fun x=>x<wm.heap.size/\x≠ob/\x≠mb/\(An sa L sc).ownBlock≠As x) wm we):=AI (by
    rw[hwe]
    exact((yF.mono fun x hx=>hx.2.1).tr (KG.mono fun x hx=>⟨hx.1,hx.2.2.2⟩)).setCell (fun h=>h.2.2.1 rfl) _)
   have SE:DE (we.ownsRow base 27 1 (An sa2 (L+1) sc2) (L+1) (us++ [An la r.length lc])):=AI (by
    rw[hwe]
    exact aj HO ((ae.refl (· ≠mb) wd).setCell (p:=⟨mb,2,AF⟩) (fun h=>h rfl) _) fun x hx=>cy BD HO (by decide) x hx)
   have ME:DE (lB we ob (rows++ [r])):=AI (by
    rw[hwe];have h5:ob≠mb:=fun e=>by
     have h2:wc.heap[mb]? =_:=BC.out;have h3:wc.heap[ob]? =_:=Jg;rw[e,h2]at h3;cases h3
    have h6:lB wd ob (rows++ [r]):=Jg.keeps KG ⟨by rw[<-Vx.out];exact Jg.lt,fun e=>lZ SC Jg (fun c fz e=>by cases e) ob e rfl⟩
    exact h6.keeps ((ae.refl (· ≠mb) wd).setCell (p:=⟨mb,2,AF⟩) (fun h=>h rfl) _) h5)
   have XE:DE (Gz base w1 we):=AI ((HB0.trans (XW.mono ZJ)).trans (KE.mono fun x hx=>⟨aD (aD hx ZJ) XW.size,by have h1:x<base:=hx;have:=M1.bo;omega,by have h1:x<base:=hx;have:=M1.bm;omega,fun e=>by have h1:x<base:=hx;have:=(ZM x e).1;omega⟩:ae (· <base) wm we).below);have LE:DE (bw w1.heap.size we (An la r.length lc) r):=AI (LW.keeps KE fun x h1 h2=>⟨h2,by have:=M1.map.lt;omega,by have:=M1.blk.lt;omega,fun e=>by have:=(ZM x e).2;omega⟩);have hrn:r.length=n:=by rw[Si.out];exact HR.1
   have HRN:=AI hrn;have ado:base<=we.heap.size:=by rw[hwe];have:=BD.lt;have:=M1.bm;simp;omega
   clear hwe c0 c1 c2 c3 c4 c5 c6 z2 hrn ZM;go_loopw [8,63] (fun mv iv wr=>∃ k:Nat,k<=n/\iv=AM AT k/\wr.ownsRow we.heap.size 3 1 mv (gu ps r k).length ((gu ps r k).map aM)/\aa we wr) (fun _ iv _=>n-(intOf iv).toNat);case atStart=>exact⟨0,by omega,rfl,World.ownsRow_nil _ _ _ _,Below.refl _ _⟩
   case round=>
    obtain⟨k,hk,rfl,ho,hx⟩:=hrel;obtain⟨wo,rfl⟩:=ag (wr:A');have HX:=AI hx;have ow:=Nx ps r k;obtain⟨am,ham⟩:=ag ((gu ps r k).length);rw[<-ham]at ho ow;obtain⟨ma,mc,rfl⟩:=ownsRow_form ho;have HOm:=AI ho;have HAM:=AI ham;clear hx ho ham;by_cases hlt:k<n
    ·have eE:(k:Int)<n:=by omega
     have EW:(k:Int)<(r.length:Int):=by have:=HRN.out;omega
     obtain⟨x,hx⟩:∃ x,ps[k]? =As x:=⟨_,az (by have:=Si.out;omega)⟩;obtain⟨l,hl⟩:∃ l,r[k]? =As l:=⟨_,az (by have:=HRN.out;omega)⟩;obtain⟨b,off,v0,v1,v2,v3,rfl,hb,Dr,q0,q1,q2,q3,q4,q5,q6⟩:=(HP.out wo (XE.trans (HX.mono ado))).elem hx;obtain⟨b2,fV,a',c',rfl,hb2,cl,j8⟩:=(LE.ll.below HX).elem hl;obtain⟨x0,n0,y0,x1,n1,y1,x2,n2,y2,x3,n3,y3,rfl,rfl,rfl,rfl⟩:=Dr.QG;have KC:=AI Dr;have Ex:=AI j8;have h2:=OK.2 x (aw hx);have hst:=HR.2 k x l hx hl;obtain⟨B,hB⟩:=ag (x.nf.acc l);have CA:DE (∀ (v u:Value) (W:A'),lx W v x.nf->bQ aM W u l->ah 213 #[v,u] W fun e w'=>e=AN (Dn #[GO B,AM AT 0])/\aa W w'):=AI fun v u W hv hu=>by rw[hB];exact BL v u x.nf h2.1 l hst W hv h2.2.1 hu (Bs (Iy h2.1 hst) (by decide))
     have p8:DE (gu ps r (k+1)=gu ps r k++if B then [x.mark]else []):=AI (by rw[hB];exact Jf hx hl);clear hx hl Dr j8 h2 hst hB;go_wp2;refine aA ?_;intro V hV;have BX:DE (ar V wo.heap.size #[An x0 n0 y0,An x1 n1 y1,An x2 n2 y2,An x3 n3 y3,GO x.nf.emp,GO x.zQ,AM AT x.mark] 124):=AI (by rw[hV];exact ar.new wo _ _);have XV:DE (aa wo V):=AI (by rw[hV];exact((Ext.refl wo).alloc _).below);have EB:V.cell? ⟨b2,fV+k,AF⟩=As (An a' l.length c'):=((ae.ai XV fun _ h=>h:ae (· <wo.heap.size) wo V).cell (p:=⟨b2,fV+k,AF⟩) hb2).trans cl;clear hV q0 q1 q2 q3 q4 q5 q6 cl;refine aL false (fun _=>False) (by kernel_rfl) 11 [0,1,0,0,12,28,63,127,255,255,511,2047] (fun i=>i==6) (by kernel_rfl) (fun i=>if i=6 then aX.yw _ (Dn #[GO B,AM AT 0])else aX.any _) ?_;intro C hC hne;have HC:=AI hC;have f0:=aC hC (p:=⟨wo.heap.size,0,AF⟩) BX.lt (fun h=>h) (BX.cell 0);have f1:=aC hC (p:=⟨wo.heap.size,1,AF⟩) BX.lt (fun h=>h) (BX.cell 1);have f2:=aC hC (p:=⟨wo.heap.size,2,AF⟩) BX.lt (fun h=>h) (BX.cell 2);have f3:=aC hC (p:=⟨wo.heap.size,3,AF⟩) BX.lt (fun h=>h) (BX.cell 3);have f4:=aC hC (p:=⟨wo.heap.size,4,AF⟩) BX.lt (fun h=>h) (BX.cell 4);have f5:=aC hC (p:=⟨b2,fV+k,AF⟩) (World.block_lt_of_cell? _ _ EB) (fun h=>h) EB;clear hC EB
     repeat (refine au (fun K hK=>?_);first | (refine cg rfl ?_;try go_simp;refine hK _ _ ?_;clear hK K) | (refine bV rfl rfl ?_;unfold aF;go_simp;refine hK _ _ ?_;clear hK K))
     refine au (fun K hK=>?_);refine ct rfl rfl (aX.yw _ (Dn #[GO B,AM AT 0])) rfl (fun W hW hN=>?_) (fun v hv=>?_)
     ·have hM:=(HC.out W).1 hW
      clear hW;go_simp;refine bI ((CA _ _ _ ((KC.below XV).below hM.below) ((Ex.below XV).below hM.below)).mono ?_);rintro e w2 ⟨rfl,hx⟩;exact⟨_,rfl,Move.ai hx,rfl,trivial⟩
     replace hv:v=_:=hv;subst hv;go_simp;refine hK _ _ ?_;clear hK K
     repeat (refine au (fun K hK=>?_);first | (refine cg rfl ?_;try go_simp;refine hK _ _ ?_;clear hK K) | (refine bV rfl rfl ?_;unfold aF;go_simp;refine hK _ _ ?_;clear hK K))
     refine bM (fun W hW hH=>?_);have ki:=(HC.out W).1 hW;have BW:=AI (BX.below ki.below BX.lt);have XW2:=AI (XV.trans (ki.below.mono XV.size));clear ki hW hH HC hne f0 f1 f2 f3 f4 f5;have i6:=BW.seven.2.2.2.2.2.2;have OW:=AI (ak HOm XW2);have U8:wo.heap.size<W.heap.size:=BW.lt;have ahR:we.heap.size<=wo.heap.size:=HX.size;cases B with
     | false=>
      go_wp2;go_roundw;case rel=>exact⟨k+1,by omega,by go_num,by rw[p8.out];simp only[Bool.false_eq_true,if_false,FF];rw[<-HAM.out];exact OW,HX.trans (XW2.mono ahR)⟩
      case measure=>simp[intOf];omega
     | true=>
      go_wp2_with (at_builtin;refine By _ rfl (.tmp 79) (.tmp 82) 39 rfl we.heap.size 3 iI (AM AT 0) 1 8 D_ y8 kP kQ kR rfl (by decide) _ _ _ rfl (OW.alloc _) ⟨W.heap.size,0,AF⟩ 1 1 [AM AT x.mark] rfl rfl (eF _ _ _) (by simp[C_]) (by unfold maxLen;omega) (by omega) (by simp;omega) ?_;intro v' w2 hown' hgrow hh hat;have jH:=AI hown';have HG2:=AI hgrow;clear hown' hgrow hh hat)
      go_roundw
      case rel=>
       refine⟨k+1,by omega,by go_num,?_,?_⟩
       ·rw[p8.out]
        simp only[if_true];rw[aJ,DH, <-HAM.out];exact jH
       ·have XX:=HX.trans (XW2.mono HX.size)
        exact(XX.alloc XX.size _).grown HG2 (by have:=XX.size;simp;omega) (fun c e=>(OW.lt c e).1)
      case measure=>simp[intOf];omega
    ·obtain rfl:k=n:=by omega
     have Il:¬ ((k:Int)<k):=by omega
     have CSo:DE (ah 214 #[An ma am mc] wo fun e w'=>e=AN (Dn #[])/\w'.ownsRow we.heap.size 3 1 (An ma am mc) am ((fF (gu ps r k)).map aM)/\ae (fun x=>x<wo.heap.size/\(An ma am mc).ownBlock≠As x) wo w'):=AI (Mt _ _ _ _ _ HOm (by omega));go_wp2_with fail
     refine CSo.mono ?_;rintro e wf ⟨rfl,ho,hx⟩;have OF:=AI ho;have Dt:∀ x,(An ma am mc).ownBlock=As x->we.heap.size<=x:=fun x e=>(HOm.lt x e).1
     have XF:DE (aa we wf):=AI (HX.trans (hx.mono fun x yX=>⟨aD yX HX.size,fun e=>by have h1:x<we.heap.size:=yX;have:=Dt x e;omega⟩:ae (· <we.heap.size) wo wf).below);clear ho hx HOm HX CSo Dt;have lH:gu ps r k=gW ps r:=by have:=Nw (ps:=ps) (row:=r) HR.1;rw[<-Si.out]at this;exact this
     obtain⟨cn,hcn⟩:=ag ((Lib.compact (fF (gu ps r k))).length);obtain⟨cx,PX⟩:=ag ((Lib.compact (fF (gu ps r k))).map aM);have MKS:DE (Lib.compact (fF (gu ps r k))=dP ps r):=AI (by rw[lH];exact yV fun x hx=>(OK.2 x hx).2.2);have aoH:cn<=64:=by have h5:=Lib.compact_length_le (fF (gu ps r k));rw[<-hcn,lq, <-HAM.out]at h5;omega
     have CC:DE (∀ W,W.ownsRow we.heap.size 3 1 (An ma am mc) am ((fF (gu ps r k)).map aM)->ah 215 #[An ma am mc] W fun e w'=>e=AN (An ma cn mc)/\w'.ownsRow we.heap.size 3 1 (An ma cn mc) cn cx/\ae (fun x=>x<W.heap.size/\(An ma am mc).ownBlock≠As x) W w'):=AI fun W hW=>(Cj _ _ _ _ W hW (by omega)).mono fun e w' ⟨u,he,h1,h2,h3⟩=>by
      have h4:=za (by rw[lq, <-HAM.out]) h3;rw[<-hcn]at h4 h1;rw[<-PX]at h1;rw[h4]at he h1;exact⟨he,h1,h2⟩
     have HCN:DE (cn=(dP ps r).length/\cx=(dP ps r).map aM):=AI ⟨by rw[hcn,MKS.out],by rw[PX,MKS.out]⟩;have EW:wm.ownsRow base 39 1 kv L ks:=by have:=MW.uu.1;rw[<-Dq.out]at this;exact this
     obtain⟨ka,kc,rfl⟩:=ownsRow_form EW;have KR0:=AI EW;have s7:wm.ownsRow base 27 1 (An sa L sc) L us:=by have:=MW.st.1;rw[<-Dq.out]at this;exact this
     have SW:=AI s7
     have KRE:DE (we.ownsRow base 39 1 (An ka L kc) L ks):=AI (aj EW KE fun x hx=>⟨(EW.lt x hx).2,lZ EW MW.map (fun c fz e=>by cases e) x hx,cy MW.blk EW (by decide) x hx,fun e2=>by
      rcases ownBlock_ne (by decide) EW s7 with h5 | h5
      ·rw[h5]at hx;cases hx
      ·exact h5 (by rw[hx,e2])⟩)
     have adq:∀ x,(An ka L kc).ownBlock=As x->x<we.heap.size:=fun x e=>(KRE.lt x e).2
     have HKV:=AI adq;have BF:=AI (BE.below XF BE.lt);have KRF:=AI (ak KRE XF);have adr:(An ka L kc).ownBlock≠As mb:=fun e=>cy BE KRE (by decide) mb e rfl
     have ahS:we.heap.size<=wf.heap.size:=XF.size;clear lH hcn PX EW s7 adq;obtain⟨c0,c1,c2,c3,c4,c5,c6⟩:=BF.seven;go_wp2_with fail
     refine RegQ.bL (yz we.heap.size base L cn (An ka L kc) (An ma cn mc) ks cx) yz.drew (fun _ _ _ h k=>h.trans k) (by kernel_rfl) 10 [0,0,2,6,14,30,0,64,192,510,1023,2047,4095,8191] (fun i=>i==7 || i==8 || i==9 || i==13) (by kernel_rfl) (fun i=>if i=7 then wW.YU we.heap.size base L cn (An ka L kc) (An ma cn mc) ks cx else if i=8 then wW.box we.heap.size base L cn (An ka L kc) (An ma cn mc) ks cx else if i=9 then wW.new we.heap.size base L cn (An ka L kc) (An ma cn mc) ks cx else aX.any _) (fun j W=>j=7->W.ownsRow we.heap.size 3 1 (An ma am mc) am ((fF (gu ps r k)).map aM)) (fun _ _ _=>OF) ?_;intro C hC hne;have HC:=AI hC;have f6:∀ W: {W//C W},W.1.cell? ⟨mb,6,AF⟩=As (An ka L kc):=fun W=>(((hC W.1).1 W.2).keep.cell (p:=⟨mb,6,AF⟩) ⟨BE.lt,BF.lt,adr⟩).trans c6
     clear hC c0 c1 c2 c3 c4 c5 c6
     repeat (refine RegQ.au (fun K hK=>?_);first | (refine RegQ.cg rfl ?_;try go_simp;refine hK _ _ ?_;clear hK K) | (refine RegQ.bV rfl rfl ?_;unfold aF;go_simp;refine hK _ _ ?_;clear hK K))
     refine RegQ.au (fun K hK=>?_);refine RegQ.ct rfl rfl (wW.YU we.heap.size base L cn (An ka L kc) (An ma cn mc) ks cx) rfl (fun W hW hD hN=>?_) (fun v hv=>?_)
     ·have hD7:=hD rfl
      clear hW hD hN hK K;go_simp;refine bI ((CC W hD7).mono ?_);rintro e w2 ⟨rfl,ho,hk2⟩;exact⟨_,rfl,⟨yz.compact hD7 hk2 ho,fun j hj _ e=>absurd e hj⟩,rfl,ho⟩
     replace hv:v=_:=hv;subst hv;go_simp;refine hK _ _ ?_;clear hK K;refine RegQ.au (fun K hK=>?_);refine RegQ.ct rfl rfl (wW.box we.heap.size base L cn (An ka L kc) (An ma cn mc) ks cx) rfl (fun W hW hD hN=>?_) (fun v hv=>?_)
     ·have hMz:=((HC W).1 hW).size
      clear hW hN hK K;go_simp;exact⟨⟨yz.below ((Ext.refl _).alloc _).below,fun j _ _ h e=>(h e).alloc _⟩,⟨_,by omega,rfl⟩,fun b hb=>by cases hb;exact ar.new _ _ _⟩
     obtain⟨bx,Zl,rfl⟩:=hv;go_simp;refine hK _ _ ?_;clear hK K;refine RegQ.au (fun K hK=>?_);refine RegQ.ct rfl rfl (wW.new we.heap.size base L cn (An ka L kc) (An ma cn mc) ks cx) rfl (fun W hW hD hN=>?_) (fun v hv=>?_)
     ·have ki:=(HC.out W).1 hW
      have rV:ar W bx #[An ma cn mc] 39:=hN.at 0 rfl (by kernel_rfl) bx rfl;have hkw:=ki.old KRF;have hMz:=ki.size;have HBW:=AI rV;have zb:=AI hkw;clear hW hN hK K ki rV hkw;refine l4 (.tmp 92) (.tmp 95) 27 rfl base 39 iL (An AF 0 0) 1 24 C' zY mR mS mU rfl (by decide) (An ka L kc) L ks rfl zb ⟨bx,0,AF⟩ 1 1 [An ma cn mc] rfl HBW.WC rfl (by simp[C_]) (by unfold maxLen;omega) (by omega) (by omega) (by decide) ?_;intro v' w2 ho hg kK;refine⟨⟨yz.append zb HKV ho hg (kK.imp (fun h=>h.1) id),fun j _ _ h e=>(h e).kept hg (ownBlock_ne (by decide) (h e) zb)⟩,ownsRow_form ho,ho,?_⟩;rcases kK with⟨_,h⟩ | ⟨g,cap,h1,h2,_⟩
      ·exact .inr fun x hx=>by rw[h]at hx;cases hx;omega
      ·exact .inl (by rw[h2,h1];rfl)
     obtain⟨kb,kd,rfl⟩:=hv;go_simp;refine hK _ _ ?_;clear hK K;refine RegQ.bM (fun W hW hH=>?_);have ki:=(HC.out W).1 hW;have NR:DE (W.ownsRow base 39 1 (An kb (L+1) kd) (L+1) (ks++ [An ma cn mc])/\((An kb (L+1) kd).ownBlock=(An ka L kc).ownBlock\/∀ x,(An kb (L+1) kd).ownBlock=As x->we.heap.size<=x)):=AI (hH _ (aw (show _=As _ from rfl:_[0]? =As _)));have CR:DE (W.ownsRow we.heap.size 3 1 (An ma cn mc) cn cx):=AI (hH _ (aw (show _=As _ from rfl:_[2]? =As _)));have BG:=AI (BF.keeps ki.keep ⟨BE.lt,BF.lt,adr⟩);have KV:=AI ki.keep;clear ki hW hH HC hne f6 CC OF;obtain⟨c0,c1,c2,c3,c4,c5,c6⟩:=BG.seven;have z6:=BG.frozen 6;have wL:AT.wrap (L:Int)=L:=IntWalk.i64_in _ (by omega);go_wp2;refine Ep ?_;intro wg hwg;go_ret;have Ua:wm.heap.size<=we.heap.size:=KE.size;have h1m:w1.heap.size<=wm.heap.size:=Bs HK.size XW.size;have ZN:∀ x,(An ka L kc).ownBlock=As x->base<=x/\x<w1.heap.size:=fun x e=>M1.uu.1.lt x e
     have ahT:∀ x,(An sa L sc).ownBlock=As x->base<=x/\x<w1.heap.size:=fun x e=>M1.st.1.lt x e
     have aoJ:=M1.blk.lt;have aoK:=M1.map.lt;have K2:ae (fun x=>x<we.heap.size/\x≠mb/\(An ka L kc).ownBlock≠As x) we wg:=by rw[hwg];exact((ae.ai XF fun x hx=>hx.1:ae (fun x=>x<we.heap.size/\x≠mb/\(An ka L kc).ownBlock≠As x) we wf).tr (KV.mono fun x hx=>⟨hx.1,aD hx.1 ahS,hx.2.2⟩)).setCell (fun h=>h.2.1 rfl) _
     have K:ae (fun x=>x<wm.heap.size/\x≠ob/\x≠mb/\(An sa L sc).ownBlock≠As x/\(An ka L kc).ownBlock≠As x) wm wg:=(KE.mono fun x hx=>⟨hx.1,hx.2.1,hx.2.2.1,hx.2.2.2.1⟩).tr (K2.mono fun x hx=>⟨aD hx.1 Ua,hx.2.2.1,hx.2.2.2.2⟩);obtain⟨lus,ll1,ll2,ll3⟩:=LE.out;have ZO:∀ x,(An la r.length lc).ownBlock=As x->w1.heap.size<=x/\x<we.heap.size:=fun x e=>ll2.lt x e
     have Sj:∀ (v y:Value) (N:Nat),(∀ x,v.ownBlock=As x->N<=x)->(∀ x,y.ownBlock=As x->x<N)->pK v y:=fun v y N h1 h2=>by
      cases e:v.ownBlock with
      | none=>exact .inl e
      | some x=>exact .inr fun e2=>by have:=h1 x e;have:=h2 x (by rw[<-e2,e]);omega
     have zB:ae (fun x=>x<w1.heap.size/\(x<base\/¬F x)) w wg:=(ae.ai XW fun x hx=>aD hx.1 HK.size:ae (fun x=>x<w1.heap.size/\(x<base\/¬F x)) w wm).tr (K.mono fun x hx=>⟨by omega,fun e=>by subst e;rcases hx.2 with h | h;exact absurd M1.bo (by omega);exact h M1.fo,fun e=>by subst e;rcases hx.2 with h | h;exact absurd M1.bm (by omega);exact h M1.fm,fun e=>by rcases hx.2 with h | h;exact absurd (ahT x e).1 (by omega);exact h (M1.st.2 x e),fun e=>by rcases hx.2 with h | h;exact absurd (ZN x e).1 (by omega);exact h (M1.uu.2 x e)⟩);have q1:ar wg mb #[An pa k pc,AM AT f,An sa2 (L+1) sc2,.map (As ob),cv,nv,An kb (L+1) kd] 196:=by rw[hwg];exact BG.set 6 _
     have q2:lB wg ob (rows++ [r]):=ME.keeps K2 ⟨ME.lt,(fun e=>by have h2:we.heap[mb]? =_:=BE.out;have h3:we.heap[ob]? =_:=ME.out;rw[e,h2]at h3;cases h3),fun e=>lZ KRE ME (fun c fz e=>by cases e) ob e rfl⟩
     have q3:ig F wg base 27 (An sa2 (L+1) sc2) (L+1) (us++ [An la r.length lc]):=⟨aj SE K2 fun x hx=>⟨(SE.lt x hx).2,cy BE SE (by decide) x hx,fun e2=>by
      rcases ownBlock_ne (by decide) SE KRE.out with h5 | h5
      ·rw[h5]at hx;cases hx
      ·exact h5 (by rw[hx,e2])⟩,fun x hx=>by
      rcases L9.out with h | h
      ·exact M1.st.2 x (h.symm.trans hx)
      ·rw[h]at hx;cases hx;exact HF _ (by have:=Vx.out;simp;omega)⟩
     have q4:MX F wg base (An la r.length lc) r:=(MX.of (LE.keeps K2 fun x h1 h2=>⟨h2,by omega,fun e=>by have:=(ZN x e).2;omega⟩) HF).base hb1;have q5:pK (An la r.length lc) nv:=Sj _ _ w1.heap.size (fun x e=>(ZO x e).1) (fun x e=>(M1.uT.1.lt x e).2);have q6:pK (An la r.length lc) (An kb (L+1) kd):=by
      rcases NR.2 with h | h
      ·exact Sj _ _ w1.heap.size (fun x e=>(ZO x e).1) (fun x e=>(ZN x (h.symm.trans e)).2)
      ·cases e:(An la r.length lc).ownBlock with
       | none=>exact .inl e
       | some x=>exact .inr fun e2=>by have:=(ZO x e).2;have:=h x (by rw[<-e2,e]);omega
     have q7:ig F wg base 39 (An kb (L+1) kd) (L+1) (ks++ [An ma cn mc]):=⟨by rw[hwg];exact aj NR.1 ((ae.refl (· ≠mb) W).setCell (p:=⟨mb,6,AF⟩) (fun h=>h rfl) _) fun x hx=>cy BG NR.1 (by decide) x hx,fun x hx=>by
      rcases NR.2 with h | h
      ·exact M1.uu.2 x (h.symm.trans hx)
      ·exact HF x (by have:=h x hx;omega)⟩
     have q8:ig F wg base 3 (An ma cn mc) cn cx:=⟨by rw[hwg];exact aH (aj CR ((ae.refl (· ≠mb) W).setCell (p:=⟨mb,6,AF⟩) (fun h=>h rfl) _) fun x hx=>cy BG CR (by decide) x hx) ado,fun x hx=>HF x (by have:=(CR.lt x hx).1;omega)⟩;have q9:∀ v,(∀ x,v.ownBlock=As x->x<wm.heap.size)->pK v (An ka L kc)->pK v (An kb (L+1) kd):=fun v h1 h2=>h2.step NR.2 fun b e=>aD (h1 b e) Ua
     have MF:=Mk.more MW Dq K q1 q2 q3 q4 q5 q6 q7 q8 HCN.1 HCN.2 q9;exact⟨zB,.inr (.inl ⟨HQ,by rw[<-Dq.out];omega,by rw[<-Dq.out];rfl,_,_,_,_,_,_,MF⟩)⟩
 ·have HQ:=AI hq
  obtain⟨ix,Vy⟩:=ag (YI rows r);rw[<-Vy]at hlk;have HIX:=AI Vy;clear hq Vy;go_wp2;go_ret;refine⟨ae.ai XA fun x hx=>aD hx.1 HK.size,.inl ⟨HQ,by rw[HIX.out];rfl,_,_,_,_,_,_,MA⟩⟩
theorem Jh (p:Addr) (w:A'): CallsD Dl 170 #[B' (As p)] .returning w fun e u' w'=>e=AN (Dn #[])/\u'=.returning/\w'=w:=by
 refine GA GF rfl fun adu cs hu=>?_
 apply wpS_seq;apply wpS_region;simp[wpOpsS,go_sem,recoverD,hu,GB,Exit.thenS];refine wpS_of_wp ?_;go_wp2;cases adu
 simp_all[bodyPostS,results,FG]
theorem uW (p:Addr) (x:Value) (Xi:List PanicEntry) (w:A') (hc:w.cell? p=As x) (hz:w.frozen? p=false) (hp:p.block<w.heap.size): CallsD Dl 170 #[B' (As p)] (.panicking ({v:=.iface 265 (G_ #[]),recovered:=false} ::Xi)) w fun e u' w'=>
   e=AN (Dn #[])/\u'=.panicking ({v:=.iface 265 (G_ #[]),recovered:=true} ::Xi)/\∃ w2,aa w w2/\w'=w2.setCell p (AM AT 181):=by
 refine GA GF rfl fun adu cs hu=>?_
 apply wpS_seq;apply wpS_region;simp[wpOpsS,go_sem,recoverD,hu,GB,Exit.thenS];refine wpS_of_wp ?_;have hta:∀ w:A',(Instr.typeAssert (.iface 265 (G_ #[])) 20 265 true).run Dl w=.ok (Dn #[G_ #[],GO true]) w:=fun _=>by kernel_rfl
 have hK:ae (· <w.heap.size) w (w.alloc (.cells #[] 265)):=ae.ai ((Ext.refl w).alloc _).below fun _ h=>h
 have hc2:(w.alloc (.cells #[] 265)).cell? p=As x:=(hK.cell hp).trans hc;have hz2:(w.alloc (.cells #[] 265)).frozen? p=false:=(hK.frozen hp).trans hz;go_wp2;refine⟨rfl,_,rfl,Dn #[],?_,rfl,rfl,_,((Ext.refl w).alloc _).below,rfl⟩;simp[results,FG]
theorem Ny (n:Nat) (hn:n<=64) (w:A'):ah 142 #[AM DP 1,AM DP n] w fun e w'=>e=AN (Dn #[AM DP 0,AM DP n])/\w'=w:=by
 have a1:bits .and DP (1:Int) 4294967295=1:=by decide
 have a2:bits .and DP (n:Int) 4294967295=n:=by
  have h:∀ m:Fin 65,bits .and DP ((m.val:Nat):Int) 4294967295=(m.val:Int):=by decide+kernel
  exact h ⟨n,by omega⟩
 go_enter Tryz.func142,Tryz.ntmps142
 have h0:(n:Int)/4294967296=0:=by omega
 have a3:bits .and DP (0:Int) 4294967295=0:=by decide
 have a4:DP.wrap 0=0:=by decide
 go_wp2;refine bodyPost_ret (v:=Dn #[AM DP 0,AM DP n]) (by simp[results,Tryz.results142,go_sem]) rfl ⟨rfl,rfl⟩
theorem Vz (n:Nat) (hn:n<=64) (w:A'):ah 80 #[AM DP 1,AM DP n] w fun e w'=>e=AN (Dn #[AM DP 0,AM DP n])/\w'=w:=by
 have CM:=AI (Ny n hn w);go_enter Tryz.func80,Tryz.ntmps80;go_wp2_with fail
 refine CM.mono ?_;rintro e w2 ⟨rfl,hw⟩;replace hw:=hw.symm;subst hw;go_wp2;refine bodyPost_ret (v:=Dn #[AM DP 0,AM DP n]) (by simp[results,Tryz.results80,go_sem]) rfl ⟨rfl,rfl⟩
theorem Ji (n:Nat):(madeCells (An AF 0 0).cells (n*1)).toList=A_ n (An AF 0 0):=by
 apply List.ext_getElem?;intro i;simp only[madeCells,Value.cells,Nat.mul_one,Array.toList_map,Array.toList_range,aO,Bm];rcases Nat.lt_or_ge i n with h | h
 ·rw[List.getElem?_range h,if_pos h];simp[Nat.mod_one]
 ·rw[aS (by simpa using h),if_neg (by omega)];rfl
def nW (n m:Nat) (h:Value):List Value:=A_ m h++A_ (n-m) (An AF 0 0)
theorem xy {n m:Nat} (h:Value) (hm:m<=n):(nW n m h).length=n:=by unfold nW;simp;omega
theorem Fv {base g n m k:Nat} {h:Value} {W:A'} (h1:h.oneCell'=true) (ho:W.ownsRow base 39 1 (An (As ⟨g,0,AF⟩) n n) n (nW n m h)) (hk:m+k<=n) (a:Addr) (sl sc:Nat) (hs:∀ j,j<k->W.cell? (a.add j)=As h) (hkk:k=D' sl (n-m)) (ty:TypeId): ∃ W',(Builtin.copy_ #[27,27] ty #[An (As ⟨g,m,AF⟩) (n-m) (n-m),An (As a) sl sc]).run Dl W=.ok (AM AT k) W'/\W'.ownsRow base 39 1 (An (As ⟨g,0,AF⟩) n n) n (nW n (m+k) h)/\ae (· ≠g) W W':=by
 rcases ho.2 with⟨e,_⟩ | ⟨g',cap,cur,e,hb,hg,hc,hcm,hsz,eT⟩
 ·cases e
 ·cases e
  have Bc:cur.toList=nW n m h:=by rw[<-eT,Cd];simp[hsz]
  refine⟨_,by
         have:=run_copy_row (P:=Dl) W 27 27 ty 39 g m (n-m) (n-m) a sl sc cur 39 (A_ k h) C' (by kernel_rfl) hg (by rw[AS];exact hkk) (fun j v hj=>by
    rw[Bm]at hj;split at hj
    ·cases hj;exact hs j (by assumption)
    ·cases hj) (by rw[AS,hsz];omega) (fun v hv=>by rw[List.eq_of_mem_replicate hv];exact h1)
         rw[AS]at this
         exact this,?_,(ae.refl _ _).setRow (fun h=>h rfl) _⟩
  have Fw:(cur.toList.take m++A_ k h++cur.toList.drop (m+k))=nW n (m+k) h:=by rw[Bc];unfold nW;rw[List.take_left' (by simp),List.replicate_append_replicate];congr 1;rw[List.drop_append,List.drop_eq_nil_of_le (by simp),AS,List.nil_append,List.drop_replicate];congr 1;omega
  rw[Fw];refine⟨by rw[xy h hk];omega,.inr ⟨g,n,_,rfl,hb,setRow_heap W g cur _ _ _ hg,hc,hcm,by simp[xy h hk],?_⟩⟩;rw[Cd];simp[xy h hk]
theorem Nz {P:Program} {Cl:FuncId->Array Value->A'->(GC->A'->Prop)->Prop} {Rd:Nat->FuncId->Array Value->Code->Code->A'->(GC->A'->Prop)->Prop} {o:Oper} {a:Act} {W W':A'} {post:Value->A'->Prop} {v:Value} (d s:Operand) (t1 t2:TypeId) (ho:o.op=.call {callee:=.builtin .copy,args:= #[d,s],argTypes:= #[t1,t2]}) (dv sv:Value) (hd:a.eval d=dv) (hs:a.eval s=sv) (hr:(Builtin.copy_ #[t1,t2] o.type #[dv,sv]).run P W=.ok v W') (h:post v W'):jD Cl Rd post ((execOp a.eval o).run P W):=by unfold execOp;simp only[ho,resolve,invoke,builtin,Sem.run_bind,Sem.run_pure,Result.andThen_ok,List.map_toArray,List.map_cons,List.map_nil,hs,hd,hr];exact h
def VB (g n m:Nat) (h:Value) (A B:A'):Prop:=ae (fun x=>x<A.heap.size/\x≠g) A B/\(A.ownsRow g 39 1 (An (As ⟨g,0,AF⟩) n n) n (nW n m h)->B.ownsRow g 39 1 (An (As ⟨g,0,AF⟩) n n) n (nW n m h))
theorem VB.trans {g n m:Nat} {h:Value} {A B C:A'} (h1:VB g n m h A B) (h2:VB g n m h B C):VB g n m h A C:=⟨h1.1.trans h2.1 fun _ hx=>⟨aD hx.1 h1.1.size,hx.2⟩,fun a=>h2.2 (h1.2 a)⟩
theorem VB.drew {g n m:Nat} {h:Value} {A:A'} :VB g n m h A A.drew:=⟨(ae.refl _ _).drew,fun a=>a⟩
def Xj (g n m:Nat) (h v:Value):aX (VB g n m h):=⟨fun u=>u=v,fun _ W=>W.ownsRow g 39 1 (An (As ⟨g,0,AF⟩) n n) n (nW n m h),v,rfl,fun _ _ _ hm _ h=>hm.2 h⟩
theorem Jj (b gb:Nat) (h:Value) (n:Nat) (hn:n<=64) (w:A') (hc:w.cell? ⟨gb,0,AF⟩=As h) (hh:w.ownsRow b 3 1 h 1 [aM (-1)]) (hb:b<=w.heap.size): ah 172 #[An (As ⟨gb,0,AF⟩) 1 1,AM AT n] w fun e w'=>∃ u,e=AN u/\bw b w' u (A_ n [-1])/\aa w w':=by
 obtain⟨iL,zY,mR,mS,mU⟩:=Dm Tryz.tX;have CM:=AI (Vz n hn);have cv1:DP.wrap (n:Int)=n:=by have:=IntWalk.u64_in (n:Int) (by omega);exact this
 have cv2:AT.wrap (n:Int)=n:=IntWalk.i64_in _ (by omega);have d1:decide ((n:Int)<0)=false:=decide_eq_false (by omega);have d2:decide ((9223372036854775807:Int)<(n:Int))=false:=decide_eq_false (by omega);have HH:=AI hh;have HCc:=AI hc;have hgb:=World.block_lt_of_cell? _ _ hc;clear hh hc;go_enter Tryz.func172,Tryz.ntmps172;go_wp2_with fail
 refine(CM w).mono ?_;rintro e w2 ⟨rfl,hw⟩;replace hw:=hw.symm;subst hw;go_wp2_with (at_make;refine wpList_make_full _ rfl (.tmp 29) (.tmp 29) 27 rfl w.heap.size 39 iL (An AF 0 0) 1 C' zY mR mS AT AT _ _ n rfl rfl rfl rfl (by rw[mU];omega) (by unfold maxLen;omega) (aG _) ?_;intro w3 hr hg;refine Hid.out ?_);refine AI ?_;have hs3:w.heap.size<w3.heap.size:=by
  rcases hr.2 with⟨h5,_⟩ | ⟨g,c,cur,h5,_,h6,_⟩
  ·cases h5
  ·cases h5;exact(Array.getElem?_eq_some_iff.1 h6).1
 have hb3:aa w w3:=(ae.bB hg fun x hx=>⟨hx,fun e=>by cases e⟩:ae (· <w.heap.size) w w3).below;rw[Ji]at hr;have h1h:h.oneCell'=true:=by obtain⟨a,c,rfl⟩:=ownsRow_form HH;rfl
 have hr2:w3.ownsRow w.heap.size 39 1 (An (As ⟨w.heap.size,0,AF⟩) n n) n (nW n 0 h):=by unfold nW;rw[EV];exact hr
 have hc3:w3.cell? ⟨gb,0,AF⟩=As h:=((ae.ai hb3 fun _ h=>h:ae (· <w.heap.size) w w3).cell (p:=⟨gb,0,AF⟩) hgb).trans HCc
 obtain⟨w4,Me,ho4,hk4⟩:=Fv (k:=D' 1 n) h1h hr2 (by rw[GG];exact Nat.min_le_right _ _) ⟨gb,0,AF⟩ 1 1 (fun j hj=>by
  have hj0:j=0:=by have:=aD hj (Nat.min_le_left 1 n);omega
  subst hj0
  exact hc3) (by rw[EV]) 3
 rw[EV]at Me;rw[GG]at ho4;obtain⟨k0,tJ⟩:=ag (D' 1 n);rw[<-tJ]at Me ho4;have ZP:k0<=n/\(n=0\/1<=k0):=by rw[tJ];unfold D';constructor<;>omega
 have HO4:=AI ho4;have X4:DE (aa w w4):=AI (hb3.trans (hk4.mono fun x hx=>by have h5:x<w.heap.size:=hx;show x≠w.heap.size;omega:ae (· <w.heap.size) w3 w4).below);clear hr hr2 hg hb3 hc3 ho4 hk4 tJ CM;go_wp2_with (at_builtin;refine Lib.wpList_copy_run _ rfl (.tmp 31) (.tmp 32) 27 27 rfl _ _ rfl rfl Me ?_;clear Me);go_loopw [8] (fun mv wr=>∃ m:Nat,m<=n/\(n=0\/1<=m)/\mv=AM AT m/\wr.ownsRow w.heap.size 39 1 (An (As ⟨w.heap.size,0,AF⟩) n n) n (nW n m h)/\aa w wr) (fun mv _=>n-(intOf mv).toNat);case atStart=>exact⟨k0,ZP.1,ZP.2,rfl,HO4,X4⟩
 case round=>
  obtain⟨m,hm,rY,rfl,ho,hx⟩:=hrel;obtain⟨wo,rfl⟩:=ag (wr:A');have HO:=AI ho;have HX:=AI hx;clear ho hx HO4 X4 ZP;by_cases hlt:m<n
  ·have hmi:(m:Int)<n:=by omega
   have hmn:¬ ((n:Int)<m):=by omega
   have pd:(m:Int)<=n:=by omega
   have dml:decide ((m:Int)<=n)=true:=decide_eq_true pd;obtain⟨k,hk⟩:=ag (D' m (n-m));have Il:m+k<=n/\1<=k/\k<=m:=by rw[hk];unfold D';refine⟨?_,?_,?_⟩<;>omega
   have GU:=AI hk;clear hk;go_wp2_with fail
   refine RegQ.bL (VB w.heap.size n (m+k) h) VB.drew (fun _ _ _ h k=>h.trans k) (by kernel_rfl) 8 [0,0,0,6,0,0,48,126,255,511] (fun i=>i==7) (by kernel_rfl) (fun i=>if i=7 then Xj w.heap.size n (m+k) h (AM AT k)else aX.any _) (fun j W=>(j=7)->W.ownsRow w.heap.size 39 1 (An (As ⟨w.heap.size,0,AF⟩) n n) n (nW n m h)) (fun _ _ _=>HO) ?_;intro C hC hne;have HC:=AI hC;clear hC
   repeat (refine RegQ.au (fun K hK=>?_);first | (refine RegQ.cg rfl ?_;try go_simp;refine hK _ _ ?_;clear hK K) | (refine RegQ.bV rfl rfl ?_;unfold aF;go_simp;refine hK _ _ ?_;clear hK K))
   refine RegQ.au (fun K hK=>?_);refine RegQ.ct rfl rfl (Xj w.heap.size n (m+k) h (AM AT k)) rfl (fun W hW hD hN=>?_) (fun v hv=>?_)
   ·have hD7:=hD rfl
    clear hW hN hK K hD
    obtain⟨W',e1,e2,e3⟩:=Fv (k:=k) h1h hD7 Il.1 ⟨w.heap.size,0,AF⟩ m n (fun j hj=>by
     have:(⟨w.heap.size,0,AF⟩:Addr).add j=⟨w.heap.size,j,AF⟩:=by simp[Addr.add];omega
     rw[this,hD7.cellAt j (by omega)];unfold nW
     rw[bK (by rw[AS];omega),Bm,if_pos (by omega)]) GU 3
    refine Nz (.tmp 41) (.tmp 44) 27 27 rfl _ _ ?_ ?_ e1 ?_
    ·show An (if n=m then _ else _) _ _=_
     rw[if_neg (by omega)]
    ·rfl
    ·exact⟨⟨⟨e3.mono fun x hx=>hx.2,fun _=>e2⟩,fun j hj _ _ e=>absurd e hj⟩,rfl,e2⟩
   replace hv:v=_:=hv;subst hv;go_simp;refine hK _ _ ?_;clear hK K
   repeat (refine RegQ.au (fun K hK=>?_);first | (refine RegQ.cg rfl ?_;try go_simp;refine hK _ _ ?_;clear hK K) | (refine RegQ.bV rfl rfl ?_;unfold aF;go_simp;refine hK _ _ ?_;clear hK K))
   refine RegQ.bM (fun W hW hH=>?_);have ki:=(HC.out W).1 hW;have NR:DE (W.ownsRow w.heap.size 39 1 (An (As ⟨w.heap.size,0,AF⟩) n n) n (nW n (m+k) h)):=AI (hH _ (aw (show _=As _ from rfl:_[0]? =As _)));have XR:DE (aa w W):=AI (HX.trans (ki.1.mono fun x hx=>⟨aD hx HX.size,GH hx⟩:ae (· <w.heap.size) wo W).below);clear ki hW hH HC hne HO HX;go_wp2;go_roundw;case rel=>exact⟨m+k,Il.1,by omega,by go_num,NR,XR⟩
   case measure=>simp[intOf];omega
  ·obtain rfl:m=n:=by omega
   have hmn:¬ ((m:Int)<m):=by omega
   go_wp2;go_ret;refine⟨_,rfl,⟨A_ m h,by simp,?_,fun i u l hu hl=>?_⟩,HX⟩
   ·have h5:=aH HO hb
    unfold nW at h5;rw[Nat.sub_self,List.replicate_zero,FF]at h5;rw[AS];exact h5
   ·rw[Bm]at hu hl
    split at hu
    ·cases hu
     rw[if_pos (by assumption)]at hl;cases hl;exact ak HH HX
    ·cases hu
theorem ZQ {α:Type} [DecidableEq α] {l:List α} {q:α} (h:q∈l):l.idxOf q<l.length:=List.idxOf_lt_length_of_mem h
theorem ZT {base c x:Nat} {F0:Nat->Prop} (h:x<base\/x=c\/¬F0 x):x<base\/¬ (F0 x/\x≠c):=by
 rcases h with h | h | h
 ·exact .inl h
 ·exact .inr fun h2=>h2.2 h
 ·exact .inr fun h2=>h h2.1
theorem adv {base c x:Nat} {F0:Nat->Prop} {q:Prop} (h:x<base\/x=c\/¬F0 x):x<base\/¬ ((F0 x/\x≠c)/\q):=(ZT h).imp id fun h h2=>h h2.1
theorem uB (tmps:Array Value) (c0:Nat) (ht:tmps[4]?.getD undef=B' (As ⟨c0,0,AF⟩)) (R:GC->A'->Prop) (W:A') (hB:ar W c0 #[AM AT 0] 32) (h:∀ W',ae (fun x=>x<W.heap.size/\x≠c0) W W'->R (AN (AM AT 181)) W'): GS Dl GW tmps R [{target:=.fn (.func 170) #[B' (As ⟨c0,0,AF⟩)],args:= #[]}] (.panicking [{v:=.iface 265 (G_ #[]),recovered:=false}]) W:=by refine leaves_cons (f:=170) (args:= #[B' (As ⟨c0,0,AF⟩)]) (by simp) (by simp[go_sem]) ?_;refine(uW ⟨c0,0,AF⟩ (AM AT 0) [] W (hB.cell 0) (hB.frozen 0) hB.lt).mono ?_;rintro e u' w'' ⟨rfl,rfl,w2,hk,rfl⟩;have hB2:=hB.below hk hB.lt;have hB3:=hB2.set 0 (AM AT 181);have h1:=hB3.cell 0;have K:ae (fun x=>x<W.heap.size/\x≠c0) W (w2.setCell ⟨c0,0,AF⟩ (AM AT 181)):=(ae.ai hk fun x hx=>hx.1:ae (fun x=>x<W.heap.size/\x≠c0) W w2).setCell (fun h=>h.2 rfl) _;have h5:=h _ K;obtain⟨W2,hW2⟩:=ag (w2.setCell ⟨c0,0,AF⟩ (AM AT 181));rw[<-hW2]at h1 h5 ⊢;replace h1:W2.cell? ⟨c0,0,AF⟩=As (AM AT 181):=h1;simp[GS,settle,results,F_,go_sem,ht,h1];exact h5
theorem NA (tmps:Array Value) (c0:Nat) (k:Int) (ht:tmps[4]?.getD undef=B' (As ⟨c0,0,AF⟩)) (R:GC->A'->Prop) (W:A') (hB:ar W c0 #[AM AT k] 32) (h:R (AN (AM AT k)) W): GS Dl GW tmps R [{target:=.fn (.func 170) #[B' (As ⟨c0,0,AF⟩)],args:= #[]}] .returning W:=by refine leaves_cons (f:=170) (args:= #[B' (As ⟨c0,0,AF⟩)]) (by simp) (by simp[go_sem]) ?_;refine(Jh ⟨c0,0,AF⟩ W).mono ?_;rintro e u' w'' ⟨rfl,rfl,rfl⟩;have h1:w''.cell? ⟨c0,0,AF⟩=As (AM AT k):=hB.cell 0;simp[GS,settle,results,F_,go_sem,ht,h1];exact h
theorem Sk (F0:Nat->Prop) (base mb ob f:Nat) (pv cv lv:Value) (ps:List PT) (ls:List Nat) (ok:U5 ps) (w:A') (hF0:∀ x,w.heap.size<=x->F0 x) (hM:WK F0 w base mb ob f pv cv ps [] []) (hf:f<=4000) (hls:ls.length<=256) (Ui:∀ c∈ls,c<256) (hL:∀ W,ae (fun x=>x<w.heap.size/\(x<base\/¬F0 x)) w W->bQ cU W lv ls) (hP:∀ W,Gz base w W->ji W pv ps) (hT:∀ W,Gz base w W->nN W): ah 114 #[B' (As ⟨mb,0,AF⟩),lv] w fun e w'=>ae (fun x=>x<w.heap.size/\(x<base\/¬F0 x)) w w'/\((∃ st,xr ps ls f=As st/\e=AN (AM AT 0)/\WK (fun _=>True) w' base mb ob f pv cv ps st.1 (st.2.map fun r=>r.map B_))\/(xr ps ls f=AF/\e=AN (AM AT 181))):=by
 obtain⟨iL,zY,mR,mS,mU⟩:=Dm Tryz.tX;obtain⟨iI,y8,kP,kQ,kR⟩:=Dm Tryz.mH;obtain⟨sv,nv,kv,us,ns,ks,M⟩:=hM;obtain⟨pa,pc,rfl⟩:=(hP w (Below.refl _ _)).form;obtain⟨la,lc,rfl⟩:=(hL w (ae.refl _ _)).form;obtain⟨n,Kw⟩:=ag ps.length;obtain⟨m,hlm⟩:=ag ls.length;rw[<-Kw]at M hP ⊢;rw[<-hlm]at hL hls ⊢;have s4:n<=64:=by rw[Kw];exact ok.1
 have rV:base<w.heap.size:=Nat.lt_of_le_of_lt M.bm M.blk.lt;have oH:mb<w.heap.size:=M.blk.lt;have MW:=AI M;have Si:=AI Kw;have HLM:=AI hlm;have HL:=AI hL;have HP:=AI hP;have HT:=AI hT;have OK:=AI ok;have ZU:=AI Ui;have HF0:=AI hF0
 have CR:DE (∀ (b gb:Nat) (h:Value) (W:A'),W.cell? ⟨gb,0,AF⟩=As h->W.ownsRow b 3 1 h 1 [aM (-1)]->b<=W.heap.size->
  ah 172 #[An (As ⟨gb,0,AF⟩) 1 1,AM AT n] W fun e w'=>∃ u,e=AN u/\bw b w' u (A_ n [-1])/\aa W w'):=AI fun b gb h W h1 h2 h3=>Jj b gb h n s4 W h1 h2 h3
 have m0:w.cell? ⟨mb,0,AF⟩=As (An pa n pc):=M.blk.cell 0;clear M Kw hlm hL hP hT ok Ui hF0;have hmf:∀ (fn:Fn) (first cap:Array Value) (w:A'),(Instr.makeFunc fn first cap).run Dl w=.ok (.func fn first cap) w:=fun _ _ _ _=>rfl
 go_enter_defers Tryz.func114,Tryz.ntmps114
 have m1:(((w.alloc (.cells #[AM AT 0] 32)).alloc (.cells #[AM AT (-1)] 3)).alloc (.cells #[An (As ⟨w.heap.size+1,0,AF⟩) 1 1] 39)).cell? ⟨mb,0,AF⟩=As (An pa n pc):=
  ((ae.ai ((((Ext.refl w).alloc _).alloc _).alloc _).below fun _ h=>h:ae (· <w.heap.size) w _).cell (p:=⟨mb,0,AF⟩) oH).trans m0
 go_wp2_with fail
 refine(CR (w.heap.size+1) (w.heap.size+1+1) (An (As ⟨w.heap.size+1,0,AF⟩) 1 1) _ (by go_simp) ?_ (by simp)).mono ?_
 ·have h5:((w.alloc (.cells #[AM AT 0] 32)).alloc (.cells #[AM AT (-1)] 3)).ownsRow (w.heap.size+1) 3 1 (An (As ⟨w.heap.size+1,0,AF⟩) 1 1) 1 [AM AT (-1)]:=by
   have h6:=World.alloc_heap_new (w.alloc (.cells #[AM AT 0] 32)) (.cells #[AM AT (-1)] 3);rw[World.size_alloc]at h6;exact⟨rfl,.inr ⟨w.heap.size+1,1, #[AM AT (-1)],rfl,aG _,h6,aG _,by unfold maxLen;omega,rfl,rfl⟩⟩
  exact h5.alloc _
 rintro e w3 ⟨u,rfl,ho3,hk3⟩
 have CA:DE (∃ wA:A',wA.heap.size=w.heap.size+1/\aa w wA/\ar wA w.heap.size #[AM AT 0] 32/\aa wA w3):=AI ⟨w.alloc (.cells #[AM AT 0] 32),World.size_alloc _ _,((Ext.refl w).alloc _).below,ar.new _ _ _,by
  have h5:=(((Ext.refl (w.alloc (.cells #[AM AT 0] 32))).alloc (.cells #[AM AT (-1)] 3)).alloc (.cells #[An (As ⟨w.heap.size+1,0,AF⟩) 1 1] 39)).below
  exact h5.trans (hk3.mono h5.size)⟩
 have Xa:=AI ho3;clear ho3 hk3 m1 m0 CR;obtain⟨wA,hA1,hA2,hA3,hA4⟩:=CA.out;have G5:=AI hA1;have XA:=AI hA2;have BA:=AI hA3;have X3:=AI hA4;clear hA1 hA2 hA3 hA4 CA;have MA:DE (Mk (fun x=>F0 x/\x≠w.heap.size) wA base mb ob f (An pa n pc) cv ps [] [] sv nv kv us ns ks):=AI ((MW.mono fun x hx h=>⟨h,GH hx⟩).below XA);have PB:DE (Gz base w wA):=AI (XA.mono (D0 rV));have ZV:DE (∀ W W',ae (fun x=>x<wA.heap.size/\(x<base\/x=w.heap.size\/¬F0 x)) wA W->ae (fun x=>x<W.heap.size/\x≠w.heap.size) W W'->ae (fun x=>x<w.heap.size/\(x<base\/¬F0 x)) w W'):=AI fun W W' h1 h2=>by
  have h4:=h1.size;have h5:=G5.out;exact((ae.ai XA fun x hx=>hx.1:ae (fun x=>x<w.heap.size/\(x<base\/¬F0 x)) w wA).tr (h1.mono fun x hx=>⟨by omega,hx.2.imp id .inr⟩)).tr (h2.mono fun x hx=>⟨by omega,by omega⟩)
 clear MW;go_wp2_with fail
 refine(Av (fun x=>F0 x/\x≠w.heap.size) base mb ob f (An pa n pc) cv ps [] [] OK wA w3 ⟨_,_,_,_,_,_,MA⟩ X3 (fun x hx=>⟨HF0 x (by have:=G5.out;omega),by have:=G5.out;omega⟩) u (lS ps) ?_ (Bt ps) List.nodup_nil (fun p hp=>by cases hp) hf (Ft _) (fun W hW=>HP W (PB.out.trans hW)) (fun W hW=>HT W (PB.out.trans hW))).mono ?_
 ·have h5:=Xa.out
  have h6:lS ps=A_ n [-1]:=by unfold lS;rw[List.map_const',Si.out]
  rw[h6,G5.out];exact h5
 rintro e w4 ⟨hk4,hq⟩;rcases hq with⟨h1,_⟩ | ⟨h1,h2,rfl,hM4⟩ | ⟨h1,h2,rfl⟩
 ·cases h1
 ·have KA:DE (ae (fun x=>x<wA.heap.size/\(x<base\/x=w.heap.size\/¬F0 x)) wA w4):=AI ((ae.ai X3 fun x hx=>hx.1:ae (fun x=>x<wA.heap.size/\(x<base\/x=w.heap.size\/¬F0 x)) wA w3).tr (hk4.mono fun x hx=>⟨hx.1,ZT hx.2⟩))
  have M4:=AI hM4;have QK:1<=f:=by simp at h2;omega
  clear hk4 hM4 h1 h2 X3 Xa MA;go_wp2;go_loopw [5] (fun iv wr=>∃ (k:Nat) (rows:List (List (List Int))) (Bn:List (List Nat)),jq f (dG ps ls) ls.length (lS ps) k=As (rows,Bn)/\k<=rows.length/\iv=AM AT k/\WK (fun x=>F0 x/\x≠w.heap.size) wr base mb ob f (An pa n pc) cv ps rows (Bn.map fun r=>r.map B_)/\ae (fun x=>x<wA.heap.size/\(x<base\/x=w.heap.size\/¬F0 x)) wA wr) (fun iv _=>f-(intOf iv).toNat);case atStart=>exact⟨0,[lS ps],[],rfl,Ft _,rfl,M4,KA⟩
  case round=>
   obtain⟨k,rows,Bn,hst,hk,rfl,hM,hK⟩:=hrel;obtain⟨sv1,nv1,kv1,us1,ns1,ks1,M⟩:=hM;obtain⟨wo,rfl⟩:=ag (wr:A');have IS:=AI (Lb QK hst);obtain⟨L,ZW⟩:=ag rows.length;have ZY:=M.st.1;rw[<-ZW]at ZY hk;obtain⟨sa,sc,rfl⟩:=ownsRow_form ZY;have hLf:L<=f:=by rw[ZW];exact(Lb QK hst).le
   have MO:=AI M;have Dq:=AI ZW;have HST:=AI hst;have KO:=AI hK;have m2:wo.cell? ⟨mb,2,AF⟩=As (An sa L sc):=M.blk.cell 2;clear hst hK M ZW ZY M4 KA;by_cases hlt:k<L
   ·have eE:(k:Int)<L:=by omega
    obtain⟨p,hp⟩:∃ p,rows[k]? =As p:=⟨_,az (by have:=Dq.out;omega)⟩;have HPp:=AI hp;clear hp;go_wp2;clear m2;go_loopw [6,31] (fun nv2 iv wi=>∃ (j:Nat) (il:List (List (List Int))) (tu:List Nat),gT f (dG ps ls p) rows j=As (il,tu)/\j<=m/\iv=AM AT j/\wi.ownsRow wA.heap.size 3 1 nv2 j (tu.map fun t:Nat=>AM AT t)/\WK (fun x=>(F0 x/\x≠w.heap.size)/\nv2.ownBlock≠As x) wi base mb ob f (An pa n pc) cv ps il (Bn.map fun r=>r.map B_)/\ae (fun x=>x<wA.heap.size/\(x<base\/x=w.heap.size\/¬F0 x)) wA wi) (fun _ iv _=>m-(intOf iv).toNat);case atStart=>exact⟨0,rows,[],rfl,Ft _,rfl,World.ownsRow_nil _ _ _ _,⟨_,_,_,_,_,_,MO.mono fun x _ hx=>⟨hx,fun e=>by cases e⟩⟩,KO⟩
    case round=>
     obtain⟨j,il,tu,hr2,hj,rfl,GQ,T9,hK2⟩:=hrel;obtain⟨wj,rfl⟩:=ag (wr:A');have RO:=AI (rH (P:=pM ps) IS.nodup IS.le IS.all j (fun _ _=>rM (IS.all p (aw HPp)) _) hr2);have HR2:=AI hr2;have jH:=AI GQ;have K2:=AI hK2;have M2:=AI T9;clear hr2 GQ hK2 T9;by_cases Hf:j<m
     ·have ku:(j:Int)<m:=by omega
      obtain⟨c,hc⟩:∃ c,ls[j]? =As c:=⟨_,az (by have:=HLM.out;omega)⟩;have jf:c<256:=ZU.out c (aw hc);have HG:DE (dG ps ls p j=eX ps p c):=AI (by unfold dG;rw[bu,hc];rfl);have PJ:DE (Gz base w wj):=AI (PB.out.trans (K2.mono fun x (hx:x<base)=>⟨by have:=G5.out;omega,.inl hx⟩:ae (· <base) wA wj).below);obtain⟨lb,lo,rfl,Ui,fl⟩:=(HL.out wj ((ae.ai XA fun x hx=>hx.1:ae (fun x=>x<w.heap.size/\(x<base\/¬F0 x)) w wA).tr (K2.mono fun x hx=>⟨by have:=G5.out;omega,hx.2.imp id .inr⟩))).elem hc;replace fl:wj.cell? ⟨lb,lo+j,AF⟩=As (AM .u8 c):=fl;obtain⟨sv2,nv3,kv2,us2,ns2,ks2,M⟩:=M2.out;obtain⟨L2,hL2⟩:=ag il.length;have VC:=M.st.1;rw[<-hL2]at VC;obtain⟨sa2,sc2,rfl⟩:=ownsRow_form VC;have aoS:L<=L2:=by have h5:=RO.pre.length_le;have h6:=Dq.out;simp only at h5;omega
      have hk2:k<L2:=by omega
      have aoT:(0:Int)<=k/\(k:Int)<L2:=by omega
      obtain⟨g,u,rfl,hbg,hgs,hu,fu,hz⟩:=fB VC hk2;have WH:il[k]? =As p:=by obtain⟨ys,UG⟩:=RO.pre;replace UG:rows++ys=il:=UG;rw[<-UG,bK (by have:=Dq.out;omega)];exact HPp
      have hLu:=(M.TR k u p hu WH).1.own;obtain⟨ua,uc,rfl⟩:=hLu.form;have HLu:=AI hLu;have f0:wj.cell? ⟨mb,0,AF⟩=As (An pa n pc):=M.blk.cell 0;have f2:wj.cell? ⟨mb,2,AF⟩=As (An (As ⟨g,0,AF⟩) L2 sc2):=M.blk.cell 2;clear VC hz hu hc hL2 WH hLu;have VD:wA.heap.size<=wj.heap.size:=K2.size;have CS:DE (∀ (W:A') (v:Value),aa wj W->bw wj.heap.size W v (eX ps p c)->ah 171 #[B' (As ⟨mb,0,AF⟩),v] W fun e w'=>ae (fun x=>x<wj.heap.size/\(x<base\/¬ ((F0 x/\x≠w.heap.size)/\u6.ownBlock≠As x))) W w'/\((∃ (t:Nat) (Lc:List (List (List Int))),t<=4000/\gT f (dG ps ls p) rows (j+1)=As (Lc,tu++ [t])/\e=AN (AM AT t)/\WK (fun x=>(F0 x/\x≠w.heap.size)/\u6.ownBlock≠As x) w' base mb ob f (An pa n pc) cv ps Lc (Bn.map fun r=>r.map B_))\/(xr ps ls f=AF/\e=.panicked [{v:=.iface 265 (G_ #[]),recovered:=false}]))):=AI fun W v hW hv=>by
       have zv:il.length<=f:=RO.out.le;refine(Av (fun x=>(F0 x/\x≠w.heap.size)/\u6.ownBlock≠As x) base mb ob f (An pa n pc) cv ps il (Bn.map fun r=>r.map B_) OK.out wj W M2.out hW (fun x hx=>⟨⟨HF0.out x (by have:=G5.out;omega),by have:=G5.out;omega⟩,fun e=>by have:=(jH.out.lt x e).2;omega⟩) v (eX ps p c) hv (rM (IS.out.all p (aw HPp.out)) c) RO.out.nodup RO.out.all hf zv (fun W hW=>HP.out W (PJ.out.trans hW)) (fun W hW=>HT.out W (PJ.out.trans hW))).mono ?_;rintro e w' ⟨hk,hq⟩;refine⟨hk,?_⟩;rcases hq with⟨h1,rfl,h3⟩ | ⟨h1,h2,rfl,h3⟩ | ⟨h1,h2,rfl⟩
       ·refine .inl ⟨YI il (eX ps p c),il,?_,?_,rfl,h3⟩
        ·have:YI il (eX ps p c)<il.length:=ZQ h1
         omega
        ·rw[gT,HR2.out,HG.out]
         exact Vu h1
       ·refine .inl ⟨il.length,il++ [eX ps p c],by omega,?_,rfl,h3⟩
        rw[gT,HR2.out,HG.out];exact Sd h1 h2
       ·exact .inr ⟨Vw QK HST HPp HR2 (by have:=HLM.out;omega) (by rw[HG.out];exact h1) h2,rfl⟩
      go_wp2_with fail
      refine(MK mb (An pa n pc) (An ua p.length uc) ps OK p (IS.all p (aw HPp)) c jf wj f0 (HP wj PJ) HLu.ll).mono ?_;rintro e w2 ⟨v1,rfl,ho3,hk3⟩;have Xa:=AI ho3;have X3:=AI hk3;clear ho3 hk3 f0 f2 fl fu;go_wp2_with fail
      refine(CS w2 v1 X3 Xa).mono ?_;rintro e w3 ⟨hk4,hq⟩;have K4:=AI hk4;clear hk4;have WM:DE (ae (fun x=>x<wA.heap.size/\(x<base\/x=w.heap.size\/¬F0 x)) wA w3):=AI ((K2.tr (ae.ai X3 fun x hx=>aD hx.1 VD)).tr (K4.mono fun x hx=>⟨aD hx.1 VD,adv hx.2⟩));rcases hq with⟨t,Lc,ht,hr3,rfl,hM3⟩ | ⟨hno,rfl⟩
      ·have RN:DE (w3.ownsRow wA.heap.size 3 1 u6 j (tu.map fun t:Nat=>AM AT t)):=AI (aj jH ((ae.ai X3 fun x hx=>hx.1:ae (fun x=>x<wj.heap.size/\u6.ownBlock=As x) wj w2).tr (K4.mono fun x hx=>⟨hx.1,.inr fun h=>h.2 hx.2⟩)) fun x hx=>⟨(jH.lt x hx).2,hx⟩)
       have HR3:=AI hr3;have M3:=AI hM3;have YR:wA.heap.size<=w3.heap.size:=WM.size;clear hr3 hM3 CS;go_wp2_with (at_builtin;refine Hid.out ?_);refine AI ?_;refine By _ rfl (.tmp 35) (.tmp 48) 39 rfl wA.heap.size 3 iI (AM AT 0) 1 8 D_ y8 kP kQ kR rfl (by decide) u6 j _ rfl (RN.alloc _) ⟨w3.heap.size,0,AF⟩ 1 1 [AM AT t] rfl rfl (eF _ _ _) (by simp[C_]) (by unfold maxLen;omega) (by omega) (by simp;omega) ?_;intro v' w5 hown' hgrow hh hat;have Jk:=AI hown';have lJ:=AI hgrow;have L9:=AI hat;clear hown' hgrow hh hat;go_wp2;go_roundw;case rel=>
        refine⟨j+1,Lc,tu++ [t],HR3,by omega,by go_num,?_,?_,?_⟩
        ·rw[DH];exact Jk
        ·obtain⟨sv3,nv3,kv3,us3,ns3,ks3,M⟩:=M3.out
         have M4:=M.below ((Ext.refl w3).alloc (.cells #[AM AT t] 3)).below
         have M5:=M4.mono (F':=fun x=>((F0 x/\x≠w.heap.size)/\u6.ownBlock≠As x)/\v'.ownBlock≠As x) fun x hx h=>⟨h,fun e=>by
          rcases L9.out with h5 | h5
          ·exact h.2 (by rw[<-h5,e])
          ·rw[h5]at e;cases e;simp at hx⟩
         have M6:=M5.keeps (ae.bB lJ fun x hx=>⟨hx.1,fun e=>hx.2 e.symm⟩:ae (fun x=>x<(w3.alloc (.cells #[AM AT t] 3)).heap.size/\u6.ownBlock≠As x) _ w5) fun x hx h=>⟨hx,h.1.2⟩
         exact⟨_,_,_,_,_,_,M6.mono fun x _ h=>⟨h.1.1,h.2⟩⟩
        ·exact(WM.alloc (fun x hx=>aD hx.1 YR) _).tr (ae.bB lJ fun x hx=>⟨by have:=hx.1;simp;omega,fun e=>by have:=(RN.lt x e.symm).1;have:=hx.1;omega⟩)
       case measure=>simp[intOf];omega
      ·refine uB _ w.heap.size rfl _ w3 (BA.keeps WM ⟨by have:=G5.out;omega,.inr (.inl rfl)⟩) fun W' Mj=>⟨ZV w3 W' WM Mj,.inr ⟨hno,rfl⟩⟩
     ·have GK:j=m:=by omega
      subst GK;clear Hf hj;have ku:¬ ((j:Int)<j):=by omega
      obtain⟨sv2,nv3,kv2,us2,ns2,ks2,M⟩:=M2.out;have hxf:=jH.out;obtain⟨xa,xc,rfl⟩:=ownsRow_form hxf;have tK:(Bn.map fun r=>r.map B_).length=k:=by have h5:=IS.len;have h6:=Dq.out;simp only at h5;rw[aQ,h5];omega
      have Uc:=M.uT.1;rw[tK]at Uc;obtain⟨na,nc,rfl⟩:=ownsRow_form Uc;have f5:wj.cell? ⟨mb,5,AF⟩=As (An na k nc):=M.blk.cell 5;have M3:=AI (M.mono (F':=fun x=>F0 x/\x≠w.heap.size) fun x _ h=>h.1);have HNR:=AI Uc;have ZZ:=AI tK;have hbj:base<=wj.heap.size:=Bs M.bm (D0 M.blk.lt);have ahZ:mb≠w.heap.size:=M.fm.1.2;clear M hxf tK Uc;go_wp2_with (at_builtin;refine Hid.out ?_);refine AI ?_;refine By _ rfl (.tmp 56) (.tmp 58) 27 rfl base 39 iL (An AF 0 0) 1 24 C' zY mR mS mU rfl (by decide) (An na k nc) k ns2 rfl (HNR.alloc _) ⟨wj.heap.size,0,AF⟩ 1 1 [An xa j xc] rfl rfl (eF _ _ _) (by simp[C_]) (by unfold maxLen;omega) (by omega) (by simp;omega) ?_;intro v' w5 hown' hgrow hh hat;obtain⟨va,vc,rfl⟩:=ownsRow_form hown';have adw:As mb≠(An na k nc).ownBlock:=fun e=>cy M3.blk HNR (by decide) mb e.symm rfl
      have B5:=AI ((M3.blk.alloc (.cells #[An xa j xc] 39)).grown hgrow adw);have Jk:=AI hown';have lJ:=AI hgrow;have L9:=AI hat;have g5:=B5.cell 5;have z5:=B5.frozen 5;clear hown' hgrow hh hat f5 adw;go_wp2;have K9:ae (fun x=>x<wj.heap.size/\x≠mb/\(An na k nc).ownBlock≠As x) wj (w5.setCell ⟨mb,5,AF⟩ (An va (k+1) vc)):=(((ae.refl _ wj).alloc (fun x hx=>hx.1) _).tr (ae.bB lJ fun x hx=>⟨by have:=hx.1;simp;omega,fun e=>hx.2.2 e.symm⟩)).setCell (fun h=>h.2.1 rfl) _;have K5:ae (· ≠mb) w5 (w5.setCell ⟨mb,5,AF⟩ (An va (k+1) vc)):=(ae.refl _ w5).setCell (fun h=>h rfl) _;have VD:wA.heap.size<=wj.heap.size:=K2.size;have hlr:tu.length=j:=RO.len;have e1:tu.map (fun t:Nat=>AM AT t)=(tu.map B_).map aM:=by rw[List.map_map];rfl
      have DR:(An va (k+1) vc).ownBlock=(An na k nc).ownBlock\/∀ x,(An va (k+1) vc).ownBlock=As x->wj.heap.size<=x:=L9.imp id fun h x e=>by rw[h]at e;cases e;simp
      have hrow:ig (fun x=>F0 x/\x≠w.heap.size) (w5.setCell ⟨mb,5,AF⟩ (An va (k+1) vc)) base 3 (An xa j xc) (tu.map B_).length ((tu.map B_).map aM):=by rw[<-e1,aQ,hlr];exact⟨xw M3.blk HNR K9 (aH jH (by have:=G5.out;omega)) (by decide) (.inl (by decide)),fun x e=>⟨HF0 x (by have:=(jH.lt x e).1;have:=G5.out;omega),by have:=(jH.lt x e).1;have:=G5.out;omega⟩⟩
      have MF:=Mk.next M3 ZZ.symm K9 (B5.set 5 _) ⟨aj Jk K5 fun x hx=>cy B5 Jk (by decide) x hx,fun x e=>by
       rcases DR with h5 | h5
       ·exact M3.uT.2 x (h5.symm.trans e)
       ·exact⟨HF0 x (by have:=h5 x e;have:=G5.out;omega),by have:=h5 x e;have:=G5.out;omega⟩⟩ hrow DR
      have K8:ae (fun x=>x<wA.heap.size/\(x<base\/x=w.heap.size\/¬F0 x)) wA (w5.setCell ⟨mb,5,AF⟩ (An va (k+1) vc)):=K2.tr (K9.mono fun x hx=>⟨aD hx.1 VD,fun e=>by
       rcases hx.2 with h5 | h5 | h5
       ·have:=M3.bm;omega
       ·exact ahZ (e.symm.trans h5)
       ·exact h5 (by rw[e];exact M3.fm.1),fun e=>by
       rcases hx.2 with h5 | h5 | h5
       ·have:=(HNR.lt x e).1;omega
       ·exact(M3.uT.2 x e).2 h5
       ·exact h5 (M3.uT.2 x e).1⟩)
      have hst:jq f (dG ps ls) ls.length (lS ps) (k+1)=As (il,Bn++ [tu]):=by rw[Sg HST.out HPp.out, <-HLM.out,HR2.out];rfl
      have EW:k+1<=il.length:=by have h5:rows.length<=il.length:=RO.pre.length_le;have:=Dq.out;omega
      go_roundw
      case rel=>
       refine⟨k+1,il,Bn++ [tu],hst,EW,by go_num,?_,K8⟩;rw[DH];exact⟨_,_,_,_,_,_,MF⟩
      case measure=>simp[intOf];omega
   ·have hkL:k=L:=by omega
    subst hkL;clear hlt;have eE:¬ ((k:Int)<k):=by omega
    have B0:=AI (BA.keeps KO ⟨by have:=G5.out;omega,.inr (.inl rfl)⟩);have g0:=B0.cell 0;have z0:=B0.frozen 0;go_wp2;have K9:ae (fun x=>x<wo.heap.size/\x≠w.heap.size) wo (wo.setCell ⟨w.heap.size,0,AF⟩ (AM AT 0)):=(ae.refl _ wo).setCell (fun h=>h.2 rfl) _;exact NA _ w.heap.size 0 rfl _ _ (B0.set 0 _) ⟨ZV wo _ KO K9,.inl ⟨rows,Bn,Vv QK HST (by have:=Dq.out;show rows.length=k;omega),rfl,_,_,_,_,_,_,(MO.keeps K9 fun x hx h=>⟨hx,h.2⟩).mono fun x _ _=>trivial⟩⟩
 ·have KA:ae (fun x=>x<wA.heap.size/\(x<base\/x=w.heap.size\/¬F0 x)) wA w4:=(ae.ai X3 fun x hx=>hx.1:ae (fun x=>x<wA.heap.size/\(x<base\/x=w.heap.size\/¬F0 x)) wA w3).tr (hk4.mono fun x hx=>⟨hx.1,ZT hx.2⟩)
  refine uB _ w.heap.size rfl _ w4 (BA.keeps KA ⟨by have:=G5.out;omega,.inr (.inl rfl)⟩) fun W' Mj=>⟨ZV w4 W' KA Mj,.inr ⟨?_,rfl⟩⟩
  unfold xr;rw[if_pos (by simpa using h2)]
theorem cY.src {w:A'} {v:Value} {l:List BS} (h:cY w v l):tS w v l.length (aP l):=by
 rcases h with⟨rfl,rfl⟩ | ⟨b,off,cap,rfl,_,hc⟩
 ·exact .inl ⟨rfl,rfl,rfl⟩
 ·refine .inr ⟨⟨b,off,AF⟩,cap,rfl,fun j u hj=>?_⟩
  have DK:j<l.length*4:=by rw[<-cP];exact(List.getElem?_eq_some_iff.1 hj).1
  have h1:l[j/4]? =As (l[j/4]'(by omega)):=az (by omega);have h2:=iy l h1 (j:=j%4) (by omega);rw[show j/4*4+j%4=j by omega,hj]at h2;rw[Addr.add_mid,show off+j=off+j/4*4+j%4 by omega,hc _ _ h1 _ (by omega), <-h2]
theorem si {ps:List PT} {k:Nat} {x:PT} (h:ps[k]? =As x):cH (ps.take (k+1))=cH (ps.take k)++x.nf.aN:=by unfold cH;rw[DQ,h];simp
theorem PT.xz (x:PT):x.ok=true↔x.nf.right=true/\0<=x.mark/\x.mark<=255:=by unfold PT.ok;simp[and_assoc]
theorem Cx {ps:List PT} {f:Int} (h:ps.length<=64) {k:Nat} {x:PT} (hx:ps[k]? =As x) (hb:¬x.ok=true):lp ps f=(⟨[],[],[]⟩,180):=by unfold lp;rw[if_neg (by omega),if_pos];rw[List.all_eq_false];exact⟨x,aw hx,hb⟩
theorem Sl {ps:List PT} {f:Int} (h:64<ps.length):lp ps f=(⟨[],[],[]⟩,5):=by unfold lp;rw[if_pos h]
theorem Z0 {ps:List PT} (h:∀ (k:Nat) (x:PT),ps[k]? =As x->x.ok=true):ps.all PT.ok=true:=List.all_eq_true.2 fun x hx=>by
 obtain⟨i,hi⟩:=List.getElem?_of_mem hx;exact h i x hi
theorem Fx {ps:List PT} {f:Int} (h:ps.length<=64) (ho:ps.all PT.ok=true) (hf:f<0\/4000<f):lp ps f=(⟨[],[],[]⟩,2):=by unfold lp;rw[if_neg (by omega),ho,if_neg (by decide),if_pos hf]
theorem uC {α:Type} [DecidableEq α] {fuel:Nat} {g g':Nat->α} {todo:List α} :∀ {k:Nat},(∀ j,j<k->g j=g' j)->gT fuel g todo k=gT fuel g' todo k
 | 0,_=>rfl
 | k+1,h=>by rw[gT,gT,uC fun j hj=>h j (by omega),h k (by omega)]
theorem xA {α:Type} [DecidableEq α] {fuel K:Nat} {f f':α->Nat->α} {p0:α} (h:∀ p j,j<K->f p j=f' p j):∀ n,jq fuel f K p0 n=jq fuel f' K p0 n
 | 0=>rfl
 | n+1=>by
  rw[jq,jq,xA h n];congr 1;funext st;unfold qg;cases st.1[n]? with
  | none=>rfl
  | some p=>simp only[uC (h p)]
theorem VE {ps:List PT} {f:Nat} {ls:List Nat} (hl:ls.length=(partsOf (cH ps)).length) (h:∀ k,k<ls.length->ls.getD k 0=lb (partsOf (cH ps)) k):xr ps ls f=sU ps f:=by
 unfold xr sU;rw[hl];split
 ·rfl
 ·refine xA (fun p j hj=>?_) f
  unfold dG;rw[h j (by omega)]
theorem Sn {ps:List PT} {f:Nat} (h:ps.length<=64) (ho:ps.all PT.ok=true) (hf:f<=4000) (hs:sU ps f=AF):lp ps f=(⟨[],[],[]⟩,181):=by unfold lp;rw[if_neg (by omega),ho,if_neg (by decide),if_neg (by omega),E_,hs]
theorem Sq {ps:List PT} {f:Nat} (h:ps.length<=64) (ho:ps.all PT.ok=true) (hf:f<=4000) {st:List (List (List Int))×List (List Nat)} (hs:sU ps f=As st):lp ps f=(⟨partsOf (cH ps),st.2.map fun r=>r.map B_,st.1.map (dP ps)⟩,0):=by unfold lp;rw[if_neg (by omega),ho,if_neg (by decide),if_neg (by omega),E_,hs]
end Go.Proofs.YtjgccapbphadjaaGreatDoor
