/- product: the methods of both: next and marks. -/
import Derived.Test.YtalombmiochpmaaGreatDoorOP07
set_option maxRecDepth 100000
set_option maxHeartbeats 16000000
open Go.Lib (hid)
namespace Go.Proofs.YtalombmiochpmaaGreatDoor
open Go Go.RowKit Go.Shelf Go.Maps
theorem mB {d:DF} {s:Nat} (hs:s<d.nx.length) (h:d.kT s=false):d.right=false:=by
 unfold DF.right;have:(List.range d.nx.length).all d.kT=false:=by
  rw[List.all_eq_false];exact⟨s,by simpa using hs,by rw[h];decide⟩
 rw[this,Bool.and_false]
theorem H8 {d:DF} (h1:1<=d.nx.length) (h2:d.nx.length<=4000) (h3:d.mr.length=d.nx.length) (h4:(partsOf d.cl==d.cl)=true) (h:∀ s,s<d.nx.length->d.kT s=true):d.right=true:=by
 unfold DF.right;have:(List.range d.nx.length).all d.kT=true:=by
  rw[List.all_eq_true];intro s hs;exact h s (by simpa using hs)
 rw[this,decide_eq_true h1,decide_eq_true h2,decide_eq_true h3,h4];rfl
theorem pA {d:DF} (h:d.nx.length<1\/4000<d.nx.length\/d.mr.length≠d.nx.length\/(partsOf d.cl==d.cl)=false):d.right=false:=by
 unfold DF.right;rcases h with h | h | h | h
 ·rw[show decide (1<=d.nx.length)=false from decide_eq_false (by omega)];simp
 ·rw[show decide (d.nx.length<=4000)=false from decide_eq_false (by omega)];simp
 ·rw[show decide (d.mr.length=d.nx.length)=false from decide_eq_false h];simp
 ·rw[h];simp
theorem Qd {d:DF} {s:Nat} (h:(d.nx.getD s []).length≠d.cl.length):d.kT s=false:=by unfold DF.kT;rw[show decide ((d.nx.getD s []).length=d.cl.length)=false from decide_eq_false h];simp
theorem Qe {d:DF} {s:Nat} (h:(d.nx.getD s []).any (fun x=> !Pd d.nx.length x)=true):d.kT s=false:=by
 unfold DF.kT;have:(d.nx.getD s []).all (Pd d.nx.length)=false:=by
  rw[List.all_eq_false];obtain⟨x,hx,hn⟩:=List.any_eq_true.1 h;exact⟨x,hx,by simpa using hn⟩
 rw[this];simp
theorem Gx {d:DF} {s:Nat} (h:jl (d.mr.getD s [])=false):d.kT s=false:=by unfold DF.kT;rw[h,Bool.and_false]
theorem Qf {d:DF} {s:Nat} (h1:(d.nx.getD s []).length=d.cl.length) (h2:(d.nx.getD s []).any (fun x=> !Pd d.nx.length x)=false) (h3:jl (d.mr.getD s [])=true):d.kT s=true:=by
 unfold DF.kT;have:(d.nx.getD s []).all (Pd d.nx.length)=true:=by
  rw[List.all_eq_true];intro x hx;have:=List.any_eq_false.1 h2 x hx;simpa using this
 rw[this,h3,decide_eq_true h1];rfl
theorem Ls {l:List Int} {k:Nat} (hk:k<l.length) (h:rF l k=false):jl l=false:=by unfold jl;rw[List.all_eq_false];exact⟨k,by simpa using hk,by rw[h];decide⟩
theorem Qg {l:List Int} (h:∀ k,k<l.length->rF l k=true):jl l=true:=by unfold jl;rw[List.all_eq_true];intro k hk;exact h k (by simpa using hk)
theorem Lt {l:List Int} {k:Nat} {x:Int} (hx:l[k]? =some x):rF l k=(decide (lN l k<x)&&decide (x<=255)):=by unfold rF;rw[getD_some hx]
theorem A8 {l:List Int} {k:Nat} {x:Int} (hx:l[k]? =some x):lN l (k+1)=x:=by unfold lN;rw[if_neg (by omega),Nat.add_sub_cancel,getD_some hx]
def aR.row (base:Nat) (e:TypeId) (size n:Nat) (xs:List Value):aR (Move false (fun _=>False)) where
 P:=fun v=>∃ a c,v=.slice a n c
 H:=fun v W=>W.ownsRow base e size v n xs
 nH:=.slice none n 0
 pw:=⟨none,0,rfl⟩
 st:=fun _ _ _ hm _ h=>ak h hm.below
theorem EB (v:Value) (d:DF) (w:World) (h:Sl w v d) (sm:Sm d): Calls Tryz.prog 13 #[v] w fun e w'=>e=.returned (.bool d.right)/\Below w.heap.size w w':=by
 obtain⟨v0,v1,v2,rfl,h0,h1,h2⟩:=h;obtain⟨a0,c0,rfl⟩:=h0.1.form;obtain⟨a1,c1,rfl⟩:=h1.form;obtain⟨a2,c2,rfl⟩:=h2.form;obtain⟨n0,dp⟩:∃ n,n=d.cl.length:=⟨_,rfl⟩;obtain⟨n1,ja⟩:∃ n,n=d.nx.length:=⟨_,rfl⟩;obtain⟨n2,kU⟩:∃ n,n=d.mr.length:=⟨_,rfl⟩;obtain⟨r,hr⟩:∃ r,r=d.right:=⟨_,rfl⟩;obtain⟨q,hq⟩:∃ q,q=(partsOf d.cl==d.cl):=⟨_,rfl⟩;have l0:=sm.cl;have l1:=sm.nx;have l2:=sm.mr;rw[<-dp]at h0 l0 ⊢;rw[<-ja]at h1 l1 ⊢;rw[<-kU]at h2 l2 ⊢;rw[<-hr];have sw:=hid dp;have qw:=hid ja;have pZ:=hid kU;have HR:=hid hr;have HQ:=hid hq;have H0:=hid h0;have H1:=hid h1;have H2:=hid h2;have SM:=hid sm;obtain⟨pl,hpl⟩:∃ pl,pl=partsOf d.cl:=⟨_,rfl⟩;have CP:Hid (∀ W,cB W (.slice a0 n0 c0) d.cl->Calls Tryz.prog 37 #[.slice a0 n0 c0] W fun e w'=>∃ v,e=.returned v/\w'.ownsRow W.heap.size 59 4 v pl.length (aC pl)/\Below W.heap.size W w'):=fun W h=>by rw[hpl];exact xo d.cl _ W h (by have:=SM.out.cl;omega)
 have CE:Hid (∀ W u,cB W u pl->cB W (.slice a0 n0 c0) d.cl->Calls Tryz.prog 36 #[u,.slice a0 n0 c0] W fun e w'=>e=.returned (.bool q)/\Ext W w'):=fun W u h k=>by
  rw[hq];rw[hpl]at h;exact EA _ _ _ _ W h k (by rw[(cY d.cl).length_eq];have:=cX d.cl;omega)
 clear h0 h1 h2 dp ja kU hr hq sm hpl;go_enter Tryz.func13,Tryz.ntmps13;go_wp2;refine ax ?_;intro V hV;have hB1:ah V w.heap.size #[.slice a0 n0 c0,.slice a1 n1 c1,.slice a2 n2 c2] 28:=by rw[hV];exact(ah.new w _ _).alloc _
 have hB2:ah V (w.heap.size+1) #[.int .i64 n1] 3:=by rw[hV];exact(ah.new (w.alloc _) _ _).at (by simp)
 have hx:Below w.heap.size w V:=by rw[hV];exact(((Ext.refl w).alloc _).alloc _).below
 have kS:=hid hB1;have eD:=hid hB2;have HX:=hid hx;clear hV hB1 hB2 hx;by_cases q1:n1<1
 ·have d1:decide ((n1:Int)<1)=true:=decide_eq_true (by omega)
  have d1':decide (n1<1)=true:=decide_eq_true q1;refine aA false (fun _=>False) (by kernel_rfl) 22 [0,1,3,7,15,31,63,127,255,511,127,2047,4095,8191,16383,32767,65535,16383,147455,524287,1048575,2097151] (fun i=>i==16 || i==19) (by kernel_rfl) (fun i=>if i=16 then aR.row w.heap.size 59 4 pl.length (aC pl)else if i=19 then aR.xg _ (.bool q)else aR.any _) ?_;intro C hC hne;have HC:=hid hC;have f0:=au hC (p:=⟨w.heap.size,0,none⟩) (by have:=kS.out.lt;exact this) (fun h=>h) (kS.out.cell 0);have f2:=au hC (p:=⟨w.heap.size,2,none⟩) (by have:=kS.out.lt;exact this) (fun h=>h) (kS.out.cell 2);have f3:=au hC (p:=⟨w.heap.size+1,0,none⟩) (by have:=eD.out.lt;exact this) (fun h=>h) (eD.out.cell 0);clear hC
  repeat (refine ae (fun K hK=>?_);first | (refine bp rfl ?_;try go_simp;refine hK _ _ ?_;clear hK K) | (refine aX rfl rfl ?_;unfold aq;go_simp;refine hK _ _ ?_;clear hK K))
  refine aV (fun W hW hH=>?_);have hM:=(HC.out W).1 hW;have iO:=hid (HR.out.trans (pA (.inl (by rw[<-qw.out];exact q1))));clear hW hH f0 f2 f3;go_wp2;go_ret;exact⟨by rw[iO.out];rfl,HX.out.trans (hM.below.mono HX.out.size)⟩
 ·have d1:decide ((n1:Int)<1)=false:=decide_eq_false (by omega)
  have d1':decide (n1<1)=false:=decide_eq_false q1;by_cases q2:4000<n1
  ·have d2:decide ((4000:Int)<n1)=true:=decide_eq_true (by omega)
   have d2':decide (4000<n1)=true:=decide_eq_true q2;refine aA false (fun _=>False) (by kernel_rfl) 22 [0,1,3,7,15,31,63,127,255,511,127,2047,4095,8191,16383,32767,65535,16383,147455,524287,1048575,2097151] (fun i=>i==16 || i==19) (by kernel_rfl) (fun i=>if i=16 then aR.row w.heap.size 59 4 pl.length (aC pl)else if i=19 then aR.xg _ (.bool q)else aR.any _) ?_;intro C hC hne;have HC:=hid hC;have f0:=au hC (p:=⟨w.heap.size,0,none⟩) (by have:=kS.out.lt;exact this) (fun h=>h) (kS.out.cell 0);have f2:=au hC (p:=⟨w.heap.size,2,none⟩) (by have:=kS.out.lt;exact this) (fun h=>h) (kS.out.cell 2);have f3:=au hC (p:=⟨w.heap.size+1,0,none⟩) (by have:=eD.out.lt;exact this) (fun h=>h) (eD.out.cell 0);clear hC
   repeat (refine ae (fun K hK=>?_);first | (refine bp rfl ?_;try go_simp;refine hK _ _ ?_;clear hK K) | (refine aX rfl rfl ?_;unfold aq;go_simp;refine hK _ _ ?_;clear hK K))
   refine aV (fun W hW hH=>?_);have hM:=(HC.out W).1 hW;have iO:=hid (HR.out.trans (pA (.inr (.inl (by rw[<-qw.out];exact q2)))));clear hW hH f0 f2 f3;go_wp2;go_ret;exact⟨by rw[iO.out];rfl,HX.out.trans (hM.below.mono HX.out.size)⟩
  ·have d2:decide ((4000:Int)<n1)=false:=decide_eq_false (by omega)
   have d2':decide (4000<n1)=false:=decide_eq_false q2;by_cases q3:n2=n1
   ·obtain rfl:n1=n2:=q3.symm
    clear q3;refine aA false (fun _=>False) (by kernel_rfl) 22 [0,1,3,7,15,31,63,127,255,511,127,2047,4095,8191,16383,32767,65535,16383,147455,524287,1048575,2097151] (fun i=>i==16 || i==19) (by kernel_rfl) (fun i=>if i=16 then aR.row w.heap.size 59 4 pl.length (aC pl)else if i=19 then aR.xg _ (.bool q)else aR.any _) ?_;intro C hC hne;have HC:=hid hC;have f0:=au hC (p:=⟨w.heap.size,0,none⟩) (by have:=kS.out.lt;exact this) (fun h=>h) (kS.out.cell 0);have f2:=au hC (p:=⟨w.heap.size,2,none⟩) (by have:=kS.out.lt;exact this) (fun h=>h) (kS.out.cell 2);have f3:=au hC (p:=⟨w.heap.size+1,0,none⟩) (by have:=eD.out.lt;exact this) (fun h=>h) (eD.out.cell 0);clear hC
    repeat (refine ae (fun K hK=>?_);first | (refine bp rfl ?_;try go_simp;refine hK _ _ ?_;clear hK K) | (refine aX rfl rfl ?_;unfold aq;go_simp;refine hK _ _ ?_;clear hK K))
    refine ae (fun K hK=>?_);refine bH rfl rfl (aR.row w.heap.size 59 4 pl.length (aC pl)) rfl (fun W hW hN=>?_) (fun v hv=>?_)
    ·have hM:=(HC.out W).1 hW
     clear hW;go_simp;refine bC ((CP.out _ ((H0.out.1.below HX.out).below hM.below)).mono ?_);rintro e w2 ⟨vp,rfl,ho,hx⟩;exact⟨_,rfl,Move.aj hx,ownsRow_form ho,az ho (Nat.le_trans HX.out.size hM.size)⟩
    obtain⟨ap,cp,rfl⟩:=hv;go_simp;refine hK _ _ ?_;clear hK K
    repeat (refine ae (fun K hK=>?_);first | (refine bp rfl ?_;try go_simp;refine hK _ _ ?_;clear hK K) | (refine aX rfl rfl ?_;unfold aq;go_simp;refine hK _ _ ?_;clear hK K))
    refine ae (fun K hK=>?_);refine bH rfl rfl (aR.xg _ (.bool q)) rfl (fun W hW hN=>?_) (fun v hv=>?_)
    ·have hM:=(HC.out W).1 hW
     clear hW;go_simp;refine bC ((CE.out _ _ (gP (hN.at 0 rfl (by kernel_rfl))) ((H0.out.1.below HX.out).below hM.below)).mono ?_);rintro e w2 ⟨rfl,hx⟩;exact⟨_,rfl,Move.Ky hx,rfl,trivial⟩
    replace hv:v=_:=hv;subst hv;go_simp;refine hK _ _ ?_;clear hK K
    repeat (refine ae (fun K hK=>?_);first | (refine bp rfl ?_;try go_simp;refine hK _ _ ?_;clear hK K) | (refine aX rfl rfl ?_;unfold aq;go_simp;refine hK _ _ ?_;clear hK K))
    refine aV (fun W hW hH=>?_);have hM:=(HC.out W).1 hW;have XH:=hid (kS.out.below hM.below kS.out.lt);have Ug:=hid (eD.out.below hM.below eD.out.lt);have XX:=hid (HX.out.trans (hM.below.mono HX.out.size));clear hM hW hH f0 f2 f3 HC kS eD HX CP CE d1 d1' d2 d2';cases q with
    | false=>
     have iO:=hid (HR.out.trans (pA (.inr (.inr (.inr HQ.out.symm)))));go_wp2;go_ret;exact⟨by rw[iO.out];rfl,XX.out⟩
    | true=>
     have b0:=XH.out.cell 0;have b1:=XH.out.cell 1;have b2:=XH.out.cell 2;have b3:=Ug.out.cell 0;simp only[List.getElem?_toArray,List.getElem?_cons_zero,List.getElem?_cons_succ]at b0 b1 b2 b3;have H1':=hid (H1.out.below XX.out);have H2':=hid (H2.out.below XX.out);clear H1 H2 H0;go_wp2
     go_loop [37] (fun i=>∃ s:Nat,s<=n1/\i=.int .i64 s/\∀ j,j<s->d.kT j=true) (fun i=>n1-(intOf i).toNat)
     case atStart=>exact⟨0,by omega,rfl,fun j hj=>by omega⟩
     case round=>
      obtain⟨s,hs,rfl,ha⟩:=hrel;have HA:=hid ha;clear ha;by_cases hlt:s<n1
      ·obtain⟨l,hl⟩:∃ l,d.nx[s]? =some l:=⟨_,List.getElem?_eq_getElem (by have:=qw.out;omega)⟩
       obtain⟨m,hm⟩:∃ m,d.mr[s]? =some m:=⟨_,List.getElem?_eq_getElem (by have:=pZ.out;omega)⟩;obtain⟨g1,o1,e1,k1,rfl,hg1,x1,y1⟩:=H1'.out.elem hl;obtain⟨g2,o2,e2,k2,rfl,hg2,x2,y2⟩:=H2'.out.elem hm;have gl:=getD_some (d:=([]:List Int)) hl;have gm:=getD_some (d:=([]:List Int)) hm;have ll:=SM.out.yT l (List.mem_of_getElem? hl);have lm:=SM.out.XG m (List.mem_of_getElem? hm);have hs1:s<d.nx.length:=by have:=qw.out;omega
       have Hs1:=hid hs1;have eT:(s:Int)<n1:=by omega
       obtain⟨j,hj⟩:∃ j,j=l.length:=⟨_,rfl⟩;obtain⟨k,hk⟩:∃ k,k=m.length:=⟨_,rfl⟩;rw[<-hj]at x1 y1 ll;rw[<-hk]at x2 y2 lm;have HJ:=hid hj;have HK:=hid hk;have GL:=hid gl;have GM:=hid gm;have Y1:=hid y1;have Y2:=hid y2;clear hl hm hj hk gl gm y1 y2 hs1;by_cases XJ:j=n0
       ·subst XJ
        obtain⟨z,hz⟩:∃ z,z=l.any (fun x=> !Pd n1 x):=⟨_,rfl⟩
        have CC:Hid (Calls Tryz.prog 38 #[.slice e1 j k1,.func (.func 39) #[] #[.pointer (some ⟨w.heap.size+1,0,none⟩)]] W fun e w'=>e=.returned (.bool z)/\w'=W):=hid (by
         rw[hz]
         exact py _ _ (fun x=> !Pd n1 x) _ l W Y1.out (by rw[<-HJ.out];exact ll) H7 (fun x W' Lm=>Ey x n1 _ W' ((Ug.out.below Lm Ug.out.lt).cell 0)))
        have HZ:=hid hz;clear hz;cases z with
        | true=>
         have iO:=hid (HR.out.trans (mB Hs1.out (Qe (by rw[GL.out, <-qw.out];exact HZ.out.symm))));go_wp2_with fail
         refine(CC.out).mono ?_;rintro e w' ⟨rfl,hw⟩;replace hw:=hw.symm;subst hw;go_wp2;go_ret;exact⟨by rw[iO.out];rfl,XX.out⟩
        | false=>
         go_wp2_with fail
         refine(CC.out).mono ?_;rintro e w' ⟨rfl,hw⟩;replace hw:=hw.symm;subst hw;go_wp2
         go_loop [59,6] (fun i p=>∃ c:Nat,c<=k/\i=.int .i64 c/\p=.int .i64 (lN m c)/\∀ i,i<c->rF m i=true) (fun i _=>k-(intOf i).toNat)
         case atStart=>exact⟨0,by omega,rfl,rfl,fun i hi=>by omega⟩
         case round=>
          obtain⟨c,hc,rfl,rfl,hc2⟩:=hrel;have xA:=hid hc2;clear hc2;by_cases Uh:c<k
          ·obtain⟨x,hx⟩:∃ x,m[c]? =some x:=⟨_,List.getElem?_eq_getElem (by have:=HK.out;omega)⟩
           obtain⟨g3,o3,rfl,hg3,x3⟩:=Y2.out.elem hx;have x3':W.cell? ⟨g3,o3+c,none⟩=some (.int .i64 x):=x3;have hci:(c:Int)<k:=by omega
           have Sn:=hid (Lt hx);have HPS:=hid (A8 hx);have HXM:=hid hx;clear hx x3;generalize lN m c=pv at Sn ⊢;by_cases h1:x<=pv
           ·have d1:decide (x<=pv)=true:=decide_eq_true h1
            have iO:=hid (HR.out.trans (mB Hs1.out (Gx (by rw[GM.out];exact Ls (by rw[<-HK.out];exact Uh) (by rw[Sn.out,show decide (pv<x)=false from decide_eq_false (by omega)];rfl)))));go_wp2;go_ret;exact⟨by rw[iO.out];rfl,XX.out⟩
           ·have d1:decide (x<=pv)=false:=decide_eq_false h1
            by_cases h2:255<x
            ·have d2:decide (255<x)=true:=decide_eq_true h2
             have iO:=hid (HR.out.trans (mB Hs1.out (Gx (by rw[GM.out];exact Ls (by rw[<-HK.out];exact Uh) (by rw[Sn.out,show decide (x<=255)=false from decide_eq_false (by omega),Bool.and_false])))));go_wp2;go_ret;exact⟨by rw[iO.out];rfl,XX.out⟩
            ·have d2:decide (255<x)=false:=decide_eq_false h2
             go_wp2
             go_round
             case rel=>exact⟨c+1,by omega,by go_num,by rw[HPS.out],fun i hi=>by
              by_cases e:i=c
              ·subst e;rw[Sn.out,decide_eq_true (show pv<x by omega),decide_eq_true (show x<=255 by omega)];rfl
              ·exact xA.out i (by omega)⟩
             case measure=>simp[intOf];omega
          ·obtain rfl:c=k:=by omega
           go_wp2
           go_round
           case rel=>
            have hrow:∀ j',j'<s+1->d.kT j'=true:=fun j' hj'=>by
             by_cases e:j'=s
             ·rw[e]
              exact Qf (by rw[GL.out, <-HJ.out];exact sw.out) (by rw[GL.out, <-qw.out];exact HZ.out.symm) (by rw[GM.out];exact Qg fun i hi=>xA.out i (by rw[HK.out];exact hi))
             ·exact HA.out j' (by omega)
            exact⟨_,_,_,_,_,_,⟨s+1,by omega,by go_num,hrow⟩,rfl,rfl,rfl,rfl,rfl,rfl⟩
           case measure=>simp[intOf];omega
       ·have d3:((j:Int)==(n0:Int))=false:=by rw[beq_eq_false_iff_ne];omega
        have d3':((j:Int) != (n0:Int))=true:=by simp;omega
        have acF:(j==n0)=false:=by rw[beq_eq_false_iff_ne];exact XJ
        have iO:=hid (HR.out.trans (mB Hs1.out (Qd (by rw[GL.out, <-HJ.out, <-sw.out];exact XJ))));go_wp2;go_ret;exact⟨by rw[iO.out];rfl,XX.out⟩
      ·obtain rfl:s=n1:=by omega
       have iO:=hid (HR.out.trans (H8 (by rw[<-qw.out];omega) (by rw[<-qw.out];omega) (by rw[<-qw.out, <-pZ.out]) HQ.out.symm (fun j hj=>HA.out j (by rw[qw.out];exact hj))));go_wp2;go_ret;exact⟨by rw[iO.out];rfl,XX.out⟩
   ·have d3:((n2:Int)==(n1:Int))=false:=by rw[beq_eq_false_iff_ne];omega
    have d3':((n2:Int) != (n1:Int))=true:=by simp;omega
    have acF:(n2==n1)=false:=by rw[beq_eq_false_iff_ne];exact q3
    refine aA false (fun _=>False) (by kernel_rfl) 22 [0,1,3,7,15,31,63,127,255,511,127,2047,4095,8191,16383,32767,65535,16383,147455,524287,1048575,2097151] (fun i=>i==16 || i==19) (by kernel_rfl) (fun i=>if i=16 then aR.row w.heap.size 59 4 pl.length (aC pl)else if i=19 then aR.xg _ (.bool q)else aR.any _) ?_;intro C hC hne;have HC:=hid hC;have f0:=au hC (p:=⟨w.heap.size,0,none⟩) (by have:=kS.out.lt;exact this) (fun h=>h) (kS.out.cell 0);have f2:=au hC (p:=⟨w.heap.size,2,none⟩) (by have:=kS.out.lt;exact this) (fun h=>h) (kS.out.cell 2);have f3:=au hC (p:=⟨w.heap.size+1,0,none⟩) (by have:=eD.out.lt;exact this) (fun h=>h) (eD.out.cell 0);clear hC
    repeat (refine ae (fun K hK=>?_);first | (refine bp rfl ?_;try go_simp;refine hK _ _ ?_;clear hK K) | (refine aX rfl rfl ?_;unfold aq;go_simp;refine hK _ _ ?_;clear hK K))
    refine aV (fun W hW hH=>?_);have hM:=(HC.out W).1 hW;have iO:=hid (HR.out.trans (pA (.inr (.inr (.inl (by rw[<-qw.out, <-pZ.out];exact q3))))));clear hW hH f0 f2 f3;go_wp2;go_ret;exact⟨by rw[iO.out];rfl,HX.out.trans (hM.below.mono HX.out.size)⟩
theorem cU (v:Value) (d:DF) (w:World) (h:bJ w v d) (sm:Sm d): Calls Tryz.prog 13 #[v] w fun e w'=>e=.returned (.bool d.right)/\Below w.heap.size w w':=EB v d w h.e sm
def aR.oll (base:Nat) (ll:List (List Int)):aR (Move false (fun _=>False)) where
 P:=fun v=>∃ a c,v=.slice a ll.length c
 H:=fun v W=>aH base W v ll
 nH:=.slice none ll.length 0
 pw:=⟨none,0,rfl⟩
 st:=fun _ _ _ hm _ h=>h.below hm.below
theorem ah.three {w:World} {b:Nat} {x y z:Value} {t:TypeId} (h:ah w b #[x,y,z] t):(w.cell? ⟨b,0,none⟩=some x/\w.cell? ⟨b,1,none⟩=some y/\w.cell? ⟨b,2,none⟩=some z)/\w.frozen? ⟨b,0,none⟩=false/\w.frozen? ⟨b,1,none⟩=false/\w.frozen? ⟨b,2,none⟩=false:=
 ⟨⟨h.cell 0,h.cell 1,h.cell 2⟩,h.frozen 0,h.frozen 1,h.frozen 2⟩
theorem ah.nP {w:World} {b:Nat} {x y z x' y' z':Value} {t:TypeId} (h:ah w b #[x,y,z] t):ah (((w.setCell ⟨b,0,none⟩ x').setCell ⟨b,1,none⟩ y').setCell ⟨b,2,none⟩ z') b #[x',y',z'] t:=((h.set 0 x').set 1 y').set 2 z'
theorem dh {w W:World} {n b:Nat} {x y z:Value} (h:Below n w W) (hb:n<=b):Below n w (((W.setCell ⟨b,0,none⟩ x).setCell ⟨b,1,none⟩ y).setCell ⟨b,2,none⟩ z):=
 ((h.setCell (by simpa using hb) _).setCell (by simpa using hb) _).setCell (by simpa using hb) _
def aR.Gy (base n:Nat) (xs:List Value):aR (Move false (fun _=>False)) where
 P:=fun v=>∃ b,v=.slice (some ⟨b,0,none⟩) 1 1
 H:=fun v W=>∀ b,v=.slice (some ⟨b,0,none⟩) 1 1->∃ u,ah W b #[u] 47/\W.ownsRow base 3 1 u n xs
 nH:=.slice (some ⟨0,0,none⟩) 1 1
 pw:=⟨0,rfl⟩
 st:=fun _ _ _ hm _ h b hb=>by
  obtain⟨u,h1,h2⟩:=h b hb;exact⟨u,h1.below hm.below h1.lt,ak h2 hm.below⟩
theorem ah.Sq {w:World} {b:Nat} {u:Value} {t:TypeId} (h:ah w b #[u] t):∀ j x,[u][j]? =some x->w.cell? ((⟨b,0,none⟩:Addr).add j)=some x:=bB h
theorem xu.own {w:World} {base n:Nat} {e:TypeId} {v:Value} {xs:List Value} (h:w.ownsRow base e 1 v n xs):xu w v n xs:=by
 rcases h.2 with⟨rfl,rfl⟩ | ⟨g,c,cur,rfl,_⟩
 ·exact .inl ⟨rfl,rfl,by have:=h.1;simpa using this⟩
 ·exact .inr ⟨_,c,rfl,h.cells rfl⟩
def jb:Nat->Nat
 | 1=>56
 | 2=>57
 | 3=>58
 | _=>59
theorem xB (k:Nat) (h1:1<=k) (h4:k<=4) (w:World):Calls Tryz.prog 32 #[.int .u8 k] w fun e w'=>e=.returned (.func (.func (jb k)) #[] #[])/\w'=w:=by
 rcases(show k=1\/k=2\/k=3\/k=4 by omega)with rfl | rfl | rfl | rfl
 all_goals
  go_enter Tryz.func32,Tryz.ntmps32
  go_wp2;go_ret;exact⟨rfl,rfl⟩
theorem H9 (k:Nat) (h:k=0\/4<k) (w:World):Calls Tryz.prog 32 #[.int .u8 k] w fun e w'=>e=.returned .nilFunc/\w'=w:=by
 have d1:((k:Int)==1)=false:=by rw[beq_eq_false_iff_ne];omega
 have d2:((k:Int)==2)=false:=by rw[beq_eq_false_iff_ne];omega
 have d3:((k:Int)==3)=false:=by rw[beq_eq_false_iff_ne];omega
 have d4:((k:Int)==4)=false:=by rw[beq_eq_false_iff_ne];omega
 clear h;go_enter Tryz.func32,Tryz.ntmps32;go_wp2;go_ret;exact⟨rfl,rfl⟩
theorem Ib (k:Nat) (h1:1<=k) (h4:k<=4) (x y:Bool) (w:World):Calls Tryz.prog (jb k) #[.bool x,.bool y] w fun e w'=>e=.returned (.bool (rG k x y))/\w'=w:=by
 rcases(show k=1\/k=2\/k=3\/k=4 by omega)with rfl | rfl | rfl | rfl
 ·show Calls Tryz.prog 56 _ _ _
  cases x<;>cases y
  all_goals
   go_enter Tryz.func56,Tryz.ntmps56
   go_wp2;go_ret;exact⟨rfl,rfl⟩
 ·show Calls Tryz.prog 57 _ _ _
  cases x<;>cases y
  all_goals
   go_enter Tryz.func57,Tryz.ntmps57
   go_wp2;go_ret;exact⟨rfl,rfl⟩
 ·show Calls Tryz.prog 58 _ _ _
  cases x<;>cases y
  all_goals
   go_enter Tryz.func58,Tryz.ntmps58
   go_wp2;go_ret;exact⟨rfl,rfl⟩
 ·show Calls Tryz.prog 59 _ _ _
  cases x<;>cases y
  all_goals
   go_enter Tryz.func59,Tryz.ntmps59
   go_wp2;go_ret;exact⟨rfl,rfl⟩
theorem Lu:∀ args w,(callFunc 56 args).run Tryz.prog w=.ok (.enter 56 args) w:=fun args w=>by kernel_rfl
theorem Lv:∀ args w,(callFunc 57 args).run Tryz.prog w=.ok (.enter 57 args) w:=fun args w=>by kernel_rfl
theorem Lx:∀ args w,(callFunc 58 args).run Tryz.prog w=.ok (.enter 58 args) w:=fun args w=>by kernel_rfl
theorem LC:∀ args w,(callFunc 59 args).run Tryz.prog w=.ok (.enter 59 args) w:=fun args w=>by kernel_rfl
theorem Qh (k:Nat) (h1:1<=k) (h4:k<=4):∀ args w,(callFunc (jb k) args).run Tryz.prog w=.ok (.enter (jb k) args) w:=by
 rcases(show k=1\/k=2\/k=3\/k=4 by omega)with rfl | rfl | rfl | rfl
 ·exact Lu
 ·exact Lv
 ·exact Lx
 ·exact LC
def LD:Nat->ByteArray
 | 1=>⟨#[97,110,100]⟩
 | 2=>⟨#[111,114]⟩
 | 3=>⟨#[108,101,115,115]⟩
 | 4=>⟨#[100,105,102,102,101,114]⟩
 | _=>⟨#[]⟩
theorem EC {k:Nat} (h:k=0\/4<k):LD k=⟨#[]⟩:=by unfold LD;split<;>first | omega | rfl
theorem LG (k:Nat) (hk:k<256) (w:World):Calls Tryz.prog 19 #[.int .u8 k] w fun e w'=>e=.returned (.string (LD k))/\Ext w w':=by
 by_cases h5:5<=k
 ·have d1:decide ((5:Int)<=k)=true:=decide_eq_true (by omega)
  have d2:decide (5<=k)=true:=decide_eq_true h5;have hw:IntKind.i64.wrap (k:Int)=k:=IntWalk.i64_in _ (by omega);rw[EC (by omega)];go_enter Tryz.func19,Tryz.ntmps19;go_wp2;go_ret;exact⟨rfl,(Ext.refl w).alloc _⟩
 ·rcases(show k=0\/k=1\/k=2\/k=3\/k=4 by omega)with rfl | rfl | rfl | rfl | rfl
  all_goals
   go_enter Tryz.func19,Tryz.ntmps19
   go_wp2;go_ret;exact⟨rfl,(Ext.refl w).alloc _⟩
def oneOf (a:DF) (p:List BS):List Int:=(List.range p.length).map fun k=>(cls a.cl (lb p k):Int)
theorem mC (a:DF) {p:List BS} {k:Nat} (hk:k<p.length):(oneOf a p)[k]? =some ((cls a.cl (lb p k):Nat):Int):=by unfold oneOf;rw[List.getElem?_map,List.getElem?_range hk];rfl
theorem hZ (a:DF) (p:List BS):(oneOf a p).length=p.length:=by simp[oneOf]
def Ic (x:Option Addr×Nat×Nat):Value:=.slice x.1 x.2.1 x.2.2
def iq (base:Nat) (w:World) (v:Value) (a b:DF) (op:Nat):Prop:=∃ a0 a1 a2 b0 b1 b2 c o t,v=.agg #[Ic a0,a1,a2,Ic b0,b1,b2,c,o,t,.func (.func (jb op)) #[] #[]]/\
 jn w a1 a.nx/\jn w a2 a.mr/\jn w b1 b.nx/\jn w b2 b.mr/\w.ownsRow base 59 4 c (partsOf (a.cl++b.cl)).length (aC (partsOf (a.cl++b.cl)))/\
 cr aG w o (oneOf a (partsOf (a.cl++b.cl)))/\cr aG w t (oneOf b (partsOf (a.cl++b.cl)))
theorem iq.below {base:Nat} {w w':World} {v:Value} {a b:DF} {op:Nat} (h:iq base w v a b op) (hk:Below w.heap.size w w'):iq base w' v a b op:=by obtain⟨a0,a1,a2,b0,b1,b2,c,o,t,e,h1,h2,h3,h4,h5,h6,h7⟩:=h;exact⟨a0,a1,a2,b0,b1,b2,c,o,t,e,h1.below hk,h2.below hk,h3.below hk,h4.below hk,ak h5 hk,h6.below hk,h7.below hk⟩
theorem LH (base:Nat) (v:Value) (a b:DF) (ra:Rt a) (rb:Rt b) (op:Nat) (p:Nat×Nat) (hp:fV a b p) (k:Nat) (hk:k<(partsOf (a.cl++b.cl)).length) (w:World) (h:iq base w v a b op): Calls Tryz.prog 34 #[v,.agg #[.int .i64 p.1,.int .i64 p.2],.int .i64 k] w fun e w'=>e=.returned (.agg #[.int .i64 (jC a b p k).1,.int .i64 (jC a b p k).2])/\Below w.heap.size w w':=by
 obtain⟨a0,a1,a2,b0,b1,b2,c,o,t,rfl,h1,_,h3,_,_,h6,h7⟩:=h;generalize Ic a0=a0;generalize Ic b0=b0;obtain⟨s1,s2⟩:=p;obtain⟨hs1,hs2⟩:=hp;simp only at hs1 hs2 ⊢;have zS:=A0 hk;obtain⟨q1,LI⟩:∃ q,q=cls a.cl (lb (partsOf (a.cl++b.cl)) k):=⟨_,rfl⟩;obtain⟨q2,Wl⟩:∃ q,q=cls b.cl (lb (partsOf (a.cl++b.cl)) k):=⟨_,rfl⟩;have XK:q1<a.cl.length:=by rw[LI];exact ra.part.gF zS
 have XL:q2<b.cl.length:=by rw[Wl];exact rb.part.gF zS
 obtain⟨r1,hr1⟩:∃ r,r=eO a s1 q1:=⟨_,rfl⟩;obtain⟨r2,hr2⟩:∃ r,r=eO b s2 q2:=⟨_,rfl⟩;have e1:(jC a b (s1,s2) k).1=r1:=by rw[hr1,LI];rfl
 have e2:(jC a b (s1,s2) k).2=r2:=by rw[hr2,Wl];rfl
 rw[e1,e2];have ho:=mC a hk;have ht:=mC b hk;rw[<-LI]at ho;rw[<-Wl]at ht;have hol:=hZ a (partsOf (a.cl++b.cl));have Hm:=hZ b (partsOf (a.cl++b.cl));generalize partsOf (a.cl++b.cl)=pj at*;obtain⟨l1,nG⟩:∃ l,a.nx[s1]? =some l:=⟨_,List.getElem?_eq_getElem hs1⟩;obtain⟨l2,hl2⟩:∃ l,b.nx[s2]? =some l:=⟨_,List.getElem?_eq_getElem hs2⟩;obtain⟨x1,n1,rfl⟩:=h1.form;obtain⟨x3,n3,rfl⟩:=h3.form;obtain⟨x6,n6,rfl⟩:=h6.form;obtain⟨x7,n7,rfl⟩:=h7.form;rw[hol]at h6 ⊢;rw[Hm]at h7 ⊢;obtain⟨g6,o6,rfl,Ws,y6⟩:=h6.elem ho;obtain⟨g7,o7,rfl,XM,y7⟩:=h7.elem ht;replace y6:w.cell? ⟨g6,o6+k,none⟩=some (.int .i64 q1):=y6;replace y7:w.cell? ⟨g7,o7+k,none⟩=some (.int .i64 q2):=y7;obtain⟨g1,o1,c1,d1,rfl,hg1,y1,z1⟩:=h1.elem nG;obtain⟨g2,o2,c2,d2,rfl,hg2,y2,z2⟩:=h3.elem hl2;have acG:l1.length=a.cl.length:=by have:=ra.len s1 hs1;rwa[getD_some nG]at this
 have acH:l2.length=b.cl.length:=by have:=rb.len s2 hs2;rwa[getD_some hl2]at this
 have XP:l1[q1]? =some (r1:Int):=by have:=ra.lO hs1 XK;rwa[getD_some nG, <-hr1]at this
 have XQ:l2[q2]? =some (r2:Int):=by have:=rb.lO hs2 XL;rwa[getD_some hl2, <-hr2]at this
 obtain⟨g8,o8,rfl,hg8,y8⟩:=z1.elem XP;obtain⟨g9,o9,rfl,XU,y9⟩:=z2.elem XQ;replace y8:w.cell? ⟨g8,o8+q1,none⟩=some (.int .i64 r1):=y8;replace y9:w.cell? ⟨g9,o9+q2,none⟩=some (.int .i64 r2):=y9;have m1:(s1:Int)<(a.nx.length:Nat):=by omega
 have m2:(s2:Int)<(b.nx.length:Nat):=by omega
 have m3:(k:Int)<(pj.length:Nat):=by omega
 have m4:(q1:Int)<(l1.length:Nat):=by omega
 have m5:(q2:Int)<(l2.length:Nat):=by omega
 have m4':q1<l1.length:=by omega
 have m5':q2<l2.length:=by omega
 clear h1 h3 h6 h7 z1 z2 XP XQ acG acH nG hl2 ho ht hol Hm LI Wl hr1 hr2 e1 e2 zS XK XL ra rb;generalize a.nx.length=na at*;generalize b.nx.length=nb at*;generalize l1.length=j1 at*;generalize l2.length=j2 at*;generalize pj.length=np at*;go_enter Tryz.func34,Tryz.ntmps34;go_wp2;refine ax ?_;intro V hV;have B1:Hid (ah V w.heap.size #[a0,.slice (some ⟨g1,o1,none⟩) na n1,a2,b0,.slice (some ⟨g2,o2,none⟩) nb n3,b2,c,.slice (some ⟨g6,o6,none⟩) np n6,.slice (some ⟨g7,o7,none⟩) np n7,.func (.func (jb op)) #[] #[]] 76):=by rw[hV];exact((ah.new w _ _).alloc _).alloc _
 have B2:Hid (ah V (w.heap.size+1) #[.int .i64 s1,.int .i64 s2] 79):=by rw[hV];exact((ah.new (w.alloc _) _ _).at (by simp)).alloc _
 have B3:Hid (ah V (w.heap.size+1+1) #[.int .i64 0,.int .i64 0] 79):=by rw[hV];exact(ah.new ((w.alloc _).alloc _) _ _).at (by simp)
 have X1:Hid (Ext w V):=by rw[hV];exact(((Ext.refl w).alloc _).alloc _).alloc _
 clear hV;have hsz:=X1.out.size;refine aA false (fun _=>False) (by kernel_rfl) 28 [0,1,3,0,8,31,63,0,128,0,896,1920,4095,8191,0,16384,49152,0,131072,507904,1032192,0,2097152,0,14680064,31457280,67092480,134201344,268435455,536870911] (fun i=>i==29) (by kernel_rfl) (fun i=>aR.any _) ?_;intro C hC hne;have HC:=hid hC;have f1:=au hC (p:=⟨w.heap.size,1,none⟩) (by have:=B1.out.lt;exact this) (fun h=>h) (B1.out.cell 1);have f2:=au hC (p:=⟨w.heap.size,4,none⟩) (by have:=B1.out.lt;exact this) (fun h=>h) (B1.out.cell 4);have f3:=au hC (p:=⟨w.heap.size,7,none⟩) (by have:=B1.out.lt;exact this) (fun h=>h) (B1.out.cell 7);have f4:=au hC (p:=⟨w.heap.size,8,none⟩) (by have:=B1.out.lt;exact this) (fun h=>h) (B1.out.cell 8);have f5:=au hC (p:=⟨w.heap.size+1,0,none⟩) (by have:=B2.out.lt;exact this) (fun h=>h) (B2.out.cell 0);have f6:=au hC (p:=⟨w.heap.size+1,1,none⟩) (by have:=B2.out.lt;exact this) (fun h=>h) (B2.out.cell 1);have t1:=au hC (p:=⟨g1,o1+s1,none⟩) (Nat.lt_of_lt_of_le hg1 hsz) (fun h=>h) ((X1.out.cell (p:=⟨g1,o1+s1,none⟩) hg1).trans y1);have t2:=au hC (p:=⟨g2,o2+s2,none⟩) (Nat.lt_of_lt_of_le hg2 hsz) (fun h=>h) ((X1.out.cell (p:=⟨g2,o2+s2,none⟩) hg2).trans y2);have t6:=au hC (p:=⟨g6,o6+k,none⟩) (Nat.lt_of_lt_of_le Ws hsz) (fun h=>h) ((X1.out.cell (p:=⟨g6,o6+k,none⟩) Ws).trans y6);have t7:=au hC (p:=⟨g7,o7+k,none⟩) (Nat.lt_of_lt_of_le XM hsz) (fun h=>h) ((X1.out.cell (p:=⟨g7,o7+k,none⟩) XM).trans y7);have t8:=au hC (p:=⟨g8,o8+q1,none⟩) (Nat.lt_of_lt_of_le hg8 hsz) (fun h=>h) ((X1.out.cell (p:=⟨g8,o8+q1,none⟩) hg8).trans y8);have t9:=au hC (p:=⟨g9,o9+q2,none⟩) (Nat.lt_of_lt_of_le XU hsz) (fun h=>h) ((X1.out.cell (p:=⟨g9,o9+q2,none⟩) XU).trans y9);clear hC y1 y2 y6 y7 y8 y9
 repeat (refine ae (fun K hK=>?_);first | (refine bp rfl ?_;try go_simp;refine hK _ _ ?_;clear hK K) | (refine aX rfl rfl ?_;unfold aq;go_simp;refine hK _ _ ?_;clear hK K))
 refine aV (fun W hW hH=>?_);have hM:=(HC.out W).1 hW;have C3:=hid (B3.out.below hM.below B3.out.lt);have XX:=hid (X1.out.below.trans (hM.below.mono X1.out.size));clear hM hW hH HC X1 f1 f2 f3 f4 f5 f6 t1 t2 t6 t7 t8 t9 B1 B2 B3;have k0:W.cell? ⟨w.heap.size+1+1,0,none⟩=some (.int .i64 0):=C3.out.cell 0;have k1:W.cell? ⟨w.heap.size+1+1,1,none⟩=some (.int .i64 0):=C3.out.cell 1;have z0:=C3.out.frozen 0;have z1:=C3.out.frozen 1;go_wp2;obtain⟨W9,cT⟩:∃ W9,W9=((W.setCell ⟨w.heap.size+1+1,0,none⟩ (.int .i64 r1)).setCell ⟨w.heap.size+1+1,1,none⟩ (.int .i64 r2)):=⟨_,rfl⟩;have E:Hid (ah W9 (w.heap.size+1+1) #[.int .i64 r1,.int .i64 r2] 79):=by rw[cT];exact(C3.out.set 0 _).set 1 _
 have X9:Hid (Below w.heap.size w W9):=by rw[cT];exact(XX.out.setCell (by simp;omega) _).setCell (by simp;omega) _
 rw[<-cT];clear cT k0 k1 z0 z1;have p0:W9.cell? ⟨w.heap.size+1+1,0,none⟩=some (.int .i64 r1):=E.out.cell 0;have p1:W9.cell? ⟨w.heap.size+1+1,1,none⟩=some (.int .i64 r2):=E.out.cell 1;refine bodyPost_ret (v:=.agg #[.int .i64 r1,.int .i64 r2]) (by simp[results,Tryz.results34,go_sem,p0,p1]) rfl ⟨rfl,X9.out⟩
theorem wH (base:Nat) (v:Value) (a b:DF) (ra:Rt a) (rb:Rt b) (op:Nat) (Wt:1<=op) (Wu:op<=4) (p:Nat×Nat) (hp:fV a b p) (sa:Sm a) (sb:Sm b) (w:World) (h:iq base w v a b op): Calls Tryz.prog 35 #[v,.agg #[.int .i64 p.1,.int .i64 p.2]] w fun e w'=>∃ u,e=.returned u/\w'.ownsRow w.heap.size 3 1 u (cP a b op p).length ((cP a b op p).map aG)/\Below w.heap.size w w':=by
 obtain⟨a0,a1,a2,b0,b1,b2,c,o,t,rfl,_,h2,_,h4,_,_,_⟩:=h;generalize Ic a0=a0;generalize Ic b0=b0;obtain⟨s1,s2⟩:=p;obtain⟨hs1,hs2⟩:=hp;simp only at hs1 hs2 ⊢;rw[<-ra.mr]at hs1;rw[<-rb.mr]at hs2;obtain⟨l1,nG⟩:∃ l,a.mr[s1]? =some l:=⟨_,List.getElem?_eq_getElem hs1⟩;obtain⟨l2,hl2⟩:∃ l,b.mr[s2]? =some l:=⟨_,List.getElem?_eq_getElem hs2⟩;obtain⟨x1,n1,rfl⟩:=h2.form;obtain⟨x3,n3,rfl⟩:=h4.form;obtain⟨g1,o1,c1,d1,rfl,hg1,y1,z1⟩:=h2.elem nG;obtain⟨g2,o2,c2,d2,rfl,hg2,y2,z2⟩:=h4.elem hl2;have ll1:=sa.XG l1 (List.mem_of_getElem? nG);have ll2:=sb.XG l2 (List.mem_of_getElem? hl2);have m1:(s1:Int)<(a.mr.length:Nat):=by omega
 have m2:(s2:Int)<(b.mr.length:Nat):=by omega
 obtain⟨XY,Ui⟩:∃ x,x=acc a s1:=⟨_,rfl⟩;obtain⟨XZ,Uj⟩:∃ x,x=acc b s2:=⟨_,rfl⟩;obtain⟨r,hr⟩:∃ r,r=rG op XY XZ:=⟨_,rfl⟩;have kK:cP a b op (s1,s2)=if r then [0]else []:=by rw[hr,Ui,Uj];rfl
 have CS:Hid (∀ W,Calls Tryz.prog (jb op) #[.bool XY,.bool XZ] W fun e w'=>e=.returned (.bool r)/\w'=W):=fun W=>by rw[hr];exact Ib op Wt Wu XY XZ W
 have yU:∀ (d:DF) (s:Nat) (l:List Int),d.mr[s]? =some l->acc d s=decide (0<l.length):=fun d s l h=>by
  unfold acc;rw[getD_some h];cases l<;>simp
 have u1:=yU a s1 l1 nG;have u2:=yU b s2 l2 hl2;rw[<-Ui]at u1;rw[<-Uj]at u2;have eg:=Qh op Wt Wu;obtain⟨j1,Xx⟩:∃ j,j=l1.length:=⟨_,rfl⟩;obtain⟨j2,gz⟩:∃ j,j=l2.length:=⟨_,rfl⟩;rw[<-Xx]at y1 u1 ll1;rw[<-gz]at y2 u2 ll2;have v1:decide ((0:Int)<j1)=XY:=by rw[u1];rw[Bool.eq_iff_iff];simp
 have v2:decide ((0:Int)<j2)=XZ:=by rw[u2];rw[Bool.eq_iff_iff];simp
 have v1':decide (0<j1)=XY:=u1.symm;have v2':decide (0<j2)=XZ:=u2.symm;rw[kK];generalize a.mr.length=na at*;generalize b.mr.length=nb at*;generalize jb op=gf at*;clear h2 h4 z1 z2 nG hl2 Xx gz u1 u2 Ui Uj hr kK yU ra rb sa sb Wt Wu;go_enter Tryz.func35,Tryz.ntmps35;go_wp2;refine ax ?_;intro V hV;have B1:Hid (ah V w.heap.size #[a0,a1,.slice (some ⟨g1,o1,none⟩) na n1,b0,b1,.slice (some ⟨g2,o2,none⟩) nb n3,c,o,t,.func (.func gf) #[] #[]] 76):=by rw[hV];exact(ah.new w _ _).alloc _
 have B2:Hid (ah V (w.heap.size+1) #[.int .i64 s1,.int .i64 s2] 79):=by rw[hV];exact(ah.new (w.alloc _) _ _).at (by simp)
 have X1:Hid (Ext w V):=by rw[hV];exact((Ext.refl w).alloc _).alloc _
 clear hV;have hsz:=X1.out.size;refine aA false (fun _=>False) (by kernel_rfl) 21 [0,1,0,4,12,0,32,124,252,508,1020,0,2048,6144,0,16384,63488,129024,260096,522240,1048575] (fun i=>i==20) (by kernel_rfl) (fun i=>aR.xg _ (.bool r)) ?_;intro C hC hne;have HC:=hid hC;have f1:=au hC (p:=⟨w.heap.size,9,none⟩) (by have:=B1.out.lt;exact this) (fun h=>h) (B1.out.cell 9);have f2:=au hC (p:=⟨w.heap.size,2,none⟩) (by have:=B1.out.lt;exact this) (fun h=>h) (B1.out.cell 2);have f3:=au hC (p:=⟨w.heap.size,5,none⟩) (by have:=B1.out.lt;exact this) (fun h=>h) (B1.out.cell 5);have f5:=au hC (p:=⟨w.heap.size+1,0,none⟩) (by have:=B2.out.lt;exact this) (fun h=>h) (B2.out.cell 0);have f6:=au hC (p:=⟨w.heap.size+1,1,none⟩) (by have:=B2.out.lt;exact this) (fun h=>h) (B2.out.cell 1);have t1:=au hC (p:=⟨g1,o1+s1,none⟩) (Nat.lt_of_lt_of_le hg1 hsz) (fun h=>h) ((X1.out.cell (p:=⟨g1,o1+s1,none⟩) hg1).trans y1);have t2:=au hC (p:=⟨g2,o2+s2,none⟩) (Nat.lt_of_lt_of_le hg2 hsz) (fun h=>h) ((X1.out.cell (p:=⟨g2,o2+s2,none⟩) hg2).trans y2);clear hC y1 y2
 repeat (refine ae (fun K hK=>?_);first | (refine bp rfl ?_;try go_simp;refine hK _ _ ?_;clear hK K) | (refine aX rfl rfl ?_;unfold aq;go_simp;refine hK _ _ ?_;clear hK K))
 refine ae (fun K hK=>?_);refine bH rfl rfl (aR.xg _ (.bool r)) rfl (fun W hW hN=>?_) (fun v hv=>?_)
 ·have hM:=(HC.out W).1 hW
  clear hW;go_simp;refine bC ((CS.out _).mono ?_);rintro e w2 ⟨rfl,hx⟩;exact⟨_,rfl,(by rw[hx];exact Move.aj (Below.refl _ _)),rfl,trivial⟩
 replace hv:v=_:=hv;subst hv;go_simp;refine hK _ _ ?_;clear hK K;refine aV (fun W hW hH=>?_);have hM:=(HC.out W).1 hW;have XX:=hid (X1.out.below.trans (hM.below.mono X1.out.size));clear hM hW hH HC X1 f1 f2 f3 f5 f6 t1 t2 B1 B2;cases r with
 | true=>
  go_wp2;go_ret;refine⟨_,rfl,?_,XX.out.alloc XX.out.size _⟩;exact World.ownsRow_lit W #[.int .i64 0] 1 (base:=w.heap.size) (size:=1) (e:=3) XX.out.size (by unfold maxLen;omega) rfl
 | false=>
  go_wp2;go_ret;exact⟨_,rfl,World.ownsRow_nil _ _ _ _,XX.out⟩
end Go.Proofs.YtalombmiochpmaaGreatDoor
