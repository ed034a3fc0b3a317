/- product: the methods of both: next and marks. -/
import Derived.Test.YtalombmiochpmaaGreatDoorOR06
set_option maxRecDepth 100000
set_option maxHeartbeats 16000000
open Go.Lib (hid)
namespace Go.Proofs.YtalombmiochpmaaGreatDoor
open Go Go.RowKit Go.Shelf Go.Maps
theorem qP {d:DF} {s:Nat} (hs:s<d.nx.length) (h:d.oL s=false):d.right=false:=by
 unfold DF.right;have:(List.range d.nx.length).all d.oL=false:=by
  rw[List.all_eq_false];exact⟨s,by simpa using hs,by rw[h];decide⟩
 rw[this,Bool.and_false]
theorem NM {d:DF} (h1:1<=d.nx.length) (h2:d.nx.length<=4000) (h3:d.mr.length=d.nx.length) (h4:(partsOf d.cl==d.cl)=true) (h:∀ s,s<d.nx.length->d.oL s=true):d.right=true:=by
 unfold DF.right;have:(List.range d.nx.length).all d.oL=true:=by
  rw[List.all_eq_true];intro s hs;exact h s (by simpa using hs)
 rw[this,decide_eq_true h1,decide_eq_true h2,decide_eq_true h3,h4];rfl
theorem tE {d:DF} (h:d.nx.length<1\/4000<d.nx.length\/d.mr.length≠d.nx.length\/(partsOf d.cl==d.cl)=false):d.right=false:=by
 unfold DF.right;rcases h with h | h | h | h
 ·rw[show decide (1<=d.nx.length)=false from decide_eq_false (by omega)];simp
 ·rw[show decide (d.nx.length<=4000)=false from decide_eq_false (by omega)];simp
 ·rw[show decide (d.mr.length=d.nx.length)=false from decide_eq_false h];simp
 ·rw[h];simp
theorem VZ {d:DF} {s:Nat} (h:(d.nx.getD s []).length≠d.cl.length):d.oL s=false:=by unfold DF.oL;rw[show decide ((d.nx.getD s []).length=d.cl.length)=false from decide_eq_false h];simp
theorem We {d:DF} {s:Nat} (h:(d.nx.getD s []).any (fun x=> !U6 d.nx.length x)=true):d.oL s=false:=by
 unfold DF.oL;have:(d.nx.getD s []).all (U6 d.nx.length)=false:=by
  rw[List.all_eq_false];obtain⟨x,hx,hn⟩:=List.any_eq_true.1 h;exact⟨x,hx,by simpa using hn⟩
 rw[this];simp
theorem Mv {d:DF} {s:Nat} (h:jl (d.mr.getD s [])=false):d.oL s=false:=by unfold DF.oL;rw[h,Bool.and_false]
theorem Wh {d:DF} {s:Nat} (h1:(d.nx.getD s []).length=d.cl.length) (h2:(d.nx.getD s []).any (fun x=> !U6 d.nx.length x)=false) (h3:jl (d.mr.getD s [])=true):d.oL s=true:=by
 unfold DF.oL;have:(d.nx.getD s []).all (U6 d.nx.length)=true:=by
  rw[List.all_eq_true];intro x hx;have:=List.any_eq_false.1 h2 x hx;simpa using this
 rw[this,h3,decide_eq_true h1];rfl
theorem Rs {l:List Int} {k:Nat} (hk:k<l.length) (h:vT l k=false):jl l=false:=by unfold jl;rw[List.all_eq_false];exact⟨k,by simpa using hk,by rw[h];decide⟩
theorem Wi {l:List Int} (h:∀ k,k<l.length->vT l k=true):jl l=true:=by unfold jl;rw[List.all_eq_true];intro k hk;exact h k (by simpa using hk)
theorem Ru {l:List Int} {k:Nat} {x:Int} (hx:l[k]? =some x):vT l k=(decide (pM l k<x)&&decide (x<=255)):=by unfold vT;rw[getD_some hx]
theorem Hf {l:List Int} {k:Nat} {x:Int} (hx:l[k]? =some x):pM l (k+1)=x:=by unfold pM;rw[if_neg (by omega),Nat.add_sub_cancel,getD_some hx]
def aH.row (base:Nat) (e:TypeId) (size n:Nat) (xs:List Value):aH (Move false (fun _=>False)) where
 P:=fun v=>∃ a c,v=.slice a n c
 H:=fun v W=>W.ownsRow base e size v n xs
 oI:=.slice none n 0
 pw:=⟨none,0,rfl⟩
 st:=fun _ _ _ hm _ h=>aq h hm.below
theorem Km (v:Value) (d:DF) (w:World) (h:Yq w v d) (sm:Sm d): Calls Tryz.prog 13 #[v] w fun e w'=>e=.returned (.bool d.right)/\Below w.heap.size w w':=by
 obtain⟨v0,v1,v2,rfl,h0,h1,h2⟩:=h;obtain⟨a0,c0,rfl⟩:=h0.1.form;obtain⟨a1,c1,rfl⟩:=h1.form;obtain⟨a2,c2,rfl⟩:=h2.form;obtain⟨n0,dD⟩:∃ n,n=d.cl.length:=⟨_,rfl⟩;obtain⟨n1,gR⟩:∃ n,n=d.nx.length:=⟨_,rfl⟩;obtain⟨n2,jB⟩:∃ n,n=d.mr.length:=⟨_,rfl⟩;obtain⟨r,hr⟩:∃ r,r=d.right:=⟨_,rfl⟩;obtain⟨q,hq⟩:∃ q,q=(partsOf d.cl==d.cl):=⟨_,rfl⟩;have l0:=sm.cl;have l1:=sm.nx;have l2:=sm.mr;rw[<-dD]at h0 l0 ⊢;rw[<-gR]at h1 l1 ⊢;rw[<-jB]at h2 l2 ⊢;rw[<-hr];have lJ:=hid dD;have ku:=hid gR;have j9:=hid jB;have HR:=hid hr;have HQ:=hid hq;have H0:=hid h0;have H1:=hid h1;have H2:=hid h2;have SM:=hid sm;obtain⟨pl,hpl⟩:∃ pl,pl=partsOf d.cl:=⟨_,rfl⟩;have CP:Hid (∀ W,dm W (.slice a0 n0 c0) d.cl->Calls Tryz.prog 37 #[.slice a0 n0 c0] W fun e w'=>∃ v,e=.returned v/\w'.ownsRow W.heap.size 59 4 v pl.length (aN pl)/\Below W.heap.size W w'):=fun W h=>by rw[hpl];exact Ca d.cl _ W h (by have:=SM.out.cl;omega)
 have CE:Hid (∀ W u,dm W u pl->dm W (.slice a0 n0 c0) d.cl->Calls Tryz.prog 36 #[u,.slice a0 n0 c0] W fun e w'=>e=.returned (.bool q)/\Ext W w'):=fun W u h k=>by
  rw[hq];rw[hpl]at h;exact Kl _ _ _ _ W h k (by rw[(dX d.cl).length_eq];have:=dW d.cl;omega)
 clear h0 h1 h2 dD gR jB hr hq sm hpl;go_enter Tryz.func13,Tryz.ntmps13;go_wp2;refine aw ?_;intro V hV;have hB1:ah V w.heap.size #[.slice a0 n0 c0,.slice a1 n1 c1,.slice a2 n2 c2] 28:=by rw[hV];exact(ah.new w _ _).alloc _
 have hB2:ah V (w.heap.size+1) #[.int .i64 n1] 3:=by rw[hV];exact(ah.new (w.alloc _) _ _).at (by simp)
 have hx:Below w.heap.size w V:=by rw[hV];exact(((Ext.refl w).alloc _).alloc _).below
 have oK:=hid hB1;have eT:=hid hB2;have HX:=hid hx;clear hV hB1 hB2 hx;by_cases q1:n1<1
 ·have d1:decide ((n1:Int)<1)=true:=decide_eq_true (by omega)
  have d1':decide (n1<1)=true:=decide_eq_true q1;refine aD false (fun _=>False) (by kernel_rfl) 22 [0,1,3,7,15,31,63,127,255,511,127,2047,4095,8191,16383,32767,65535,16383,147455,524287,1048575,2097151] (fun i=>i==16 || i==19) (by kernel_rfl) (fun i=>if i=16 then aH.row w.heap.size 59 4 pl.length (aN pl)else if i=19 then aH.gU _ (.bool q)else aH.any _) ?_;intro C hC hne;have HC:=hid hC;have f0:=ak hC (p:=⟨w.heap.size,0,none⟩) (by have:=oK.out.lt;exact this) (fun h=>h) (oK.out.cell 0);have f2:=ak hC (p:=⟨w.heap.size,2,none⟩) (by have:=oK.out.lt;exact this) (fun h=>h) (oK.out.cell 2);have f3:=ak hC (p:=⟨w.heap.size+1,0,none⟩) (by have:=eT.out.lt;exact this) (fun h=>h) (eT.out.cell 0);clear hC
  repeat (refine ae (fun K hK=>?_);first | (refine aR rfl ?_;try go_simp;refine hK _ _ ?_;clear hK K) | (refine aO rfl rfl ?_;unfold ai;go_simp;refine hK _ _ ?_;clear hK K))
  refine bh (fun W hW hH=>?_);have hM:=(HC.out W).1 hW;have lC:=hid (HR.out.trans (tE (.inl (by rw[<-ku.out];exact q1))));clear hW hH f0 f2 f3;go_wp2;go_ret;exact⟨by rw[lC.out];rfl,HX.out.trans (hM.below.mono HX.out.size)⟩
 ·have d1:decide ((n1:Int)<1)=false:=decide_eq_false (by omega)
  have d1':decide (n1<1)=false:=decide_eq_false q1;by_cases q2:4000<n1
  ·have d2:decide ((4000:Int)<n1)=true:=decide_eq_true (by omega)
   have d2':decide (4000<n1)=true:=decide_eq_true q2;refine aD false (fun _=>False) (by kernel_rfl) 22 [0,1,3,7,15,31,63,127,255,511,127,2047,4095,8191,16383,32767,65535,16383,147455,524287,1048575,2097151] (fun i=>i==16 || i==19) (by kernel_rfl) (fun i=>if i=16 then aH.row w.heap.size 59 4 pl.length (aN pl)else if i=19 then aH.gU _ (.bool q)else aH.any _) ?_;intro C hC hne;have HC:=hid hC;have f0:=ak hC (p:=⟨w.heap.size,0,none⟩) (by have:=oK.out.lt;exact this) (fun h=>h) (oK.out.cell 0);have f2:=ak hC (p:=⟨w.heap.size,2,none⟩) (by have:=oK.out.lt;exact this) (fun h=>h) (oK.out.cell 2);have f3:=ak hC (p:=⟨w.heap.size+1,0,none⟩) (by have:=eT.out.lt;exact this) (fun h=>h) (eT.out.cell 0);clear hC
   repeat (refine ae (fun K hK=>?_);first | (refine aR rfl ?_;try go_simp;refine hK _ _ ?_;clear hK K) | (refine aO rfl rfl ?_;unfold ai;go_simp;refine hK _ _ ?_;clear hK K))
   refine bh (fun W hW hH=>?_);have hM:=(HC.out W).1 hW;have lC:=hid (HR.out.trans (tE (.inr (.inl (by rw[<-ku.out];exact q2)))));clear hW hH f0 f2 f3;go_wp2;go_ret;exact⟨by rw[lC.out];rfl,HX.out.trans (hM.below.mono HX.out.size)⟩
  ·have d2:decide ((4000:Int)<n1)=false:=decide_eq_false (by omega)
   have d2':decide (4000<n1)=false:=decide_eq_false q2;by_cases q3:n2=n1
   ·obtain rfl:n1=n2:=q3.symm
    clear q3;refine aD false (fun _=>False) (by kernel_rfl) 22 [0,1,3,7,15,31,63,127,255,511,127,2047,4095,8191,16383,32767,65535,16383,147455,524287,1048575,2097151] (fun i=>i==16 || i==19) (by kernel_rfl) (fun i=>if i=16 then aH.row w.heap.size 59 4 pl.length (aN pl)else if i=19 then aH.gU _ (.bool q)else aH.any _) ?_;intro C hC hne;have HC:=hid hC;have f0:=ak hC (p:=⟨w.heap.size,0,none⟩) (by have:=oK.out.lt;exact this) (fun h=>h) (oK.out.cell 0);have f2:=ak hC (p:=⟨w.heap.size,2,none⟩) (by have:=oK.out.lt;exact this) (fun h=>h) (oK.out.cell 2);have f3:=ak hC (p:=⟨w.heap.size+1,0,none⟩) (by have:=eT.out.lt;exact this) (fun h=>h) (eT.out.cell 0);clear hC
    repeat (refine ae (fun K hK=>?_);first | (refine aR rfl ?_;try go_simp;refine hK _ _ ?_;clear hK K) | (refine aO rfl rfl ?_;unfold ai;go_simp;refine hK _ _ ?_;clear hK K))
    refine ae (fun K hK=>?_);refine bg rfl rfl (aH.row w.heap.size 59 4 pl.length (aN pl)) rfl (fun W hW hN=>?_) (fun v hv=>?_)
    ·have hM:=(HC.out W).1 hW
     clear hW;go_simp;refine aB ((CP.out _ ((H0.out.1.below HX.out).below hM.below)).mono ?_);rintro e w2 ⟨vp,rfl,ho,hx⟩;exact⟨_,rfl,Move.ag hx,ownsRow_form ho,aA ho (Nat.le_trans HX.out.size hM.size)⟩
    obtain⟨ap,cp,rfl⟩:=hv;go_simp;refine hK _ _ ?_;clear hK K
    repeat (refine ae (fun K hK=>?_);first | (refine aR rfl ?_;try go_simp;refine hK _ _ ?_;clear hK K) | (refine aO rfl rfl ?_;unfold ai;go_simp;refine hK _ _ ?_;clear hK K))
    refine ae (fun K hK=>?_);refine bg rfl rfl (aH.gU _ (.bool q)) rfl (fun W hW hN=>?_) (fun v hv=>?_)
    ·have hM:=(HC.out W).1 hW
     clear hW;go_simp;refine aB ((CE.out _ _ (jT (hN.at 0 rfl (by kernel_rfl))) ((H0.out.1.below HX.out).below hM.below)).mono ?_);rintro e w2 ⟨rfl,hx⟩;exact⟨_,rfl,Move.QL hx,rfl,trivial⟩
    replace hv:v=_:=hv;subst hv;go_simp;refine hK _ _ ?_;clear hK K
    repeat (refine ae (fun K hK=>?_);first | (refine aR rfl ?_;try go_simp;refine hK _ _ ?_;clear hK K) | (refine aO rfl rfl ?_;unfold ai;go_simp;refine hK _ _ ?_;clear hK K))
    refine bh (fun W hW hH=>?_);have hM:=(HC.out W).1 hW;have XB1:=hid (oK.out.below hM.below oK.out.lt);have XB2:=hid (eT.out.below hM.below eT.out.lt);have XX:=hid (HX.out.trans (hM.below.mono HX.out.size));clear hM hW hH f0 f2 f3 HC oK eT HX CP CE d1 d1' d2 d2';cases q with
    | false=>
     have lC:=hid (HR.out.trans (tE (.inr (.inr (.inr HQ.out.symm)))));go_wp2;go_ret;exact⟨by rw[lC.out];rfl,XX.out⟩
    | true=>
     have b0:=XB1.out.cell 0;have b1:=XB1.out.cell 1;have b2:=XB1.out.cell 2;have b3:=XB2.out.cell 0;simp only[List.getElem?_toArray,List.getElem?_cons_zero,List.getElem?_cons_succ]at b0 b1 b2 b3;have H1':=hid (H1.out.below XX.out);have H2':=hid (H2.out.below XX.out);clear H1 H2 H0;go_wp2
     go_loop [37] (fun i=>∃ s:Nat,s<=n1/\i=.int .i64 s/\∀ j,j<s->d.oL j=true) (fun i=>n1-(intOf i).toNat)
     case atStart=>exact⟨0,by omega,rfl,fun j hj=>by omega⟩
     case round=>
      obtain⟨s,hs,rfl,ha⟩:=hrel;have HA:=hid ha;clear ha;by_cases hlt:s<n1
      ·obtain⟨l,hl⟩:∃ l,d.nx[s]? =some l:=⟨_,List.getElem?_eq_getElem (by have:=ku.out;omega)⟩
       obtain⟨m,hm⟩:∃ m,d.mr[s]? =some m:=⟨_,List.getElem?_eq_getElem (by have:=j9.out;omega)⟩;obtain⟨g1,o1,e1,k1,rfl,hg1,x1,y1⟩:=H1'.out.elem hl;obtain⟨g2,o2,e2,k2,rfl,hg2,x2,y2⟩:=H2'.out.elem hm;have gl:=getD_some (d:=([]:List Int)) hl;have gm:=getD_some (d:=([]:List Int)) hm;have ll:=SM.out.Ci l (List.mem_of_getElem? hl);have lm:=SM.out.mks m (List.mem_of_getElem? hm);have hs1:s<d.nx.length:=by have:=ku.out;omega
       have Hs1:=hid hs1;have gz:(s:Int)<n1:=by omega
       obtain⟨j,hj⟩:∃ j,j=l.length:=⟨_,rfl⟩;obtain⟨k,hk⟩:∃ k,k=m.length:=⟨_,rfl⟩;rw[<-hj]at x1 y1 ll;rw[<-hk]at x2 y2 lm;have HJ:=hid hj;have HK:=hid hk;have GL:=hid gl;have GM:=hid gm;have Y1:=hid y1;have Y2:=hid y2;clear hl hm hj hk gl gm y1 y2 hs1;by_cases hj0:j=n0
       ·subst hj0
        obtain⟨z,hz⟩:∃ z,z=l.any (fun x=> !U6 n1 x):=⟨_,rfl⟩
        have CC:Hid (Calls Tryz.prog 38 #[.slice e1 j k1,.func (.func 39) #[] #[.pointer (some ⟨w.heap.size+1,0,none⟩)]] W fun e w'=>e=.returned (.bool z)/\w'=W):=hid (by
         rw[hz]
         exact tD _ _ (fun x=> !U6 n1 x) _ l W Y1.out (by rw[<-HJ.out];exact ll) NL (fun x W' Et=>Kj x n1 _ W' ((XB2.out.below Et XB2.out.lt).cell 0)))
        have HZ:=hid hz;clear hz;cases z with
        | true=>
         have lC:=hid (HR.out.trans (qP Hs1.out (We (by rw[GL.out, <-ku.out];exact HZ.out.symm))));go_wp2_with fail
         refine(CC.out).mono ?_;rintro e w' ⟨rfl,hw⟩;replace hw:=hw.symm;subst hw;go_wp2;go_ret;exact⟨by rw[lC.out];rfl,XX.out⟩
        | false=>
         go_wp2_with fail
         refine(CC.out).mono ?_;rintro e w' ⟨rfl,hw⟩;replace hw:=hw.symm;subst hw;go_wp2
         go_loop [59,6] (fun i p=>∃ c:Nat,c<=k/\i=.int .i64 c/\p=.int .i64 (pM m c)/\∀ i,i<c->vT m i=true) (fun i _=>k-(intOf i).toNat)
         case atStart=>exact⟨0,by omega,rfl,rfl,fun i hi=>by omega⟩
         case round=>
          obtain⟨c,hc,rfl,rfl,hc2⟩:=hrel;have Ck:=hid hc2;clear hc2;by_cases hck:c<k
          ·obtain⟨x,hx⟩:∃ x,m[c]? =some x:=⟨_,List.getElem?_eq_getElem (by have:=HK.out;omega)⟩
           obtain⟨g3,o3,rfl,hg3,x3⟩:=Y2.out.elem hx;have x3':W.cell? ⟨g3,o3+c,none⟩=some (.int .i64 x):=x3;have hci:(c:Int)<k:=by omega
           have Yr:=hid (Ru hx);have HPS:=hid (Hf hx);have HXM:=hid hx;clear hx x3;generalize pM m c=pv at Yr ⊢;by_cases h1:x<=pv
           ·have d1:decide (x<=pv)=true:=decide_eq_true h1
            have lC:=hid (HR.out.trans (qP Hs1.out (Mv (by rw[GM.out];exact Rs (by rw[<-HK.out];exact hck) (by rw[Yr.out,show decide (pv<x)=false from decide_eq_false (by omega)];rfl)))));go_wp2;go_ret;exact⟨by rw[lC.out];rfl,XX.out⟩
           ·have d1:decide (x<=pv)=false:=decide_eq_false h1
            by_cases h2:255<x
            ·have d2:decide (255<x)=true:=decide_eq_true h2
             have lC:=hid (HR.out.trans (qP Hs1.out (Mv (by rw[GM.out];exact Rs (by rw[<-HK.out];exact hck) (by rw[Yr.out,show decide (x<=255)=false from decide_eq_false (by omega),Bool.and_false])))));go_wp2;go_ret;exact⟨by rw[lC.out];rfl,XX.out⟩
            ·have d2:decide (255<x)=false:=decide_eq_false h2
             go_wp2
             go_round
             case rel=>exact⟨c+1,by omega,by go_num,by rw[HPS.out],fun i hi=>by
              by_cases e:i=c
              ·subst e;rw[Yr.out,decide_eq_true (show pv<x by omega),decide_eq_true (show x<=255 by omega)];rfl
              ·exact Ck.out i (by omega)⟩
             case measure=>simp[intOf];omega
          ·obtain rfl:c=k:=by omega
           go_wp2
           go_round
           case rel=>
            have hrow:∀ j',j'<s+1->d.oL j'=true:=fun j' hj'=>by
             by_cases e:j'=s
             ·rw[e]
              exact Wh (by rw[GL.out, <-HJ.out];exact lJ.out) (by rw[GL.out, <-ku.out];exact HZ.out.symm) (by rw[GM.out];exact Wi fun i hi=>Ck.out i (by rw[HK.out];exact hi))
             ·exact HA.out j' (by omega)
            exact⟨_,_,_,_,_,_,⟨s+1,by omega,by go_num,hrow⟩,rfl,rfl,rfl,rfl,rfl,rfl⟩
           case measure=>simp[intOf];omega
       ·have d3:((j:Int)==(n0:Int))=false:=by rw[beq_eq_false_iff_ne];omega
        have d3':((j:Int) != (n0:Int))=true:=by simp;omega
        have aje:(j==n0)=false:=by rw[beq_eq_false_iff_ne];exact hj0
        have lC:=hid (HR.out.trans (qP Hs1.out (VZ (by rw[GL.out, <-HJ.out, <-lJ.out];exact hj0))));go_wp2;go_ret;exact⟨by rw[lC.out];rfl,XX.out⟩
      ·obtain rfl:s=n1:=by omega
       have lC:=hid (HR.out.trans (NM (by rw[<-ku.out];omega) (by rw[<-ku.out];omega) (by rw[<-ku.out, <-j9.out]) HQ.out.symm (fun j hj=>HA.out j (by rw[ku.out];exact hj))));go_wp2;go_ret;exact⟨by rw[lC.out];rfl,XX.out⟩
   ·have d3:((n2:Int)==(n1:Int))=false:=by rw[beq_eq_false_iff_ne];omega
    have d3':((n2:Int) != (n1:Int))=true:=by simp;omega
    have aje:(n2==n1)=false:=by rw[beq_eq_false_iff_ne];exact q3
    refine aD false (fun _=>False) (by kernel_rfl) 22 [0,1,3,7,15,31,63,127,255,511,127,2047,4095,8191,16383,32767,65535,16383,147455,524287,1048575,2097151] (fun i=>i==16 || i==19) (by kernel_rfl) (fun i=>if i=16 then aH.row w.heap.size 59 4 pl.length (aN pl)else if i=19 then aH.gU _ (.bool q)else aH.any _) ?_;intro C hC hne;have HC:=hid hC;have f0:=ak hC (p:=⟨w.heap.size,0,none⟩) (by have:=oK.out.lt;exact this) (fun h=>h) (oK.out.cell 0);have f2:=ak hC (p:=⟨w.heap.size,2,none⟩) (by have:=oK.out.lt;exact this) (fun h=>h) (oK.out.cell 2);have f3:=ak hC (p:=⟨w.heap.size+1,0,none⟩) (by have:=eT.out.lt;exact this) (fun h=>h) (eT.out.cell 0);clear hC
    repeat (refine ae (fun K hK=>?_);first | (refine aR rfl ?_;try go_simp;refine hK _ _ ?_;clear hK K) | (refine aO rfl rfl ?_;unfold ai;go_simp;refine hK _ _ ?_;clear hK K))
    refine bh (fun W hW hH=>?_);have hM:=(HC.out W).1 hW;have lC:=hid (HR.out.trans (tE (.inr (.inr (.inl (by rw[<-ku.out, <-j9.out];exact q3))))));clear hW hH f0 f2 f3;go_wp2;go_ret;exact⟨by rw[lC.out];rfl,HX.out.trans (hM.below.mono HX.out.size)⟩
theorem dJ (v:Value) (d:DF) (w:World) (h:aT w v d) (sm:Sm d): Calls Tryz.prog 13 #[v] w fun e w'=>e=.returned (.bool d.right)/\Below w.heap.size w w':=Km v d w h.e sm
def aH.oll (base:Nat) (ll:List (List Int)):aH (Move false (fun _=>False)) where
 P:=fun v=>∃ a c,v=.slice a ll.length c
 H:=fun v W=>aW base W v ll
 oI:=.slice none ll.length 0
 pw:=⟨none,0,rfl⟩
 st:=fun _ _ _ hm _ h=>h.below hm.below
theorem ah.three {w:World} {b:Nat} {x y z:Value} {t:TypeId} (h:ah w b #[x,y,z] t):(w.cell? ⟨b,0,none⟩=some x/\w.cell? ⟨b,1,none⟩=some y/\w.cell? ⟨b,2,none⟩=some z)/\w.frozen? ⟨b,0,none⟩=false/\w.frozen? ⟨b,1,none⟩=false/\w.frozen? ⟨b,2,none⟩=false:=
 ⟨⟨h.cell 0,h.cell 1,h.cell 2⟩,h.frozen 0,h.frozen 1,h.frozen 2⟩
theorem ah.rW {w:World} {b:Nat} {x y z x' y' z':Value} {t:TypeId} (h:ah w b #[x,y,z] t):ah (((w.setCell ⟨b,0,none⟩ x').setCell ⟨b,1,none⟩ y').setCell ⟨b,2,none⟩ z') b #[x',y',z'] t:=((h.set 0 x').set 1 y').set 2 z'
theorem dZ {w W:World} {n b:Nat} {x y z:Value} (h:Below n w W) (hb:n<=b):Below n w (((W.setCell ⟨b,0,none⟩ x).setCell ⟨b,1,none⟩ y).setCell ⟨b,2,none⟩ z):=
 ((h.setCell (by simpa using hb) _).setCell (by simpa using hb) _).setCell (by simpa using hb) _
def aH.Mw (base n:Nat) (xs:List Value):aH (Move false (fun _=>False)) where
 P:=fun v=>∃ b,v=.slice (some ⟨b,0,none⟩) 1 1
 H:=fun v W=>∀ b,v=.slice (some ⟨b,0,none⟩) 1 1->∃ u,ah W b #[u] 47/\W.ownsRow base 3 1 u n xs
 oI:=.slice (some ⟨0,0,none⟩) 1 1
 pw:=⟨0,rfl⟩
 st:=fun _ _ _ hm _ h b hb=>by
  obtain⟨u,h1,h2⟩:=h b hb;exact⟨u,h1.below hm.below h1.lt,aq h2 hm.below⟩
theorem ah.Ys {w:World} {b:Nat} {u:Value} {t:TypeId} (h:ah w b #[u] t):∀ j x,[u][j]? =some x->w.cell? ((⟨b,0,none⟩:Addr).add j)=some x:=bU h
theorem mE.own {w:World} {base n:Nat} {e:TypeId} {v:Value} {xs:List Value} (h:w.ownsRow base e 1 v n xs):mE w v n xs:=by
 rcases h.2 with⟨rfl,rfl⟩ | ⟨g,c,cur,rfl,_⟩
 ·exact .inl ⟨rfl,rfl,by have:=h.1;simpa using this⟩
 ·exact .inr ⟨_,c,rfl,h.cells rfl⟩
def lR:Nat->Nat
 | 1=>56
 | 2=>57
 | 3=>58
 | _=>59
theorem Cm (k:Nat) (h1:1<=k) (h4:k<=4) (w:World):Calls Tryz.prog 32 #[.int .u8 k] w fun e w'=>e=.returned (.func (.func (lR k)) #[] #[])/\w'=w:=by
 rcases(show k=1\/k=2\/k=3\/k=4 by omega)with rfl | rfl | rfl | rfl
 all_goals
  go_enter Tryz.func32,Tryz.ntmps32
  go_wp2;go_ret;exact⟨rfl,rfl⟩
theorem NN (k:Nat) (h:k=0\/4<k) (w:World):Calls Tryz.prog 32 #[.int .u8 k] w fun e w'=>e=.returned .nilFunc/\w'=w:=by
 have d1:((k:Int)==1)=false:=by rw[beq_eq_false_iff_ne];omega
 have d2:((k:Int)==2)=false:=by rw[beq_eq_false_iff_ne];omega
 have d3:((k:Int)==3)=false:=by rw[beq_eq_false_iff_ne];omega
 have d4:((k:Int)==4)=false:=by rw[beq_eq_false_iff_ne];omega
 clear h;go_enter Tryz.func32,Tryz.ntmps32;go_wp2;go_ret;exact⟨rfl,rfl⟩
theorem NP (k:Nat) (h1:1<=k) (h4:k<=4) (x y:Bool) (w:World):Calls Tryz.prog (lR k) #[.bool x,.bool y] w fun e w'=>e=.returned (.bool (cr k x y))/\w'=w:=by
 rcases(show k=1\/k=2\/k=3\/k=4 by omega)with rfl | rfl | rfl | rfl
 ·show Calls Tryz.prog 56 _ _ _
  cases x<;>cases y
  all_goals
   go_enter Tryz.func56,Tryz.ntmps56
   go_wp2;go_ret;exact⟨rfl,rfl⟩
 ·show Calls Tryz.prog 57 _ _ _
  cases x<;>cases y
  all_goals
   go_enter Tryz.func57,Tryz.ntmps57
   go_wp2;go_ret;exact⟨rfl,rfl⟩
 ·show Calls Tryz.prog 58 _ _ _
  cases x<;>cases y
  all_goals
   go_enter Tryz.func58,Tryz.ntmps58
   go_wp2;go_ret;exact⟨rfl,rfl⟩
 ·show Calls Tryz.prog 59 _ _ _
  cases x<;>cases y
  all_goals
   go_enter Tryz.func59,Tryz.ntmps59
   go_wp2;go_ret;exact⟨rfl,rfl⟩
theorem Rv:∀ args w,(callFunc 56 args).run Tryz.prog w=.ok (.enter 56 args) w:=fun args w=>by kernel_rfl
theorem Rw:∀ args w,(callFunc 57 args).run Tryz.prog w=.ok (.enter 57 args) w:=fun args w=>by kernel_rfl
theorem Rx:∀ args w,(callFunc 58 args).run Tryz.prog w=.ok (.enter 58 args) w:=fun args w=>by kernel_rfl
theorem Ry:∀ args w,(callFunc 59 args).run Tryz.prog w=.ok (.enter 59 args) w:=fun args w=>by kernel_rfl
theorem Wj (k:Nat) (h1:1<=k) (h4:k<=4):∀ args w,(callFunc (lR k) args).run Tryz.prog w=.ok (.enter (lR k) args) w:=by
 rcases(show k=1\/k=2\/k=3\/k=4 by omega)with rfl | rfl | rfl | rfl
 ·exact Rv
 ·exact Rw
 ·exact Rx
 ·exact Ry
def Rz:Nat->ByteArray
 | 1=>⟨#[97,110,100]⟩
 | 2=>⟨#[111,114]⟩
 | 3=>⟨#[108,101,115,115]⟩
 | 4=>⟨#[100,105,102,102,101,114]⟩
 | _=>⟨#[]⟩
theorem yA {k:Nat} (h:k=0\/4<k):Rz k=⟨#[]⟩:=by unfold Rz;split<;>first | omega | rfl
theorem Hg (k:Nat) (hk:k<256) (w:World):Calls Tryz.prog 19 #[.int .u8 k] w fun e w'=>e=.returned (.string (Rz k))/\Ext w w':=by
 by_cases h5:5<=k
 ·have d1:decide ((5:Int)<=k)=true:=decide_eq_true (by omega)
  have d2:decide (5<=k)=true:=decide_eq_true h5;have hw:IntKind.i64.wrap (k:Int)=k:=IntWalk.i64_in _ (by omega);rw[yA (by omega)];go_enter Tryz.func19,Tryz.ntmps19;go_wp2;go_ret;exact⟨rfl,(Ext.refl w).alloc _⟩
 ·rcases(show k=0\/k=1\/k=2\/k=3\/k=4 by omega)with rfl | rfl | rfl | rfl | rfl
  all_goals
   go_enter Tryz.func19,Tryz.ntmps19
   go_wp2;go_ret;exact⟨rfl,(Ext.refl w).alloc _⟩
def oneOf (a:DF) (p:List BS):List Int:=(List.range p.length).map fun k=>(cls a.cl (lb p k):Int)
theorem qQ (a:DF) {p:List BS} {k:Nat} (hk:k<p.length):(oneOf a p)[k]? =some ((cls a.cl (lb p k):Nat):Int):=by unfold oneOf;rw[List.getElem?_map,List.getElem?_range hk];rfl
theorem kh (a:DF) (p:List BS):(oneOf a p).length=p.length:=by simp[oneOf]
def NQ (x:Option Addr×Nat×Nat):Value:=.slice x.1 x.2.1 x.2.2
def kC (base:Nat) (w:World) (v:Value) (a b:DF) (op:Nat):Prop:=∃ a0 a1 a2 b0 b1 b2 c o t,v=.agg #[NQ a0,a1,a2,NQ b0,b1,b2,c,o,t,.func (.func (lR op)) #[] #[]]/\
 mh w a1 a.nx/\mh w a2 a.mr/\mh w b1 b.nx/\mh w b2 b.mr/\w.ownsRow base 59 4 c (partsOf (a.cl++b.cl)).length (aN (partsOf (a.cl++b.cl)))/\
 aZ aS w o (oneOf a (partsOf (a.cl++b.cl)))/\aZ aS w t (oneOf b (partsOf (a.cl++b.cl)))
theorem kC.below {base:Nat} {w w':World} {v:Value} {a b:DF} {op:Nat} (h:kC base w v a b op) (hk:Below w.heap.size w w'):kC base w' v a b op:=by obtain⟨a0,a1,a2,b0,b1,b2,c,o,t,e,h1,h2,h3,h4,h5,h6,h7⟩:=h;exact⟨a0,a1,a2,b0,b1,b2,c,o,t,e,h1.below hk,h2.below hk,h3.below hk,h4.below hk,aq h5 hk,h6.below hk,h7.below hk⟩
theorem RA (base:Nat) (v:Value) (a b:DF) (ra:Rt a) (rb:Rt b) (op:Nat) (p:Nat×Nat) (hp:gu a b p) (k:Nat) (hk:k<(partsOf (a.cl++b.cl)).length) (w:World) (h:kC base w v a b op): Calls Tryz.prog 34 #[v,.agg #[.int .i64 p.1,.int .i64 p.2],.int .i64 k] w fun e w'=>e=.returned (.agg #[.int .i64 (eI a b p k).1,.int .i64 (eI a b p k).2])/\Below w.heap.size w w':=by
 obtain⟨a0,a1,a2,b0,b1,b2,c,o,t,rfl,h1,_,h3,_,_,h6,h7⟩:=h;generalize NQ a0=a0;generalize NQ b0=b0;obtain⟨s1,s2⟩:=p;obtain⟨hs1,hs2⟩:=hp;simp only at hs1 hs2 ⊢;have Gf:=Ch hk;obtain⟨q1,RB⟩:∃ q,q=cls a.cl (lb (partsOf (a.cl++b.cl)) k):=⟨_,rfl⟩;obtain⟨q2,Yj⟩:∃ q,q=cls b.cl (lb (partsOf (a.cl++b.cl)) k):=⟨_,rfl⟩;have ad0:q1<a.cl.length:=by rw[RB];exact ra.part.cU Gf
 have ad1:q2<b.cl.length:=by rw[Yj];exact rb.part.cU Gf
 obtain⟨r1,hr1⟩:∃ r,r=eJ a s1 q1:=⟨_,rfl⟩;obtain⟨r2,hr2⟩:∃ r,r=eJ b s2 q2:=⟨_,rfl⟩;have e1:(eI a b (s1,s2) k).1=r1:=by rw[hr1,RB];rfl
 have e2:(eI a b (s1,s2) k).2=r2:=by rw[hr2,Yj];rfl
 rw[e1,e2];have ho:=qQ a hk;have ht:=qQ b hk;rw[<-RB]at ho;rw[<-Yj]at ht;have hol:=kh a (partsOf (a.cl++b.cl));have Nq:=kh b (partsOf (a.cl++b.cl));generalize partsOf (a.cl++b.cl)=pj at*;obtain⟨l1,qK⟩:∃ l,a.nx[s1]? =some l:=⟨_,List.getElem?_eq_getElem hs1⟩;obtain⟨l2,hl2⟩:∃ l,b.nx[s2]? =some l:=⟨_,List.getElem?_eq_getElem hs2⟩;obtain⟨x1,n1,rfl⟩:=h1.form;obtain⟨x3,n3,rfl⟩:=h3.form;obtain⟨x6,n6,rfl⟩:=h6.form;obtain⟨x7,n7,rfl⟩:=h7.form;rw[hol]at h6 ⊢;rw[Nq]at h7 ⊢;obtain⟨g6,o6,rfl,hg6,y6⟩:=h6.elem ho;obtain⟨g7,o7,rfl,hg7,y7⟩:=h7.elem ht;replace y6:w.cell? ⟨g6,o6+k,none⟩=some (.int .i64 q1):=y6;replace y7:w.cell? ⟨g7,o7+k,none⟩=some (.int .i64 q2):=y7;obtain⟨g1,o1,c1,d1,rfl,hg1,y1,z1⟩:=h1.elem qK;obtain⟨g2,o2,c2,d2,rfl,hg2,y2,z2⟩:=h3.elem hl2;have ajf:l1.length=a.cl.length:=by have:=ra.len s1 hs1;rwa[getD_some qK]at this
 have ajg:l2.length=b.cl.length:=by have:=rb.len s2 hs2;rwa[getD_some hl2]at this
 have ad3:l1[q1]? =some (r1:Int):=by have:=ra.pN hs1 ad0;rwa[getD_some qK, <-hr1]at this
 have ad4:l2[q2]? =some (r2:Int):=by have:=rb.pN hs2 ad1;rwa[getD_some hl2, <-hr2]at this
 obtain⟨g8,o8,rfl,hg8,y8⟩:=z1.elem ad3;obtain⟨g9,o9,rfl,hg9,y9⟩:=z2.elem ad4;replace y8:w.cell? ⟨g8,o8+q1,none⟩=some (.int .i64 r1):=y8;replace y9:w.cell? ⟨g9,o9+q2,none⟩=some (.int .i64 r2):=y9;have m1:(s1:Int)<(a.nx.length:Nat):=by omega
 have m2:(s2:Int)<(b.nx.length:Nat):=by omega
 have m3:(k:Int)<(pj.length:Nat):=by omega
 have m4:(q1:Int)<(l1.length:Nat):=by omega
 have m5:(q2:Int)<(l2.length:Nat):=by omega
 have m4':q1<l1.length:=by omega
 have m5':q2<l2.length:=by omega
 clear h1 h3 h6 h7 z1 z2 ad3 ad4 ajf ajg qK hl2 ho ht hol Nq RB Yj hr1 hr2 e1 e2 Gf ad0 ad1 ra rb;generalize a.nx.length=na at*;generalize b.nx.length=nb at*;generalize l1.length=j1 at*;generalize l2.length=j2 at*;generalize pj.length=np at*;go_enter Tryz.func34,Tryz.ntmps34;go_wp2;refine aw ?_;intro V hV;have B1:Hid (ah V w.heap.size #[a0,.slice (some ⟨g1,o1,none⟩) na n1,a2,b0,.slice (some ⟨g2,o2,none⟩) nb n3,b2,c,.slice (some ⟨g6,o6,none⟩) np n6,.slice (some ⟨g7,o7,none⟩) np n7,.func (.func (lR op)) #[] #[]] 76):=by rw[hV];exact((ah.new w _ _).alloc _).alloc _
 have B2:Hid (ah V (w.heap.size+1) #[.int .i64 s1,.int .i64 s2] 79):=by rw[hV];exact((ah.new (w.alloc _) _ _).at (by simp)).alloc _
 have B3:Hid (ah V (w.heap.size+1+1) #[.int .i64 0,.int .i64 0] 79):=by rw[hV];exact(ah.new ((w.alloc _).alloc _) _ _).at (by simp)
 have X1:Hid (Ext w V):=by rw[hV];exact(((Ext.refl w).alloc _).alloc _).alloc _
 clear hV;have hsz:=X1.out.size;refine aD false (fun _=>False) (by kernel_rfl) 28 [0,1,3,0,8,31,63,0,128,0,896,1920,4095,8191,0,16384,49152,0,131072,507904,1032192,0,2097152,0,14680064,31457280,67092480,134201344,268435455,536870911] (fun i=>i==29) (by kernel_rfl) (fun i=>aH.any _) ?_;intro C hC hne;have HC:=hid hC;have f1:=ak hC (p:=⟨w.heap.size,1,none⟩) (by have:=B1.out.lt;exact this) (fun h=>h) (B1.out.cell 1);have f2:=ak hC (p:=⟨w.heap.size,4,none⟩) (by have:=B1.out.lt;exact this) (fun h=>h) (B1.out.cell 4);have f3:=ak hC (p:=⟨w.heap.size,7,none⟩) (by have:=B1.out.lt;exact this) (fun h=>h) (B1.out.cell 7);have f4:=ak hC (p:=⟨w.heap.size,8,none⟩) (by have:=B1.out.lt;exact this) (fun h=>h) (B1.out.cell 8);have f5:=ak hC (p:=⟨w.heap.size+1,0,none⟩) (by have:=B2.out.lt;exact this) (fun h=>h) (B2.out.cell 0);have f6:=ak hC (p:=⟨w.heap.size+1,1,none⟩) (by have:=B2.out.lt;exact this) (fun h=>h) (B2.out.cell 1);have t1:=ak hC (p:=⟨g1,o1+s1,none⟩) (Nat.lt_of_lt_of_le hg1 hsz) (fun h=>h) ((X1.out.cell (p:=⟨g1,o1+s1,none⟩) hg1).trans y1);have t2:=ak hC (p:=⟨g2,o2+s2,none⟩) (Nat.lt_of_lt_of_le hg2 hsz) (fun h=>h) ((X1.out.cell (p:=⟨g2,o2+s2,none⟩) hg2).trans y2);have t6:=ak hC (p:=⟨g6,o6+k,none⟩) (Nat.lt_of_lt_of_le hg6 hsz) (fun h=>h) ((X1.out.cell (p:=⟨g6,o6+k,none⟩) hg6).trans y6);have t7:=ak hC (p:=⟨g7,o7+k,none⟩) (Nat.lt_of_lt_of_le hg7 hsz) (fun h=>h) ((X1.out.cell (p:=⟨g7,o7+k,none⟩) hg7).trans y7);have t8:=ak hC (p:=⟨g8,o8+q1,none⟩) (Nat.lt_of_lt_of_le hg8 hsz) (fun h=>h) ((X1.out.cell (p:=⟨g8,o8+q1,none⟩) hg8).trans y8);have t9:=ak hC (p:=⟨g9,o9+q2,none⟩) (Nat.lt_of_lt_of_le hg9 hsz) (fun h=>h) ((X1.out.cell (p:=⟨g9,o9+q2,none⟩) hg9).trans y9);clear hC y1 y2 y6 y7 y8 y9
 repeat (refine ae (fun K hK=>?_);first | (refine aR rfl ?_;try go_simp;refine hK _ _ ?_;clear hK K) | (refine aO rfl rfl ?_;unfold ai;go_simp;refine hK _ _ ?_;clear hK K))
 refine bh (fun W hW hH=>?_);have hM:=(HC.out W).1 hW;have C3:=hid (B3.out.below hM.below B3.out.lt);have XX:=hid (X1.out.below.trans (hM.below.mono X1.out.size));clear hM hW hH HC X1 f1 f2 f3 f4 f5 f6 t1 t2 t6 t7 t8 t9 B1 B2 B3;have k0:W.cell? ⟨w.heap.size+1+1,0,none⟩=some (.int .i64 0):=C3.out.cell 0;have k1:W.cell? ⟨w.heap.size+1+1,1,none⟩=some (.int .i64 0):=C3.out.cell 1;have z0:=C3.out.frozen 0;have z1:=C3.out.frozen 1;go_wp2;obtain⟨W9,dK⟩:∃ W9,W9=((W.setCell ⟨w.heap.size+1+1,0,none⟩ (.int .i64 r1)).setCell ⟨w.heap.size+1+1,1,none⟩ (.int .i64 r2)):=⟨_,rfl⟩;have E:Hid (ah W9 (w.heap.size+1+1) #[.int .i64 r1,.int .i64 r2] 79):=by rw[dK];exact(C3.out.set 0 _).set 1 _
 have X9:Hid (Below w.heap.size w W9):=by rw[dK];exact(XX.out.setCell (by simp;omega) _).setCell (by simp;omega) _
 rw[<-dK];clear dK k0 k1 z0 z1;have p0:W9.cell? ⟨w.heap.size+1+1,0,none⟩=some (.int .i64 r1):=E.out.cell 0;have p1:W9.cell? ⟨w.heap.size+1+1,1,none⟩=some (.int .i64 r2):=E.out.cell 1;refine bodyPost_ret (v:=.agg #[.int .i64 r1,.int .i64 r2]) (by simp[results,Tryz.results34,go_sem,p0,p1]) rfl ⟨rfl,X9.out⟩
theorem AU (base:Nat) (v:Value) (a b:DF) (ra:Rt a) (rb:Rt b) (op:Nat) (h1p:1<=op) (h4p:op<=4) (p:Nat×Nat) (hp:gu a b p) (sa:Sm a) (sb:Sm b) (w:World) (h:kC base w v a b op): Calls Tryz.prog 35 #[v,.agg #[.int .i64 p.1,.int .i64 p.2]] w fun e w'=>∃ u,e=.returned u/\w'.ownsRow w.heap.size 3 1 u (bX a b op p).length ((bX a b op p).map aS)/\Below w.heap.size w w':=by
 obtain⟨a0,a1,a2,b0,b1,b2,c,o,t,rfl,_,h2,_,h4,_,_,_⟩:=h;generalize NQ a0=a0;generalize NQ b0=b0;obtain⟨s1,s2⟩:=p;obtain⟨hs1,hs2⟩:=hp;simp only at hs1 hs2 ⊢;rw[<-ra.mr]at hs1;rw[<-rb.mr]at hs2;obtain⟨l1,qK⟩:∃ l,a.mr[s1]? =some l:=⟨_,List.getElem?_eq_getElem hs1⟩;obtain⟨l2,hl2⟩:∃ l,b.mr[s2]? =some l:=⟨_,List.getElem?_eq_getElem hs2⟩;obtain⟨x1,n1,rfl⟩:=h2.form;obtain⟨x3,n3,rfl⟩:=h4.form;obtain⟨g1,o1,c1,d1,rfl,hg1,y1,z1⟩:=h2.elem qK;obtain⟨g2,o2,c2,d2,rfl,hg2,y2,z2⟩:=h4.elem hl2;have ll1:=sa.mks l1 (List.mem_of_getElem? qK);have ll2:=sb.mks l2 (List.mem_of_getElem? hl2);have m1:(s1:Int)<(a.mr.length:Nat):=by omega
 have m2:(s2:Int)<(b.mr.length:Nat):=by omega
 obtain⟨b1x,aaB⟩:∃ x,x=acc a s1:=⟨_,rfl⟩;obtain⟨b2x,aaC⟩:∃ x,x=acc b s2:=⟨_,rfl⟩;obtain⟨r,hr⟩:∃ r,r=cr op b1x b2x:=⟨_,rfl⟩;have oA:bX a b op (s1,s2)=if r then [0]else []:=by rw[hr,aaB,aaC];rfl
 have CS:Hid (∀ W,Calls Tryz.prog (lR op) #[.bool b1x,.bool b2x] W fun e w'=>e=.returned (.bool r)/\w'=W):=fun W=>by rw[hr];exact NP op h1p h4p b1x b2x W
 have Ew:∀ (d:DF) (s:Nat) (l:List Int),d.mr[s]? =some l->acc d s=decide (0<l.length):=fun d s l h=>by
  unfold acc;rw[getD_some h];cases l<;>simp
 have u1:=Ew a s1 l1 qK;have u2:=Ew b s2 l2 hl2;rw[<-aaB]at u1;rw[<-aaC]at u2;have eg:=Wj op h1p h4p;obtain⟨j1,hj1⟩:∃ j,j=l1.length:=⟨_,rfl⟩;obtain⟨j2,eE⟩:∃ j,j=l2.length:=⟨_,rfl⟩;rw[<-hj1]at y1 u1 ll1;rw[<-eE]at y2 u2 ll2;have v1:decide ((0:Int)<j1)=b1x:=by rw[u1];rw[Bool.eq_iff_iff];simp
 have v2:decide ((0:Int)<j2)=b2x:=by rw[u2];rw[Bool.eq_iff_iff];simp
 have v1':decide (0<j1)=b1x:=u1.symm;have v2':decide (0<j2)=b2x:=u2.symm;rw[oA];generalize a.mr.length=na at*;generalize b.mr.length=nb at*;generalize lR op=gf at*;clear h2 h4 z1 z2 qK hl2 hj1 eE u1 u2 aaB aaC hr oA Ew ra rb sa sb h1p h4p;go_enter Tryz.func35,Tryz.ntmps35;go_wp2;refine aw ?_;intro V hV;have B1:Hid (ah V w.heap.size #[a0,a1,.slice (some ⟨g1,o1,none⟩) na n1,b0,b1,.slice (some ⟨g2,o2,none⟩) nb n3,c,o,t,.func (.func gf) #[] #[]] 76):=by rw[hV];exact(ah.new w _ _).alloc _
 have B2:Hid (ah V (w.heap.size+1) #[.int .i64 s1,.int .i64 s2] 79):=by rw[hV];exact(ah.new (w.alloc _) _ _).at (by simp)
 have X1:Hid (Ext w V):=by rw[hV];exact((Ext.refl w).alloc _).alloc _
 clear hV;have hsz:=X1.out.size;refine aD false (fun _=>False) (by kernel_rfl) 21 [0,1,0,4,12,0,32,124,252,508,1020,0,2048,6144,0,16384,63488,129024,260096,522240,1048575] (fun i=>i==20) (by kernel_rfl) (fun i=>aH.gU _ (.bool r)) ?_;intro C hC hne;have HC:=hid hC;have f1:=ak hC (p:=⟨w.heap.size,9,none⟩) (by have:=B1.out.lt;exact this) (fun h=>h) (B1.out.cell 9);have f2:=ak hC (p:=⟨w.heap.size,2,none⟩) (by have:=B1.out.lt;exact this) (fun h=>h) (B1.out.cell 2);have f3:=ak hC (p:=⟨w.heap.size,5,none⟩) (by have:=B1.out.lt;exact this) (fun h=>h) (B1.out.cell 5);have f5:=ak hC (p:=⟨w.heap.size+1,0,none⟩) (by have:=B2.out.lt;exact this) (fun h=>h) (B2.out.cell 0);have f6:=ak hC (p:=⟨w.heap.size+1,1,none⟩) (by have:=B2.out.lt;exact this) (fun h=>h) (B2.out.cell 1);have t1:=ak hC (p:=⟨g1,o1+s1,none⟩) (Nat.lt_of_lt_of_le hg1 hsz) (fun h=>h) ((X1.out.cell (p:=⟨g1,o1+s1,none⟩) hg1).trans y1);have t2:=ak hC (p:=⟨g2,o2+s2,none⟩) (Nat.lt_of_lt_of_le hg2 hsz) (fun h=>h) ((X1.out.cell (p:=⟨g2,o2+s2,none⟩) hg2).trans y2);clear hC y1 y2
 repeat (refine ae (fun K hK=>?_);first | (refine aR rfl ?_;try go_simp;refine hK _ _ ?_;clear hK K) | (refine aO rfl rfl ?_;unfold ai;go_simp;refine hK _ _ ?_;clear hK K))
 refine ae (fun K hK=>?_);refine bg rfl rfl (aH.gU _ (.bool r)) rfl (fun W hW hN=>?_) (fun v hv=>?_)
 ·have hM:=(HC.out W).1 hW
  clear hW;go_simp;refine aB ((CS.out _).mono ?_);rintro e w2 ⟨rfl,hx⟩;exact⟨_,rfl,(by rw[hx];exact Move.ag (Below.refl _ _)),rfl,trivial⟩
 replace hv:v=_:=hv;subst hv;go_simp;refine hK _ _ ?_;clear hK K;refine bh (fun W hW hH=>?_);have hM:=(HC.out W).1 hW;have XX:=hid (X1.out.below.trans (hM.below.mono X1.out.size));clear hM hW hH HC X1 f1 f2 f3 f5 f6 t1 t2 B1 B2;cases r with
 | true=>
  go_wp2;go_ret;refine⟨_,rfl,?_,XX.out.alloc XX.out.size _⟩;exact World.ownsRow_lit W #[.int .i64 0] 1 (base:=w.heap.size) (size:=1) (e:=3) XX.out.size (by unfold maxLen;omega) rfl
 | false=>
  go_wp2;go_ret;exact⟨_,rfl,World.ownsRow_nil _ _ _ _,XX.out⟩
end Go.Proofs.YtalombmiochpmaaGreatDoor
