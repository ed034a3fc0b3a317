/- product.Of. -/
import Derived.Test.YtpcmhjbehdgdbaaGreatDoorOI03
import Derived.Laws.EntriesVeiled
set_option maxRecDepth 100000
set_option maxHeartbeats 16000000
open Go.Lib (hid)
namespace Go.Proofs.YtpcmhjbehdgdbaaGreatDoor
section
open Go Go.RowKit Go.Shelf Go.Maps
theorem nN {d:DF} {s:Nat} (hs:s<d.nx.length) (h:d.oq s=false):d.right=false:=by
 unfold DF.right;have:(List.range d.nx.length).all d.oq=false:=by
  rw[List.all_eq_false];exact⟨s,by simpa using hs,by rw[h];decide⟩
 rw[this,Bool.and_false]
theorem JY {d:DF} (h1:1<=d.nx.length) (h2:d.nx.length<=4000) (h3:d.mr.length=d.nx.length) (h4:(partsOf d.cl==d.cl)=true) (h:∀ s,s<d.nx.length->d.oq s=true):d.right=true:=by
 unfold DF.right;have:(List.range d.nx.length).all d.oq=true:=by
  rw[List.all_eq_true];intro s hs;exact h s (by simpa using hs)
 rw[this,decide_eq_true h1,decide_eq_true h2,decide_eq_true h3,h4];rfl
theorem qH {d:DF} (h:d.nx.length<1\/4000<d.nx.length\/d.mr.length≠d.nx.length\/(partsOf d.cl==d.cl)=false):d.right=false:=by
 unfold DF.right;rcases h with h | h | h | h
 ·rw[show decide (1<=d.nx.length)=false from decide_eq_false (by omega)];simp
 ·rw[show decide (d.nx.length<=4000)=false from decide_eq_false (by omega)];simp
 ·rw[show decide (d.mr.length=d.nx.length)=false from decide_eq_false h];simp
 ·rw[h];simp
theorem Ss {d:DF} {s:Nat} (h:(d.nx.getD s []).length≠d.cl.length):d.oq s=false:=by unfold DF.oq;rw[show decide ((d.nx.getD s []).length=d.cl.length)=false from decide_eq_false h];simp
theorem Su {d:DF} {s:Nat} (h:(d.nx.getD s []).any (fun x=> !Rk d.nx.length x)=true):d.oq s=false:=by
 unfold DF.oq;have:(d.nx.getD s []).all (Rk d.nx.length)=false:=by
  rw[List.all_eq_false];obtain⟨x,hx,hn⟩:=List.any_eq_true.1 h;exact⟨x,hx,by simpa using hn⟩
 rw[this];simp
theorem IJ {d:DF} {s:Nat} (h:mS (d.mr.getD s [])=false):d.oq s=false:=by unfold DF.oq;rw[h,Bool.and_false]
theorem Sv {d:DF} {s:Nat} (h1:(d.nx.getD s []).length=d.cl.length) (h2:(d.nx.getD s []).any (fun x=> !Rk d.nx.length x)=false) (h3:mS (d.mr.getD s [])=true):d.oq s=true:=by
 unfold DF.oq;have:(d.nx.getD s []).all (Rk d.nx.length)=true:=by
  rw[List.all_eq_true];intro x hx;have:=List.any_eq_false.1 h2 x hx;simpa using this
 rw[this,h3,decide_eq_true h1];rfl
theorem NZ {l:List Int} {k:Nat} (hk:k<l.length) (h:sW l k=false):mS l=false:=by unfold mS;rw[List.all_eq_false];exact⟨k,by simpa using hk,by rw[h];decide⟩
theorem Sw {l:List Int} (h:∀ k,k<l.length->sW l k=true):mS l=true:=by unfold mS;rw[List.all_eq_true];intro k hk;exact h k (by simpa using hk)
theorem N8 {l:List Int} {k:Nat} {x:Int} (hx:l[k]? =some x):sW l k=(decide (mR l k<x)&&decide (x<=255)):=by unfold sW;rw[getD_some hx]
theorem Dm {l:List Int} {k:Nat} {x:Int} (hx:l[k]? =some x):mR l (k+1)=x:=by unfold mR;rw[if_neg (by omega),Nat.add_sub_cancel,getD_some hx]
def aR.row (base:Nat) (e:TypeId) (size n:Nat) (xs:List Value):aR (Move false (fun _=>False)) where
 P:=fun v=>∃ a c,v=.slice a n c
 H:=fun v W=>W.ownsRow base e size v n xs
 mo:=.slice none n 0
 pw:=⟨none,0,rfl⟩
 st:=fun _ _ _ hm _ h=>ay h hm.below
theorem Gk (v:Value) (d:DF) (w:World) (h:Uw w v d) (sm:Sm d): ag 48 #[v] w fun e w'=>e=.returned (.bool d.right)/\aa w w':=by
 obtain⟨v0,v1,v2,rfl,h0,h1,h2⟩:=h;obtain⟨a0,c0,rfl⟩:=h0.1.form;obtain⟨a1,c1,rfl⟩:=h1.form;obtain⟨a2,c2,rfl⟩:=h2.form;obtain⟨n0,eZ⟩:=ah d.cl.length;obtain⟨n1,pW⟩:=ah d.nx.length;obtain⟨n2,sX⟩:=ah d.mr.length;obtain⟨r,hr⟩:=ah d.right;obtain⟨q,hq⟩:=ah ((partsOf d.cl==d.cl));have l0:=sm.cl;have l1:=sm.nx;have l2:=sm.mr;rw[<-eZ]at h0 l0 ⊢;rw[<-pW]at h1 l1 ⊢;rw[<-sX]at h2 l2 ⊢;rw[<-hr];have yE:=hid eZ;have xO:=hid pW;have tS:=hid sX;have HR:=hid hr;have HQ:=hid hq;have H0:=hid h0;have H1:=hid h1;have H2:=hid h2;have SM:=hid sm;obtain⟨pl,hpl⟩:=ah (partsOf d.cl);have CP:Hid (∀ W,dn W (.slice a0 n0 c0) d.cl->ag 76 #[.slice a0 n0 c0] W fun e w'=>∃ v,e=.returned v/\w'.ownsRow W.heap.size 37 4 v pl.length (aN pl)/\aa W w'):=fun W h=>by rw[hpl];exact yx d.cl _ W h (by have:=SM.cl;omega)
 have CE:Hid (∀ W u,dn W u pl->dn W (.slice a0 n0 c0) d.cl->ag 75 #[u,.slice a0 n0 c0] W fun e w'=>e=.returned (.bool q)/\Ext W w'):=fun W u h k=>by
  rw[hq];rw[hpl]at h;exact Gj _ _ _ _ W h k (by rw[(eA d.cl).length_eq];have:=dK d.cl;omega)
 clear h0 h1 h2 eZ pW sX hr hq sm hpl;go_enter Tryz.func48,Tryz.ntmps48;go_wp2;refine ax ?_;intro V hV;have hB1:aq V w.heap.size #[.slice a0 n0 c0,.slice a1 n1 c1,.slice a2 n2 c2] 73:=by rw[hV];exact(aq.new w _ _).alloc _
 have IK:aq V (w.heap.size+1) #[.int .i64 n1] 3:=by rw[hV];exact(aq.new (w.alloc _) _ _).at (by simp)
 have hx:aa w V:=by rw[hV];exact(((Ext.refl w).alloc _).alloc _).below
 have pV:=hid hB1;have fJ:=hid IK;have HX:=hid hx;clear hV hB1 IK hx;by_cases q1:n1<1
 ·have d1:decide ((n1:Int)<1)=true:=decide_eq_true (by omega)
  have d1':decide (n1<1)=true:=decide_eq_true q1;refine aM false (fun _=>False) (by kernel_rfl) 22 [0,1,3,7,15,31,63,127,255,511,127,2047,4095,8191,16383,32767,65535,16383,147455,524287,1048575,2097151] (fun i=>i==16 || i==19) (by kernel_rfl) (fun i=>if i=16 then aR.row w.heap.size 37 4 pl.length (aN pl)else if i=19 then aR.oB _ (.bool q)else aR.any _) ?_;intro C hC hne;have HC:=hid hC;have f0:=aF hC (p:=⟨w.heap.size,0,none⟩) (by have:=pV.lt;exact this) (fun h=>h) (pV.cell 0);have f2:=aF hC (p:=⟨w.heap.size,2,none⟩) (by have:=pV.lt;exact this) (fun h=>h) (pV.cell 2);have f3:=aF hC (p:=⟨w.heap.size+1,0,none⟩) (by have:=fJ.lt;exact this) (fun h=>h) (fJ.cell 0);clear hC
  repeat (refine ak (fun K hK=>?_);first | (refine cQ rfl ?_;try go_simp;refine hK _ _ ?_;clear hK K) | (refine bV rfl rfl ?_;unfold aB;go_simp;refine hK _ _ ?_;clear hK K))
  refine cg (fun W hW hH=>?_);have hM:=(HC.out W).1 hW;have gN:=hid (HR.trans (qH (.inl (by rw[<-xO.out];exact q1))));clear hW hH f0 f2 f3;go_wp2;go_ret;exact⟨by rw[gN.out];rfl,HX.trans (hM.below.mono HX.size)⟩
 ·have d1:decide ((n1:Int)<1)=false:=decide_eq_false (by omega)
  have d1':decide (n1<1)=false:=decide_eq_false q1;by_cases q2:4000<n1
  ·have d2:decide ((4000:Int)<n1)=true:=decide_eq_true (by omega)
   have d2':decide (4000<n1)=true:=decide_eq_true q2;refine aM false (fun _=>False) (by kernel_rfl) 22 [0,1,3,7,15,31,63,127,255,511,127,2047,4095,8191,16383,32767,65535,16383,147455,524287,1048575,2097151] (fun i=>i==16 || i==19) (by kernel_rfl) (fun i=>if i=16 then aR.row w.heap.size 37 4 pl.length (aN pl)else if i=19 then aR.oB _ (.bool q)else aR.any _) ?_;intro C hC hne;have HC:=hid hC;have f0:=aF hC (p:=⟨w.heap.size,0,none⟩) (by have:=pV.lt;exact this) (fun h=>h) (pV.cell 0);have f2:=aF hC (p:=⟨w.heap.size,2,none⟩) (by have:=pV.lt;exact this) (fun h=>h) (pV.cell 2);have f3:=aF hC (p:=⟨w.heap.size+1,0,none⟩) (by have:=fJ.lt;exact this) (fun h=>h) (fJ.cell 0);clear hC
   repeat (refine ak (fun K hK=>?_);first | (refine cQ rfl ?_;try go_simp;refine hK _ _ ?_;clear hK K) | (refine bV rfl rfl ?_;unfold aB;go_simp;refine hK _ _ ?_;clear hK K))
   refine cg (fun W hW hH=>?_);have hM:=(HC.out W).1 hW;have gN:=hid (HR.trans (qH (.inr (.inl (by rw[<-xO.out];exact q2)))));clear hW hH f0 f2 f3;go_wp2;go_ret;exact⟨by rw[gN.out];rfl,HX.trans (hM.below.mono HX.size)⟩
  ·have d2:decide ((4000:Int)<n1)=false:=decide_eq_false (by omega)
   have d2':decide (4000<n1)=false:=decide_eq_false q2;by_cases q3:n2=n1
   ·obtain rfl:n1=n2:=q3.symm
    clear q3;refine aM false (fun _=>False) (by kernel_rfl) 22 [0,1,3,7,15,31,63,127,255,511,127,2047,4095,8191,16383,32767,65535,16383,147455,524287,1048575,2097151] (fun i=>i==16 || i==19) (by kernel_rfl) (fun i=>if i=16 then aR.row w.heap.size 37 4 pl.length (aN pl)else if i=19 then aR.oB _ (.bool q)else aR.any _) ?_;intro C hC hne;have HC:=hid hC;have f0:=aF hC (p:=⟨w.heap.size,0,none⟩) (by have:=pV.lt;exact this) (fun h=>h) (pV.cell 0);have f2:=aF hC (p:=⟨w.heap.size,2,none⟩) (by have:=pV.lt;exact this) (fun h=>h) (pV.cell 2);have f3:=aF hC (p:=⟨w.heap.size+1,0,none⟩) (by have:=fJ.lt;exact this) (fun h=>h) (fJ.cell 0);clear hC
    repeat (refine ak (fun K hK=>?_);first | (refine cQ rfl ?_;try go_simp;refine hK _ _ ?_;clear hK K) | (refine bV rfl rfl ?_;unfold aB;go_simp;refine hK _ _ ?_;clear hK K))
    refine ak (fun K hK=>?_);refine bS rfl rfl (aR.row w.heap.size 37 4 pl.length (aN pl)) rfl (fun W hW hN=>?_) (fun v hv=>?_)
    ·have hM:=(HC.out W).1 hW
     clear hW;go_simp;refine bu ((CP _ ((H0.1.below HX).below hM.below)).mono ?_);rintro e w2 ⟨vp,rfl,ho,hx⟩;exact⟨_,rfl,Move.ai hx,ownsRow_form ho,aG ho (Nat.le_trans HX.size hM.size)⟩
    obtain⟨ap,cp,rfl⟩:=hv;go_simp;refine hK _ _ ?_;clear hK K
    repeat (refine ak (fun K hK=>?_);first | (refine cQ rfl ?_;try go_simp;refine hK _ _ ?_;clear hK K) | (refine bV rfl rfl ?_;unfold aB;go_simp;refine hK _ _ ?_;clear hK K))
    refine ak (fun K hK=>?_);refine bS rfl rfl (aR.oB _ (.bool q)) rfl (fun W hW hN=>?_) (fun v hv=>?_)
    ·have hM:=(HC.out W).1 hW
     clear hW;go_simp;refine bu ((CE _ _ (iV (hN.at 0 rfl (by kernel_rfl))) ((H0.1.below HX).below hM.below)).mono ?_);rintro e w2 ⟨rfl,hx⟩;exact⟨_,rfl,Move.Vw hx,rfl,trivial⟩
    replace hv:v=_:=hv;subst hv;go_simp;refine hK _ _ ?_;clear hK K
    repeat (refine ak (fun K hK=>?_);first | (refine cQ rfl ?_;try go_simp;refine hK _ _ ?_;clear hK K) | (refine bV rfl rfl ?_;unfold aB;go_simp;refine hK _ _ ?_;clear hK K))
    refine cg (fun W hW hH=>?_);have hM:=(HC.out W).1 hW;have XB1:=hid (pV.below hM.below pV.lt);have XB2:=hid (fJ.below hM.below fJ.lt);have XX:=hid (HX.trans (hM.below.mono HX.size));clear hM hW hH f0 f2 f3 HC pV fJ HX CP CE d1 d1' d2 d2';cases q with
    | false=>
     have gN:=hid (HR.trans (qH (.inr (.inr (.inr HQ.symm)))));go_wp2;go_ret;exact⟨by rw[gN.out];rfl,XX⟩
    | true=>
     have b0:=XB1.cell 0;have b1:=XB1.cell 1;have b2:=XB1.cell 2;have b3:=XB2.cell 0;simp only[List.getElem?_toArray,List.getElem?_cons_zero,List.getElem?_cons_succ]at b0 b1 b2 b3;have H1':=hid (H1.below XX);have H2':=hid (H2.below XX);clear H1 H2 H0;go_wp2
     go_loop [37] (fun i=>∃ s:Nat,s<=n1/\i=.int .i64 s/\∀ j,j<s->d.oq j=true) (fun i=>n1-(intOf i).toNat)
     case atStart=>exact⟨0,by omega,rfl,fun j hj=>by omega⟩
     case round=>
      obtain⟨s,hs,rfl,ha⟩:=hrel;have HA:=hid ha;clear ha;by_cases hlt:s<n1
      ·obtain⟨l,hl⟩:∃ l,d.nx[s]? =some l:=⟨_,aC (by have:=xO.out;omega)⟩
       obtain⟨m,hm⟩:∃ m,d.mr[s]? =some m:=⟨_,aC (by have:=tS.out;omega)⟩;obtain⟨g1,o1,e1,k1,rfl,hg1,x1,y1⟩:=H1'.elem hl;obtain⟨g2,o2,e2,k2,rfl,hg2,x2,y2⟩:=H2'.elem hm;have gl:=getD_some (d:=([]:List Int)) hl;have gm:=getD_some (d:=([]:List Int)) hm;have ll:=SM.Ca l (aA hl);have lm:=SM.mks m (aA hm);have hs1:s<d.nx.length:=by have:=xO.out;omega
       have Hs1:=hid hs1;have eT:(s:Int)<n1:=by omega
       obtain⟨j,hj⟩:=ah l.length;obtain⟨k,hk⟩:=ah m.length;rw[<-hj]at x1 y1 ll;rw[<-hk]at x2 y2 lm;have HJ:=hid hj;have HK:=hid hk;have GL:=hid gl;have GM:=hid gm;have Y1:=hid y1;have Y2:=hid y2;clear hl hm hj hk gl gm y1 y2 hs1;by_cases Sx:j=n0
       ·subst Sx
        obtain⟨z,hz⟩:=ah (l.any (fun x=> !Rk n1 x))
        have CC:Hid (ag 77 #[.slice e1 j k1,.func (.func 78) #[] #[.pointer (some ⟨w.heap.size+1,0,none⟩)]] W fun e w'=>e=.returned (.bool z)/\w'=W):=hid (by
         rw[hz]
         exact qG _ _ (fun x=> !Rk n1 x) _ l W Y1 (by rw[<-HJ.out];exact ll) JX (fun x W' NQ=>Gh x n1 _ W' ((XB2.below NQ XB2.lt).cell 0)))
        have HZ:=hid hz;clear hz;cases z with
        | true=>
         have gN:=hid (HR.trans (nN Hs1 (Su (by rw[GL.out, <-xO.out];exact HZ.symm))));go_wp2_with fail
         refine(CC).mono ?_;rintro e w' ⟨rfl,hw⟩;replace hw:=hw.symm;subst hw;go_wp2;go_ret;exact⟨by rw[gN.out];rfl,XX⟩
        | false=>
         go_wp2_with fail
         refine(CC).mono ?_;rintro e w' ⟨rfl,hw⟩;replace hw:=hw.symm;subst hw;go_wp2
         go_loop [59,6] (fun i p=>∃ c:Nat,c<=k/\i=.int .i64 c/\p=.int .i64 (mR m c)/\∀ i,i<c->sW m i=true) (fun i _=>k-(intOf i).toNat)
         case atStart=>exact⟨0,by omega,rfl,rfl,fun i hi=>by omega⟩
         case round=>
          obtain⟨c,hc,rfl,rfl,hc2⟩:=hrel;have yF:=hid hc2;clear hc2;by_cases Mw:c<k
          ·obtain⟨x,hx⟩:∃ x,m[c]? =some x:=⟨_,aC (by have:=HK.out;omega)⟩
           obtain⟨g3,o3,rfl,hg3,x3⟩:=Y2.elem hx;have x3':W.cell? ⟨g3,o3+c,none⟩=some (.int .i64 x):=x3;have hci:(c:Int)<k:=by omega
           have Ux:=hid (N8 hx);have HPS:=hid (Dm hx);have HXM:=hid hx;clear hx x3;generalize mR m c=pv at Ux ⊢;by_cases h1:x<=pv
           ·have d1:decide (x<=pv)=true:=decide_eq_true h1
            have gN:=hid (HR.trans (nN Hs1 (IJ (by rw[GM.out];exact NZ (by rw[<-HK.out];exact Mw) (by rw[Ux.out,show decide (pv<x)=false from decide_eq_false (by omega)];rfl)))));go_wp2;go_ret;exact⟨by rw[gN.out];rfl,XX⟩
           ·have d1:decide (x<=pv)=false:=decide_eq_false h1
            by_cases h2:255<x
            ·have d2:decide (255<x)=true:=decide_eq_true h2
             have gN:=hid (HR.trans (nN Hs1 (IJ (by rw[GM.out];exact NZ (by rw[<-HK.out];exact Mw) (by rw[Ux.out,show decide (x<=255)=false from decide_eq_false (by omega),Bool.and_false])))));go_wp2;go_ret;exact⟨by rw[gN.out];rfl,XX⟩
            ·have d2:decide (255<x)=false:=decide_eq_false h2
             go_wp2
             go_round
             case rel=>exact⟨c+1,by omega,by go_num,by rw[HPS.out],fun i hi=>by
              by_cases e:i=c
              ·subst e;rw[Ux.out,decide_eq_true (show pv<x by omega),decide_eq_true (show x<=255 by omega)];rfl
              ·exact yF i (by omega)⟩
             case measure=>simp[intOf];omega
          ·obtain rfl:c=k:=by omega
           go_wp2
           go_round
           case rel=>
            have hrow:∀ j',j'<s+1->d.oq j'=true:=fun j' hj'=>by
             by_cases e:j'=s
             ·rw[e]
              exact Sv (by rw[GL.out, <-HJ.out];exact yE) (by rw[GL.out, <-xO.out];exact HZ.symm) (by rw[GM.out];exact Sw fun i hi=>yF i (by rw[HK.out];exact hi))
             ·exact HA j' (by omega)
            exact⟨_,_,_,_,_,_,⟨s+1,by omega,by go_num,hrow⟩,rfl,rfl,rfl,rfl,rfl,rfl⟩
           case measure=>simp[intOf];omega
       ·have d3:((j:Int)==(n0:Int))=false:=by rw[beq_eq_false_iff_ne];omega
        have d3':((j:Int) != (n0:Int))=true:=by simp;omega
        have ae1:(j==n0)=false:=by rw[beq_eq_false_iff_ne];exact Sx
        have gN:=hid (HR.trans (nN Hs1 (Ss (by rw[GL.out, <-HJ.out, <-yE.out];exact Sx))));go_wp2;go_ret;exact⟨by rw[gN.out];rfl,XX⟩
      ·obtain rfl:s=n1:=by omega
       have gN:=hid (HR.trans (JY (by rw[<-xO.out];omega) (by rw[<-xO.out];omega) (by rw[<-xO.out, <-tS.out]) HQ.symm (fun j hj=>HA j (by rw[xO.out];exact hj))));go_wp2;go_ret;exact⟨by rw[gN.out];rfl,XX⟩
   ·have d3:((n2:Int)==(n1:Int))=false:=by rw[beq_eq_false_iff_ne];omega
    have d3':((n2:Int) != (n1:Int))=true:=by simp;omega
    have ae1:(n2==n1)=false:=by rw[beq_eq_false_iff_ne];exact q3
    refine aM false (fun _=>False) (by kernel_rfl) 22 [0,1,3,7,15,31,63,127,255,511,127,2047,4095,8191,16383,32767,65535,16383,147455,524287,1048575,2097151] (fun i=>i==16 || i==19) (by kernel_rfl) (fun i=>if i=16 then aR.row w.heap.size 37 4 pl.length (aN pl)else if i=19 then aR.oB _ (.bool q)else aR.any _) ?_;intro C hC hne;have HC:=hid hC;have f0:=aF hC (p:=⟨w.heap.size,0,none⟩) (by have:=pV.lt;exact this) (fun h=>h) (pV.cell 0);have f2:=aF hC (p:=⟨w.heap.size,2,none⟩) (by have:=pV.lt;exact this) (fun h=>h) (pV.cell 2);have f3:=aF hC (p:=⟨w.heap.size+1,0,none⟩) (by have:=fJ.lt;exact this) (fun h=>h) (fJ.cell 0);clear hC
    repeat (refine ak (fun K hK=>?_);first | (refine cQ rfl ?_;try go_simp;refine hK _ _ ?_;clear hK K) | (refine bV rfl rfl ?_;unfold aB;go_simp;refine hK _ _ ?_;clear hK K))
    refine cg (fun W hW hH=>?_);have hM:=(HC.out W).1 hW;have gN:=hid (HR.trans (qH (.inr (.inr (.inl (by rw[<-xO.out, <-tS.out];exact q3))))));clear hW hH f0 f2 f3;go_wp2;go_ret;exact⟨by rw[gN.out];rfl,HX.trans (hM.below.mono HX.size)⟩
theorem ji (v:Value) (d:DF) (w:World) (h:iJ w v d) (sm:Sm d): ag 48 #[v] w fun e w'=>e=.returned (.bool d.right)/\aa w w':=Gk v d w h.e sm
theorem aq.three {w:World} {b:Nat} {x y z:Value} {t:TypeId} (h:aq w b #[x,y,z] t):(w.cell? ⟨b,0,none⟩=some x/\w.cell? ⟨b,1,none⟩=some y/\w.cell? ⟨b,2,none⟩=some z)/\w.frozen? ⟨b,0,none⟩=false/\w.frozen? ⟨b,1,none⟩=false/\w.frozen? ⟨b,2,none⟩=false:=
 ⟨⟨h.cell 0,h.cell 1,h.cell 2⟩,h.frozen 0,h.frozen 1,h.frozen 2⟩
theorem aq.vt {w:World} {b:Nat} {x y z x' y' z':Value} {t:TypeId} (h:aq w b #[x,y,z] t):aq (((w.setCell ⟨b,0,none⟩ x').setCell ⟨b,1,none⟩ y').setCell ⟨b,2,none⟩ z') b #[x',y',z'] t:=((h.set 0 x').set 1 y').set 2 z'
theorem eC {w W:World} {n b:Nat} {x y z:Value} (h:Below n w W) (hb:n<=b):Below n w (((W.setCell ⟨b,0,none⟩ x).setCell ⟨b,1,none⟩ y).setCell ⟨b,2,none⟩ z):=
 ((h.setCell (by simpa using hb) _).setCell (by simpa using hb) _).setCell (by simpa using hb) _
theorem sY {P:Program} {Cl:FuncId->Array Value->World->(Ending->World->Prop)->Prop} {Rd:Nat->FuncId->Array Value->Code->Code->World->(Ending->World->Prop)->Prop} {o:Oper} {a:Act} {W:World} {post:Value->World->Prop} (t e:TypeId) (x:Operand) (ho:o.op=.buildSlice t 1 #[(0,x)]) {i:TypeInfo} {z:Value} {m:Nat} (ht:P.underlying t=some (.slice e)) (hi:P.info? e=some i) (hz:i.zero=some z) (hsz:i.size=m) (hm:0<m) (yB:m<=16777216) (cs:Array Value) (hx:a.eval x=.agg cs) (hc:cs.size=m) (h:post (.slice (some ⟨W.heap.size,0,none⟩) 1 1) (W.alloc (.cells cs e))):jo Cl Rd post ((execOp a.eval o).run P W):=by
 unfold execOp;have e1:(#[((0:Nat),x)].map fun p=>(p.1,a.eval p.2))= #[(0,.agg cs)]:=by rw[<-hx];simp
 simp only[ho,Sem.run_bind,e1,pd ht hi hz hsz hm yB cs hc W,Result.andThen_ok,Sem.run_pure];exact h
def aR.IL (base n:Nat) (xs:List Value):aR (Move false (fun _=>False)) where
 P:=fun v=>∃ b,v=.slice (some ⟨b,0,none⟩) 1 1
 H:=fun v W=>∀ b,v=.slice (some ⟨b,0,none⟩) 1 1->∃ u,aq W b #[u] 51/\W.ownsRow base 3 1 u n xs
 mo:=.slice (some ⟨0,0,none⟩) 1 1
 pw:=⟨0,rfl⟩
 st:=fun _ _ _ hm _ h b hb=>by
  obtain⟨u,h1,h2⟩:=h b hb;exact⟨u,h1.below hm.below h1.lt,ay h2 hm.below⟩
theorem aq.Uy {w:World} {b:Nat} {u:Value} {t:TypeId} (h:aq w b #[u] t):∀ j x,[u][j]? =some x->w.cell? ((⟨b,0,none⟩:Addr).add j)=some x:=bQ h
theorem uX.own {w:World} {base n:Nat} {e:TypeId} {v:Value} {xs:List Value} (h:w.ownsRow base e 1 v n xs):uX w v n xs:=by
 rcases h.2 with⟨rfl,rfl⟩ | ⟨g,c,cur,rfl,_⟩
 ·exact .inl ⟨rfl,rfl,by have:=h.1;simpa using this⟩
 ·exact .inr ⟨_,c,rfl,h.cells rfl⟩
theorem JZ (n:Nat):(madeCells (Value.int .i64 0).cells (n*1)).toList=(List.replicate n (0:Int)).map aV:=by
 apply List.ext_getElem?;intro k;simp only[madeCells,Value.cells,Nat.mul_one,Array.toList_map,Array.toList_range,List.map_replicate,bH,List.getElem?_replicate];by_cases h:k<n
 ·rw[List.getElem?_range h,if_pos h];simp[aV,Nat.mod_one]
 ·rw[dD (by simpa using h),if_neg h];rfl
theorem Gl (n:Nat):(madeCells (Value.int .u8 0).cells (n*1)).toList=(List.replicate n (0:Nat)).map eN:=by
 apply List.ext_getElem?;intro k;simp only[madeCells,Value.cells,Nat.mul_one,Array.toList_map,Array.toList_range,List.map_replicate,bH,List.getElem?_replicate];by_cases h:k<n
 ·rw[List.getElem?_range h,if_pos h];simp[eN,Nat.mod_one]
 ·rw[dD (by simpa using h),if_neg h];rfl
theorem j6 {w:World} {base n cap:Nat} {e:TypeId} {ad:Option Addr} {xs:List Value} (h:w.ownsRow base e 1 (.slice ad n cap) n xs) {i:Nat} (hi:i<n):∃ g u,ad=some ⟨g,0,none⟩/\base<=g/\g<w.heap.size/\xs[i]? =some u/\w.cell? ⟨g,i,none⟩=some u/\w.frozen? ⟨g,i,none⟩=false:=by
 have hl:=h.1;have hu:xs[i]? =some (xs[i]'(by omega)):=aC (by omega);obtain⟨a,c,e1⟩:=ownsRow_form h;rcases h.2 with⟨_,e2⟩ | ⟨g,c',cur,e2,_⟩
 ·omega
 ·injection e2 with e2 _ _
  subst e2;have hlt:=h.lt g rfl;exact⟨g,_,rfl,hlt.1,hlt.2,hu,by have:=h.cells (g:=g) rfl _ _ hu;rw[Addr.add_mid]at this;simpa using this,h.frozenAt _⟩
def j7:Nat->Nat
 | 1=>71
 | 2=>72
 | 3=>73
 | _=>74
theorem yG (k:Nat) (h1:1<=k) (h4:k<=4) (w:World):ag 47 #[.int .u8 k] w fun e w'=>e=.returned (.func (.func (j7 k)) #[] #[])/\w'=w:=by
 rcases(show k=1\/k=2\/k=3\/k=4 by omega)with rfl | rfl | rfl | rfl
 all_goals
  go_enter Tryz.func47,Tryz.ntmps47
  go_wp2;go_ret;exact⟨rfl,rfl⟩
theorem J2 (k:Nat) (h:k=0\/4<k) (w:World):ag 47 #[.int .u8 k] w fun e w'=>e=.returned .nilFunc/\w'=w:=by
 have d1:((k:Int)==1)=false:=by rw[beq_eq_false_iff_ne];omega
 have d2:((k:Int)==2)=false:=by rw[beq_eq_false_iff_ne];omega
 have d3:((k:Int)==3)=false:=by rw[beq_eq_false_iff_ne];omega
 have d4:((k:Int)==4)=false:=by rw[beq_eq_false_iff_ne];omega
 clear h;go_enter Tryz.func47,Tryz.ntmps47;go_wp2;go_ret;exact⟨rfl,rfl⟩
theorem J6 (k:Nat) (h1:1<=k) (h4:k<=4) (x y:Bool) (w:World):ag (j7 k) #[.bool x,.bool y] w fun e w'=>e=.returned (.bool (NV k x y))/\w'=w:=by
 rcases(show k=1\/k=2\/k=3\/k=4 by omega)with rfl | rfl | rfl | rfl
 ·show ag 71 _ _ _
  cases x<;>cases y
  all_goals
   go_enter Tryz.func71,Tryz.ntmps71
   go_wp2;go_ret;exact⟨rfl,rfl⟩
 ·show ag 72 _ _ _
  cases x<;>cases y
  all_goals
   go_enter Tryz.func72,Tryz.ntmps72
   go_wp2;go_ret;exact⟨rfl,rfl⟩
 ·show ag 73 _ _ _
  cases x<;>cases y
  all_goals
   go_enter Tryz.func73,Tryz.ntmps73
   go_wp2;go_ret;exact⟨rfl,rfl⟩
 ·show ag 74 _ _ _
  cases x<;>cases y
  all_goals
   go_enter Tryz.func74,Tryz.ntmps74
   go_wp2;go_ret;exact⟨rfl,rfl⟩
theorem N9:∀ args w,(callFunc 71 args).run Tryz.prog w=.ok (.enter 71 args) w:=fun args w=>by kernel_rfl
theorem Oa:∀ args w,(callFunc 72 args).run Tryz.prog w=.ok (.enter 72 args) w:=fun args w=>by kernel_rfl
theorem Ob:∀ args w,(callFunc 73 args).run Tryz.prog w=.ok (.enter 73 args) w:=fun args w=>by kernel_rfl
theorem Oc:∀ args w,(callFunc 74 args).run Tryz.prog w=.ok (.enter 74 args) w:=fun args w=>by kernel_rfl
theorem Sy (k:Nat) (h1:1<=k) (h4:k<=4):∀ args w,(callFunc (j7 k) args).run Tryz.prog w=.ok (.enter (j7 k) args) w:=by
 rcases(show k=1\/k=2\/k=3\/k=4 by omega)with rfl | rfl | rfl | rfl
 ·exact N9
 ·exact Oa
 ·exact Ob
 ·exact Oc
def oneOf (a:DF) (p:List BS):List Int:=(List.range p.length).map fun k=>(cls a.cl (lb p k):Int)
theorem nO (a:DF) {p:List BS} {k:Nat} (hk:k<p.length):(oneOf a p)[k]? =some ((cls a.cl (lb p k):Nat):Int):=by unfold oneOf;rw[bH,List.getElem?_range hk];rfl
theorem jk (a:DF) (p:List BS):(oneOf a p).length=p.length:=by simp[oneOf]
def J7 (x:Option Addr×Nat×Nat):Value:=.slice x.1 x.2.1 x.2.2
def jy (base:Nat) (w:World) (v:Value) (a b:DF) (op:Nat):Prop:=∃ a0 a1 a2 b0 b1 b2 c o t,v=.agg #[J7 a0,a1,a2,J7 b0,b1,b2,c,o,t,.func (.func (j7 op)) #[] #[]]/\
 lC w a1 a.nx/\lC w a2 a.mr/\lC w b1 b.nx/\lC w b2 b.mr/\w.ownsRow base 37 4 c (partsOf (a.cl++b.cl)).length (aN (partsOf (a.cl++b.cl)))/\
 cR aV w o (oneOf a (partsOf (a.cl++b.cl)))/\cR aV w t (oneOf b (partsOf (a.cl++b.cl)))
theorem jy.below {base:Nat} {w w':World} {v:Value} {a b:DF} {op:Nat} (h:jy base w v a b op) (hk:aa w w'):jy base w' v a b op:=by obtain⟨a0,a1,a2,b0,b1,b2,c,o,t,e,h1,h2,h3,h4,h5,h6,h7⟩:=h;exact⟨a0,a1,a2,b0,b1,b2,c,o,t,e,h1.below hk,h2.below hk,h3.below hk,h4.below hk,ay h5 hk,h6.below hk,h7.below hk⟩
theorem Od (base:Nat) (v:Value) (a b:DF) (ra:Rt a) (rb:Rt b) (op:Nat) (p:Nat×Nat) (hp:iH a b p) (k:Nat) (hk:k<(partsOf (a.cl++b.cl)).length) (w:World) (h:jy base w v a b op): ag 50 #[v,.agg #[.int .i64 p.1,.int .i64 p.2],.int .i64 k] w fun e w'=>e=.returned (.agg #[.int .i64 (l6 a b p k).1,.int .i64 (l6 a b p k).2])/\aa w w':=by
 obtain⟨a0,a1,a2,b0,b1,b2,c,o,t,rfl,h1,_,h3,_,_,h6,h7⟩:=h;generalize J7 a0=a0;generalize J7 b0=b0;obtain⟨s1,s2⟩:=p;obtain⟨hs1,hs2⟩:=hp;simp only at hs1 hs2 ⊢;have BJ:=Dj hk;obtain⟨q1,Mx⟩:=ah (cls a.cl (lb (partsOf (a.cl++b.cl)) k));obtain⟨q2,VP⟩:=ah (cls b.cl (lb (partsOf (a.cl++b.cl)) k));have aad:q1<a.cl.length:=by rw[Mx];exact ra.part.kj BJ
 have aae:q2<b.cl.length:=by rw[VP];exact rb.part.kj BJ
 obtain⟨r1,hr1⟩:=ah (jh a s1 q1);obtain⟨r2,hr2⟩:=ah (jh b s2 q2);have e1:(l6 a b (s1,s2) k).1=r1:=by rw[hr1,Mx];rfl
 have e2:(l6 a b (s1,s2) k).2=r2:=by rw[hr2,VP];rfl
 rw[e1,e2];have ho:=nO a hk;have ht:=nO b hk;rw[<-Mx]at ho;rw[<-VP]at ht;have hol:=jk a (partsOf (a.cl++b.cl));have JH:=jk b (partsOf (a.cl++b.cl));generalize partsOf (a.cl++b.cl)=pj at*;obtain⟨l1,pU⟩:∃ l,a.nx[s1]? =some l:=⟨_,aC hs1⟩;obtain⟨l2,hl2⟩:∃ l,b.nx[s2]? =some l:=⟨_,aC hs2⟩;obtain⟨x1,n1,rfl⟩:=h1.form;obtain⟨x3,n3,rfl⟩:=h3.form;obtain⟨x6,n6,rfl⟩:=h6.form;obtain⟨x7,n7,rfl⟩:=h7.form;rw[hol]at h6 ⊢;rw[JH]at h7 ⊢;obtain⟨g6,o6,rfl,hg6,y6⟩:=h6.elem ho;obtain⟨g7,o7,rfl,hg7,y7⟩:=h7.elem ht;replace y6:w.cell? ⟨g6,o6+k,none⟩=some (.int .i64 q1):=y6;replace y7:w.cell? ⟨g7,o7+k,none⟩=some (.int .i64 q2):=y7;obtain⟨g1,o1,c1,d1,rfl,hg1,y1,z1⟩:=h1.elem pU;obtain⟨g2,o2,c2,d2,rfl,hg2,y2,z2⟩:=h3.elem hl2;have ae2:l1.length=a.cl.length:=by have:=ra.len s1 hs1;rwa[getD_some pU]at this
 have ae3:l2.length=b.cl.length:=by have:=rb.len s2 hs2;rwa[getD_some hl2]at this
 have aag:l1[q1]? =some (r1:Int):=by have:=ra.vn hs1 aad;rwa[getD_some pU, <-hr1]at this
 have aah:l2[q2]? =some (r2:Int):=by have:=rb.vn hs2 aae;rwa[getD_some hl2, <-hr2]at this
 obtain⟨g8,o8,rfl,hg8,y8⟩:=z1.elem aag;obtain⟨g9,o9,rfl,VU,y9⟩:=z2.elem aah;replace y8:w.cell? ⟨g8,o8+q1,none⟩=some (.int .i64 r1):=y8;replace y9:w.cell? ⟨g9,o9+q2,none⟩=some (.int .i64 r2):=y9;have m1:(s1:Int)<(a.nx.length:Nat):=by omega
 have m2:(s2:Int)<(b.nx.length:Nat):=by omega
 have m3:(k:Int)<(pj.length:Nat):=by omega
 have m4:(q1:Int)<(l1.length:Nat):=by omega
 have m5:(q2:Int)<(l2.length:Nat):=by omega
 have m4':q1<l1.length:=by omega
 have m5':q2<l2.length:=by omega
 clear h1 h3 h6 h7 z1 z2 aag aah ae2 ae3 pU hl2 ho ht hol JH Mx VP hr1 hr2 e1 e2 BJ aad aae ra rb;generalize a.nx.length=na at*;generalize b.nx.length=nb at*;generalize l1.length=j1 at*;generalize l2.length=j2 at*;generalize pj.length=np at*;go_enter Tryz.func50,Tryz.ntmps50;go_wp2;refine ax ?_;intro V hV;have B1:Hid (aq V w.heap.size #[a0,.slice (some ⟨g1,o1,none⟩) na n1,a2,b0,.slice (some ⟨g2,o2,none⟩) nb n3,b2,c,.slice (some ⟨g6,o6,none⟩) np n6,.slice (some ⟨g7,o7,none⟩) np n7,.func (.func (j7 op)) #[] #[]] 111):=by rw[hV];exact((aq.new w _ _).alloc _).alloc _
 have B2:Hid (aq V (w.heap.size+1) #[.int .i64 s1,.int .i64 s2] 114):=by rw[hV];exact((aq.new (w.alloc _) _ _).at (by simp)).alloc _
 have B3:Hid (aq V (w.heap.size+1+1) #[.int .i64 0,.int .i64 0] 114):=by rw[hV];exact(aq.new ((w.alloc _).alloc _) _ _).at (by simp)
 have X1:Hid (Ext w V):=by rw[hV];exact(((Ext.refl w).alloc _).alloc _).alloc _
 clear hV;have hsz:=X1.size;refine aM false (fun _=>False) (by kernel_rfl) 28 [0,1,3,0,8,31,63,0,128,0,896,1920,4095,8191,0,16384,49152,0,131072,507904,1032192,0,2097152,0,14680064,31457280,67092480,134201344,268435455,536870911] (fun i=>i==29) (by kernel_rfl) (fun i=>aR.any _) ?_;intro C hC hne;have HC:=hid hC;have f1:=aF hC (p:=⟨w.heap.size,1,none⟩) (by have:=B1.lt;exact this) (fun h=>h) (B1.cell 1);have f2:=aF hC (p:=⟨w.heap.size,4,none⟩) (by have:=B1.lt;exact this) (fun h=>h) (B1.cell 4);have f3:=aF hC (p:=⟨w.heap.size,7,none⟩) (by have:=B1.lt;exact this) (fun h=>h) (B1.cell 7);have f4:=aF hC (p:=⟨w.heap.size,8,none⟩) (by have:=B1.lt;exact this) (fun h=>h) (B1.cell 8);have f5:=aF hC (p:=⟨w.heap.size+1,0,none⟩) (by have:=B2.lt;exact this) (fun h=>h) (B2.cell 0);have f6:=aF hC (p:=⟨w.heap.size+1,1,none⟩) (by have:=B2.lt;exact this) (fun h=>h) (B2.cell 1);have t1:=aF hC (p:=⟨g1,o1+s1,none⟩) (aw hg1 hsz) (fun h=>h) ((X1.cell (p:=⟨g1,o1+s1,none⟩) hg1).trans y1);have t2:=aF hC (p:=⟨g2,o2+s2,none⟩) (aw hg2 hsz) (fun h=>h) ((X1.cell (p:=⟨g2,o2+s2,none⟩) hg2).trans y2);have t6:=aF hC (p:=⟨g6,o6+k,none⟩) (aw hg6 hsz) (fun h=>h) ((X1.cell (p:=⟨g6,o6+k,none⟩) hg6).trans y6);have t7:=aF hC (p:=⟨g7,o7+k,none⟩) (aw hg7 hsz) (fun h=>h) ((X1.cell (p:=⟨g7,o7+k,none⟩) hg7).trans y7);have t8:=aF hC (p:=⟨g8,o8+q1,none⟩) (aw hg8 hsz) (fun h=>h) ((X1.cell (p:=⟨g8,o8+q1,none⟩) hg8).trans y8);have t9:=aF hC (p:=⟨g9,o9+q2,none⟩) (aw VU hsz) (fun h=>h) ((X1.cell (p:=⟨g9,o9+q2,none⟩) VU).trans y9);clear hC y1 y2 y6 y7 y8 y9
 repeat (refine ak (fun K hK=>?_);first | (refine cQ rfl ?_;try go_simp;refine hK _ _ ?_;clear hK K) | (refine bV rfl rfl ?_;unfold aB;go_simp;refine hK _ _ ?_;clear hK K))
 refine cg (fun W hW hH=>?_);have hM:=(HC.out W).1 hW;have C3:=hid (B3.below hM.below B3.lt);have XX:=hid (X1.below.trans (hM.below.mono X1.size));clear hM hW hH HC X1 f1 f2 f3 f4 f5 f6 t1 t2 t6 t7 t8 t9 B1 B2 B3;have k0:W.cell? ⟨w.heap.size+1+1,0,none⟩=some (.int .i64 0):=C3.cell 0;have k1:W.cell? ⟨w.heap.size+1+1,1,none⟩=some (.int .i64 0):=C3.cell 1;have z0:=C3.frozen 0;have z1:=C3.frozen 1;go_wp2;obtain⟨W9,eO⟩:=ah (((W.setCell ⟨w.heap.size+1+1,0,none⟩ (.int .i64 r1)).setCell ⟨w.heap.size+1+1,1,none⟩ (.int .i64 r2)));have E:Hid (aq W9 (w.heap.size+1+1) #[.int .i64 r1,.int .i64 r2] 114):=by rw[eO];exact(C3.set 0 _).set 1 _
 have X9:Hid (aa w W9):=by rw[eO];exact(XX.setCell (by simp;omega) _).setCell (by simp;omega) _
 rw[<-eO];clear eO k0 k1 z0 z1;have p0:W9.cell? ⟨w.heap.size+1+1,0,none⟩=some (.int .i64 r1):=E.cell 0;have p1:W9.cell? ⟨w.heap.size+1+1,1,none⟩=some (.int .i64 r2):=E.cell 1;refine bodyPost_ret (v:=.agg #[.int .i64 r1,.int .i64 r2]) (by simp[results,Tryz.results50,go_sem,p0,p1]) rfl ⟨rfl,X9⟩
theorem xQ (base:Nat) (v:Value) (a b:DF) (ra:Rt a) (rb:Rt b) (op:Nat) (YL:1<=op) (YM:op<=4) (p:Nat×Nat) (hp:iH a b p) (sa:Sm a) (sb:Sm b) (w:World) (h:jy base w v a b op): ag 51 #[v,.agg #[.int .i64 p.1,.int .i64 p.2]] w fun e w'=>∃ u,e=.returned u/\w'.ownsRow w.heap.size 3 1 u (eB a b op p).length ((eB a b op p).map aV)/\aa w w':=by
 obtain⟨a0,a1,a2,b0,b1,b2,c,o,t,rfl,_,h2,_,h4,_,_,_⟩:=h;generalize J7 a0=a0;generalize J7 b0=b0;obtain⟨s1,s2⟩:=p;obtain⟨hs1,hs2⟩:=hp;simp only at hs1 hs2 ⊢;rw[<-ra.mr]at hs1;rw[<-rb.mr]at hs2;obtain⟨l1,pU⟩:∃ l,a.mr[s1]? =some l:=⟨_,aC hs1⟩;obtain⟨l2,hl2⟩:∃ l,b.mr[s2]? =some l:=⟨_,aC hs2⟩;obtain⟨x1,n1,rfl⟩:=h2.form;obtain⟨x3,n3,rfl⟩:=h4.form;obtain⟨g1,o1,c1,d1,rfl,hg1,y1,z1⟩:=h2.elem pU;obtain⟨g2,o2,c2,d2,rfl,hg2,y2,z2⟩:=h4.elem hl2;have ll1:=sa.mks l1 (aA pU);have ll2:=sb.mks l2 (aA hl2);have m1:(s1:Int)<(a.mr.length:Nat):=by omega
 have m2:(s2:Int)<(b.mr.length:Nat):=by omega
 obtain⟨b1x,VV⟩:=ah (acc a s1);obtain⟨b2x,VW⟩:=ah (acc b s2);obtain⟨r,hr⟩:=ah (NV op b1x b2x);have mW:eB a b op (s1,s2)=if r then [0]else []:=by rw[hr,VV,VW];rfl
 have CS:Hid (∀ W,ag (j7 op) #[.bool b1x,.bool b2x] W fun e w'=>e=.returned (.bool r)/\w'=W):=fun W=>by rw[hr];exact J6 op YL YM b1x b2x W
 have Ab:∀ (d:DF) (s:Nat) (l:List Int),d.mr[s]? =some l->acc d s=decide (0<l.length):=fun d s l h=>by
  unfold acc;rw[getD_some h];cases l<;>simp
 have u1:=Ab a s1 l1 pU;have u2:=Ab b s2 l2 hl2;rw[<-VV]at u1;rw[<-VW]at u2;have eg:=Sy op YL YM;obtain⟨j1,Si⟩:=ah l1.length;obtain⟨j2,fC⟩:=ah l2.length;rw[<-Si]at y1 u1 ll1;rw[<-fC]at y2 u2 ll2;have v1:decide ((0:Int)<j1)=b1x:=by rw[u1];rw[Bool.eq_iff_iff];simp
 have v2:decide ((0:Int)<j2)=b2x:=by rw[u2];rw[Bool.eq_iff_iff];simp
 have v1':decide (0<j1)=b1x:=u1.symm;have v2':decide (0<j2)=b2x:=u2.symm;rw[mW];generalize a.mr.length=na at*;generalize b.mr.length=nb at*;generalize j7 op=gf at*;clear h2 h4 z1 z2 pU hl2 Si fC u1 u2 VV VW hr mW Ab ra rb sa sb YL YM;go_enter Tryz.func51,Tryz.ntmps51;go_wp2;refine ax ?_;intro V hV;have B1:Hid (aq V w.heap.size #[a0,a1,.slice (some ⟨g1,o1,none⟩) na n1,b0,b1,.slice (some ⟨g2,o2,none⟩) nb n3,c,o,t,.func (.func gf) #[] #[]] 111):=by rw[hV];exact(aq.new w _ _).alloc _
 have B2:Hid (aq V (w.heap.size+1) #[.int .i64 s1,.int .i64 s2] 114):=by rw[hV];exact(aq.new (w.alloc _) _ _).at (by simp)
 have X1:Hid (Ext w V):=by rw[hV];exact((Ext.refl w).alloc _).alloc _
 clear hV;have hsz:=X1.size;refine aM false (fun _=>False) (by kernel_rfl) 21 [0,1,0,4,12,0,32,124,252,508,1020,0,2048,6144,0,16384,63488,129024,260096,522240,1048575] (fun i=>i==20) (by kernel_rfl) (fun i=>aR.oB _ (.bool r)) ?_;intro C hC hne;have HC:=hid hC;have f1:=aF hC (p:=⟨w.heap.size,9,none⟩) (by have:=B1.lt;exact this) (fun h=>h) (B1.cell 9);have f2:=aF hC (p:=⟨w.heap.size,2,none⟩) (by have:=B1.lt;exact this) (fun h=>h) (B1.cell 2);have f3:=aF hC (p:=⟨w.heap.size,5,none⟩) (by have:=B1.lt;exact this) (fun h=>h) (B1.cell 5);have f5:=aF hC (p:=⟨w.heap.size+1,0,none⟩) (by have:=B2.lt;exact this) (fun h=>h) (B2.cell 0);have f6:=aF hC (p:=⟨w.heap.size+1,1,none⟩) (by have:=B2.lt;exact this) (fun h=>h) (B2.cell 1);have t1:=aF hC (p:=⟨g1,o1+s1,none⟩) (aw hg1 hsz) (fun h=>h) ((X1.cell (p:=⟨g1,o1+s1,none⟩) hg1).trans y1);have t2:=aF hC (p:=⟨g2,o2+s2,none⟩) (aw hg2 hsz) (fun h=>h) ((X1.cell (p:=⟨g2,o2+s2,none⟩) hg2).trans y2);clear hC y1 y2
 repeat (refine ak (fun K hK=>?_);first | (refine cQ rfl ?_;try go_simp;refine hK _ _ ?_;clear hK K) | (refine bV rfl rfl ?_;unfold aB;go_simp;refine hK _ _ ?_;clear hK K))
 refine ak (fun K hK=>?_);refine bS rfl rfl (aR.oB _ (.bool r)) rfl (fun W hW hN=>?_) (fun v hv=>?_)
 ·have hM:=(HC.out W).1 hW
  clear hW;go_simp;refine bu ((CS _).mono ?_);rintro e w2 ⟨rfl,hx⟩;exact⟨_,rfl,(by rw[hx];exact Move.ai (Below.refl _ _)),rfl,trivial⟩
 replace hv:v=_:=hv;subst hv;go_simp;refine hK _ _ ?_;clear hK K;refine cg (fun W hW hH=>?_);have hM:=(HC.out W).1 hW;have XX:=hid (X1.below.trans (hM.below.mono X1.size));clear hM hW hH HC X1 f1 f2 f3 f5 f6 t1 t2 B1 B2;cases r with
 | true=>
  go_wp2;go_ret;refine⟨_,rfl,?_,XX.alloc XX.size _⟩;exact World.ownsRow_lit W #[.int .i64 0] 1 (base:=w.heap.size) (size:=1) (e:=3) XX.size (by unfold maxLen;omega) rfl
 | false=>
  go_wp2;go_ret;exact⟨_,rfl,World.ownsRow_nil _ _ _ _,XX⟩
attribute [local go_sem] encS
theorem aq.ten {w:World} {b:Nat} {x0 x1 x2 x3 x4 x5 x6 x7 x8 x9:Value} {t:TypeId} (h:aq w b #[x0,x1,x2,x3,x4,x5,x6,x7,x8,x9] t): (w.cell? ⟨b,0,none⟩=some x0/\w.cell? ⟨b,1,none⟩=some x1/\w.cell? ⟨b,2,none⟩=some x2/\w.cell? ⟨b,3,none⟩=some x3/\w.cell? ⟨b,4,none⟩=some x4/\w.cell? ⟨b,5,none⟩=some x5/\w.cell? ⟨b,6,none⟩=some x6/\w.cell? ⟨b,7,none⟩=some x7/\w.cell? ⟨b,8,none⟩=some x8/\w.cell? ⟨b,9,none⟩=some x9)/\ (∀ i,w.frozen? ⟨b,i,none⟩=false):=
 ⟨⟨h.cell 0,h.cell 1,h.cell 2,h.cell 3,h.cell 4,h.cell 5,h.cell 6,h.cell 7,h.cell 8,h.cell 9⟩,h.frozen⟩
theorem vu {l:List BS} {k:Nat} (hk:k<(partsOf l).length):leastOf (partsOf l) k=(lb (partsOf l) k,true):=by have h1:=bB (l:=partsOf l) 0 hk;have h2:=gj (il l (aA h1));unfold leastOf;rw[nJ,h1];show aZ _=_;unfold lb;rw[show aZ ((partsOf l).getD k 0)=((aZ ((partsOf l).getD k 0)).1,(aZ ((partsOf l).getD k 0)).2) from rfl,h2.1]
def aR.Sz (base:Nat) (p:List BS):aR (Move false (fun _=>False)) where
 P:=fun v=>∃ b,v=.pointer (some ⟨b,0,none⟩)
 H:=fun v W=>cU W base v p
 mo:=.pointer (some ⟨0,0,none⟩)
 pw:=⟨0,rfl⟩
 st:=fun _ _ _ hm _ h=>h.below hm.below
theorem aT {P:Program} {fn:Func} {R:Ending->World->Prop} {x:Exit} {a:Act} {w:World} (h:∀ W,W=w->bodyPost P fn R x a W):bodyPost P fn R x a w:=h w rfl
theorem aq.iY {w:World} {b:Nat} {c:Array Value} {t:TypeId} (h:aq w b c t) (k:Nat) (v:Value) {c':Array Value} (e:c.setIfInBounds k v=c'):aq (w.setCell ⟨b,k,none⟩ v) b c' t:=e▸h.set k v
theorem aq.aak {w:World} {b:Nat} {x0 x1 x2 x3 x4 x5 x6 x7 x8 x9:Value} {t:TypeId} (h:aq w b #[x0,x1,x2,x3,x4,x5,x6,x7,x8,x9] t) (y0 y1 y2 y3 y4 y5 y6 y7 y8 y9:Value):aq ((((((((((w.setCell ⟨b,0,none⟩ y0).setCell ⟨b,1,none⟩ y1).setCell ⟨b,2,none⟩ y2).setCell ⟨b,3,none⟩ y3).setCell ⟨b,4,none⟩ y4).setCell ⟨b,5,none⟩ y5).setCell ⟨b,6,none⟩ y6).setCell ⟨b,7,none⟩ y7).setCell ⟨b,8,none⟩ y8).setCell ⟨b,9,none⟩ y9) b #[y0,y1,y2,y3,y4,y5,y6,y7,y8,y9] t:=by have h1:aq (w.setCell ⟨b,0,none⟩ y0) b #[y0,x1,x2,x3,x4,x5,x6,x7,x8,x9] t:=h.iY 0 y0 rfl;have h2:aq ((w.setCell ⟨b,0,none⟩ y0).setCell ⟨b,1,none⟩ y1) b #[y0,y1,x2,x3,x4,x5,x6,x7,x8,x9] t:=h1.iY 1 y1 rfl;have h3:aq (((w.setCell ⟨b,0,none⟩ y0).setCell ⟨b,1,none⟩ y1).setCell ⟨b,2,none⟩ y2) b #[y0,y1,y2,x3,x4,x5,x6,x7,x8,x9] t:=h2.iY 2 y2 rfl;have h4:aq ((((w.setCell ⟨b,0,none⟩ y0).setCell ⟨b,1,none⟩ y1).setCell ⟨b,2,none⟩ y2).setCell ⟨b,3,none⟩ y3) b #[y0,y1,y2,y3,x4,x5,x6,x7,x8,x9] t:=h3.iY 3 y3 rfl;have h5:aq (((((w.setCell ⟨b,0,none⟩ y0).setCell ⟨b,1,none⟩ y1).setCell ⟨b,2,none⟩ y2).setCell ⟨b,3,none⟩ y3).setCell ⟨b,4,none⟩ y4) b #[y0,y1,y2,y3,y4,x5,x6,x7,x8,x9] t:=h4.iY 4 y4 rfl;have h6:aq ((((((w.setCell ⟨b,0,none⟩ y0).setCell ⟨b,1,none⟩ y1).setCell ⟨b,2,none⟩ y2).setCell ⟨b,3,none⟩ y3).setCell ⟨b,4,none⟩ y4).setCell ⟨b,5,none⟩ y5) b #[y0,y1,y2,y3,y4,y5,x6,x7,x8,x9] t:=h5.iY 5 y5 rfl;have h7:aq (((((((w.setCell ⟨b,0,none⟩ y0).setCell ⟨b,1,none⟩ y1).setCell ⟨b,2,none⟩ y2).setCell ⟨b,3,none⟩ y3).setCell ⟨b,4,none⟩ y4).setCell ⟨b,5,none⟩ y5).setCell ⟨b,6,none⟩ y6) b #[y0,y1,y2,y3,y4,y5,y6,x7,x8,x9] t:=h6.iY 6 y6 rfl;have h8:aq ((((((((w.setCell ⟨b,0,none⟩ y0).setCell ⟨b,1,none⟩ y1).setCell ⟨b,2,none⟩ y2).setCell ⟨b,3,none⟩ y3).setCell ⟨b,4,none⟩ y4).setCell ⟨b,5,none⟩ y5).setCell ⟨b,6,none⟩ y6).setCell ⟨b,7,none⟩ y7) b #[y0,y1,y2,y3,y4,y5,y6,y7,x8,x9] t:=h7.iY 7 y7 rfl;have h9:aq (((((((((w.setCell ⟨b,0,none⟩ y0).setCell ⟨b,1,none⟩ y1).setCell ⟨b,2,none⟩ y2).setCell ⟨b,3,none⟩ y3).setCell ⟨b,4,none⟩ y4).setCell ⟨b,5,none⟩ y5).setCell ⟨b,6,none⟩ y6).setCell ⟨b,7,none⟩ y7).setCell ⟨b,8,none⟩ y8) b #[y0,y1,y2,y3,y4,y5,y6,y7,y8,x9] t:=h8.iY 8 y8 rfl;have h10:aq ((((((((((w.setCell ⟨b,0,none⟩ y0).setCell ⟨b,1,none⟩ y1).setCell ⟨b,2,none⟩ y2).setCell ⟨b,3,none⟩ y3).setCell ⟨b,4,none⟩ y4).setCell ⟨b,5,none⟩ y5).setCell ⟨b,6,none⟩ y6).setCell ⟨b,7,none⟩ y7).setCell ⟨b,8,none⟩ y8).setCell ⟨b,9,none⟩ y9) b #[y0,y1,y2,y3,y4,y5,y6,y7,y8,y9] t:=h9.iY 9 y9 rfl;exact h10
theorem SD (w:World) (b:Nat) (y0 y1 y2 y3 y4 y5 y6 y7 y8 y9:Value):ae (· ≠b) w ((((((((((w.setCell ⟨b,0,none⟩ y0).setCell ⟨b,1,none⟩ y1).setCell ⟨b,2,none⟩ y2).setCell ⟨b,3,none⟩ y3).setCell ⟨b,4,none⟩ y4).setCell ⟨b,5,none⟩ y5).setCell ⟨b,6,none⟩ y6).setCell ⟨b,7,none⟩ y7).setCell ⟨b,8,none⟩ y8).setCell ⟨b,9,none⟩ y9):=by
 have h1:ae (· ≠b) w (w.setCell ⟨b,0,none⟩ y0):=(ae.refl _ w).setCell (p:=⟨b,0,none⟩) (fun h=>h rfl) y0;have h2:ae (· ≠b) w ((w.setCell ⟨b,0,none⟩ y0).setCell ⟨b,1,none⟩ y1):=h1.setCell (p:=⟨b,1,none⟩) (fun h=>h rfl) y1;have h3:ae (· ≠b) w (((w.setCell ⟨b,0,none⟩ y0).setCell ⟨b,1,none⟩ y1).setCell ⟨b,2,none⟩ y2):=h2.setCell (p:=⟨b,2,none⟩) (fun h=>h rfl) y2;have h4:ae (· ≠b) w ((((w.setCell ⟨b,0,none⟩ y0).setCell ⟨b,1,none⟩ y1).setCell ⟨b,2,none⟩ y2).setCell ⟨b,3,none⟩ y3):=h3.setCell (p:=⟨b,3,none⟩) (fun h=>h rfl) y3;have h5:ae (· ≠b) w (((((w.setCell ⟨b,0,none⟩ y0).setCell ⟨b,1,none⟩ y1).setCell ⟨b,2,none⟩ y2).setCell ⟨b,3,none⟩ y3).setCell ⟨b,4,none⟩ y4):=h4.setCell (p:=⟨b,4,none⟩) (fun h=>h rfl) y4;have h6:ae (· ≠b) w ((((((w.setCell ⟨b,0,none⟩ y0).setCell ⟨b,1,none⟩ y1).setCell ⟨b,2,none⟩ y2).setCell ⟨b,3,none⟩ y3).setCell ⟨b,4,none⟩ y4).setCell ⟨b,5,none⟩ y5):=h5.setCell (p:=⟨b,5,none⟩) (fun h=>h rfl) y5;have h7:ae (· ≠b) w (((((((w.setCell ⟨b,0,none⟩ y0).setCell ⟨b,1,none⟩ y1).setCell ⟨b,2,none⟩ y2).setCell ⟨b,3,none⟩ y3).setCell ⟨b,4,none⟩ y4).setCell ⟨b,5,none⟩ y5).setCell ⟨b,6,none⟩ y6):=h6.setCell (p:=⟨b,6,none⟩) (fun h=>h rfl) y6;have h8:ae (· ≠b) w ((((((((w.setCell ⟨b,0,none⟩ y0).setCell ⟨b,1,none⟩ y1).setCell ⟨b,2,none⟩ y2).setCell ⟨b,3,none⟩ y3).setCell ⟨b,4,none⟩ y4).setCell ⟨b,5,none⟩ y5).setCell ⟨b,6,none⟩ y6).setCell ⟨b,7,none⟩ y7):=h7.setCell (p:=⟨b,7,none⟩) (fun h=>h rfl) y7
 have h9:ae (· ≠b) w (((((((((w.setCell ⟨b,0,none⟩ y0).setCell ⟨b,1,none⟩ y1).setCell ⟨b,2,none⟩ y2).setCell ⟨b,3,none⟩ y3).setCell ⟨b,4,none⟩ y4).setCell ⟨b,5,none⟩ y5).setCell ⟨b,6,none⟩ y6).setCell ⟨b,7,none⟩ y7).setCell ⟨b,8,none⟩ y8):=h8.setCell (p:=⟨b,8,none⟩) (fun h=>h rfl) y8;have h10:ae (· ≠b) w ((((((((((w.setCell ⟨b,0,none⟩ y0).setCell ⟨b,1,none⟩ y1).setCell ⟨b,2,none⟩ y2).setCell ⟨b,3,none⟩ y3).setCell ⟨b,4,none⟩ y4).setCell ⟨b,5,none⟩ y5).setCell ⟨b,6,none⟩ y6).setCell ⟨b,7,none⟩ y7).setCell ⟨b,8,none⟩ y8).setCell ⟨b,9,none⟩ y9):=h9.setCell (p:=⟨b,9,none⟩) (fun h=>h rfl) y9;exact h10
theorem oJ.symm {v y:Value} (h:oJ v y):oJ y v:=by
 unfold oJ at*;by_cases e:y.ownBlock=none
 ·exact .inl e
 ·right
  rcases h with h | h
  ·intro h';exact e (h'.trans h)
  ·exact fun h'=>h h'.symm
theorem J8 (v v':Value) (a b:DF) (ra:Rt a) (rb:Rt b) (op:Nat) (w:World) (h:iJ w v a) (h':iJ w v' b): ag 49 #[v,v',.func (.func (j7 op)) #[] #[]] w fun e w'=>∃ u,e=.returned u/\jy w.heap.size w' u a b op/\aa w w':=by
 obtain⟨iS,YN,J9,Ka,Kb⟩:=info_parts Tryz.CZ;obtain⟨iI,Cb,my,mz,mA⟩:=info_parts Tryz.qB;obtain⟨v0,v1,v2,rfl,h0,h1,h2⟩:=h;obtain⟨a0,c0,rfl⟩:=h0.1.form;obtain⟨a1,c1,rfl⟩:=h1.form;obtain⟨a2,c2,rfl⟩:=h2.form;obtain⟨u0,u1,u2,rfl,g0,g1,g2⟩:=h';obtain⟨b0,e0,rfl⟩:=g0.1.form;obtain⟨b1,e1,rfl⟩:=g1.form;obtain⟨b2,e2,rfl⟩:=g2.form;obtain⟨pj,SF⟩:=ah (partsOf (a.cl++b.cl));obtain⟨K,hK⟩:=ah pj.length;have Oe:K<=256:=by rw[hK,SF,(eA _).length_eq];exact dK _
 have Z8:=hid SF;have zM:=hid hK;have CA:Hid (∀ W v,dn W v a.cl->ag 66 #[v] W fun e w'=>∃ b,e=.returned (.pointer (some ⟨b,0,none⟩))/\cU w' W.heap.size (.pointer (some ⟨b,0,none⟩)) a.cl/\aa W w'):=fun W v h=>by
  have:=lx a.cl v W h (by have:=ra.Sn;omega);rwa[ra.cl]at this
 have CB:Hid (∀ W v,dn W v b.cl->ag 66 #[v] W fun e w'=>∃ x,e=.returned (.pointer (some ⟨x,0,none⟩))/\cU w' W.heap.size (.pointer (some ⟨x,0,none⟩)) b.cl/\aa W w'):=fun W v h=>by
  have:=lx b.cl v W h (by have:=rb.Sn;omega);rwa[rb.cl]at this
 have CJ:Hid (∀ W x y bx bY,cU W bx (.pointer (some ⟨x,0,none⟩)) a.cl->cU W bY (.pointer (some ⟨y,0,none⟩)) b.cl->ag 79 #[.pointer (some ⟨x,0,none⟩),.pointer (some ⟨y,0,none⟩)] W fun e w'=>∃ b,e=.returned (.pointer (some ⟨b,0,none⟩))/\cU w' W.heap.size (.pointer (some ⟨b,0,none⟩)) pj/\aa W w'):=fun W x y bx bY hx hy=>by
  refine(NN _ _ _ _ _ _ W hx hy).mono fun e w' hj=>?_
  unfold zY at hj;have e1:a.cl.isEmpty=false:=by have:=ra.qE;cases h:a.cl with | nil=>rw[h]at this;simp at this | cons _ _=>rfl
  have e2:b.cl.isEmpty=false:=by have:=rb.qE;cases h:b.cl with | nil=>rw[h]at this;simp at this | cons _ _=>rfl
  rw[e1,e2,if_neg (by decide)]at hj;rw[SF];exact hj
 have CL:Hid (∀ W x bx,cU W bx (.pointer (some ⟨x,0,none⟩)) pj->ag 67 #[.pointer (some ⟨x,0,none⟩)] W fun e w'=>e=.returned (.int .i64 K)/\w'=W):=fun W x bx h=>by rw[hK];exact Iz _ _ _ _ h
 have CS:Hid (∀ W x bx (k:Nat) s,pj[k]? =some s->cU W bx (.pointer (some ⟨x,0,none⟩)) pj->ag 68 #[.pointer (some ⟨x,0,none⟩),.int .i64 k] W fun e w'=>e=.returned (.tuple #[.agg (encS s),.bool true])/\Ext W w'):=fun W x bx k s hs h=>by
  have:=zV _ bx pj k W h;rw[nJ,hs]at this;exact this
 have CM:Hid (∀ W x bx (k:Nat),k<pj.length->cU W bx (.pointer (some ⟨x,0,none⟩)) pj->ag 69 #[.pointer (some ⟨x,0,none⟩),.int .i64 k] W fun e w'=>e=.returned (.tuple #[.int .u8 (lb pj k),.bool true])/\Ext W w'):=fun W x bx k hk h=>by
  have:=yz _ bx pj k W h;rw[SF,vu (by rw[<-SF];exact hk), <-SF]at this;exact this
 have YP:Hid (∀ k,k<pj.length->lb pj k<256):=hid fun k hk=>by rw[SF];exact Dj (by rw[<-SF];exact hk)
 have H0:=hid h0.1;have H1:=hid h1;have H2:=hid h2;have G0:=hid g0.1;have G1:=hid g1;have G2:=hid g2;clear h0 h1 h2 g0 g1 g2 SF hK ra rb;generalize a.cl.length=n0 at*;generalize a.nx.length=n1 at*;generalize a.mr.length=n2 at*;generalize b.cl.length=m0 at*;generalize b.nx.length=m1 at*;generalize b.mr.length=m2 at*;obtain⟨gf,VX⟩:=ah (j7 op);have HGF:=hid VX;rw[<-VX];clear VX;go_enter Tryz.func49,Tryz.ntmps49;go_wp2;refine ax ?_;intro V hV;have B3:Hid (aq V w.heap.size #[.slice a0 n0 c0,.slice a1 n1 c1,.slice a2 n2 c2] 73):=by rw[hV];exact((aq.new w _ _).alloc _).alloc _
 have B4:Hid (aq V (w.heap.size+1) #[.slice b0 m0 e0,.slice b1 m1 e1,.slice b2 m2 e2] 73):=by rw[hV];exact((aq.new (w.alloc _) _ _).at (by simp)).alloc _
 have B6:Hid (aq V (w.heap.size+1+1) #[.slice none 0 0,.slice none 0 0,.slice none 0 0,.slice none 0 0,.slice none 0 0,.slice none 0 0,.slice none 0 0,.slice none 0 0,.slice none 0 0,.nilFunc] 111):=by rw[hV];exact(aq.new ((w.alloc _).alloc _) _ _).at (by simp)
 have X1:Hid (aa w V):=by rw[hV];exact((((Ext.refl w).alloc _).alloc _).alloc _).below
 clear hV;refine aM false (fun _=>False) (by kernel_rfl) 8 [0,1,3,0,8,31,63,127] (fun i=>i==2 || i==5) (by kernel_rfl) (fun i=>if i=2 then aR.Sz V.heap.size a.cl else if i=5 then aR.Sz V.heap.size b.cl else aR.any _) ?_;intro C hC hne;have HC:=hid hC;have f0:=aF hC (p:=⟨w.heap.size,0,none⟩) (by have:=B3.lt;exact this) (fun h=>h) (B3.cell 0);have f1:=aF hC (p:=⟨w.heap.size+1,0,none⟩) (by have:=B4.lt;exact this) (fun h=>h) (B4.cell 0);clear hC
 repeat (refine ak (fun K hK=>?_);first | (refine cQ rfl ?_;try go_simp;refine hK _ _ ?_;clear hK K) | (refine bV rfl rfl ?_;unfold aB;go_simp;refine hK _ _ ?_;clear hK K))
 refine ak (fun K hK=>?_);refine bS rfl rfl (aR.Sz V.heap.size a.cl) rfl (fun W hW hN=>?_) (fun v hv=>?_)
 ·have hM:=(HC.out W).1 hW
  clear hW;go_simp;refine bu ((CA _ _ ((H0.below X1).below hM.below)).mono ?_);rintro e w2 ⟨b,rfl,ha,hx⟩;exact⟨_,rfl,Move.ai hx,⟨b,rfl⟩,ha.base hM.size⟩
 obtain⟨bx,rfl⟩:=hv;go_simp;refine hK _ _ ?_;clear hK K
 repeat (refine ak (fun K hK=>?_);first | (refine cQ rfl ?_;try go_simp;refine hK _ _ ?_;clear hK K) | (refine bV rfl rfl ?_;unfold aB;go_simp;refine hK _ _ ?_;clear hK K))
 refine ak (fun K hK=>?_);refine bS rfl rfl (aR.Sz V.heap.size b.cl) rfl (fun W hW hN=>?_) (fun v hv=>?_)
 ·have hM:=(HC.out W).1 hW
  clear hW;go_simp;refine bu ((CB _ _ ((G0.below X1).below hM.below)).mono ?_);rintro e w2 ⟨b,rfl,ha,hx⟩;exact⟨_,rfl,Move.ai hx,⟨b,rfl⟩,ha.base hM.size⟩
 obtain⟨bY,rfl⟩:=hv;go_simp;refine hK _ _ ?_;clear hK K
 repeat (refine ak (fun K hK=>?_);first | (refine cQ rfl ?_;try go_simp;refine hK _ _ ?_;clear hK K) | (refine bV rfl rfl ?_;unfold aB;go_simp;refine hK _ _ ?_;clear hK K))
 refine cg (fun W hW hH=>?_);have hM:=(HC.out W).1 hW;have A1:Hid (cU W V.heap.size (.pointer (some ⟨bx,0,none⟩)) a.cl):=hid (hH _ (aA (show _=some _ from rfl:_[1]? =some _)));have A2:Hid (cU W V.heap.size (.pointer (some ⟨bY,0,none⟩)) b.cl):=hid (hH _ (aA (show _=some _ from rfl:_[0]? =some _)));have C3:=hid (B3.below hM.below B3.lt);have C4:=hid (B4.below hM.below B4.lt);have C6:=hid (B6.below hM.below B6.lt);have X2:=hid (X1.trans (hM.below.mono X1.size));clear hM hW hH f0 f1 HC B3 B4 B6 X1 CA CB H0 G0;go_wp2_with fail
 refine(CJ _ _ _ _ _ A1 A2).mono ?_;rintro e w3 ⟨bj,rfl,ha,hx⟩;have A3:=hid ha;have A1':=hid (A1.below hx);have A2':=hid (A2.below hx);have D3:=hid (C3.below hx C3.lt);have D4:=hid (C4.below hx C4.lt);have D6:=hid (C6.below hx C6.lt);have X3:=hid (X2.trans (hx.mono X2.size));clear ha hx A1 A2 C3 C4 C6 X2 CJ;obtain⟨⟨k0,k1,k2⟩,_⟩:=D3.three;obtain⟨⟨l0,l1,l2⟩,_⟩:=D4.three;go_wp2_with fail
 refine aK ?_;intro V2 hV2;have XA:Hid (aa w3 V2):=by rw[hV2];exact((Ext.refl _).alloc _).below
 have B10:Hid (aq V2 w3.heap.size #[.slice a0 n0 c0,.slice a1 n1 c1,.slice a2 n2 c2,.slice b0 m0 e0,.slice b1 m1 e1,.slice b2 m2 e2,.slice none 0 0,.slice none 0 0,.slice none 0 0,.func (.func gf) #[] #[]] 111):=by rw[hV2];exact aq.new _ _ _
 have A4:=hid (A3.below XA);have KK:∀ W',ae (fun x=>x<V2.heap.size/\x≠w3.heap.size) V2 W'->ae (· <w3.heap.size) w3 W':=fun W' h=>(ae.ai XA fun _ h=>h:ae (· <w3.heap.size) w3 V2).tr (h.mono fun x hx=>⟨aw hx XA.size,Nat.ne_of_lt hx⟩)
 have A4j:Hid (∀ W',ae (fun x=>x<V2.heap.size/\x≠w3.heap.size) V2 W'->cU W' W.heap.size (.pointer (some ⟨bj,0,none⟩)) pj):=hid fun W' h=>A3.keeps (KK W' h) fun _ _ h=>h
 have A4x:Hid (∀ W',ae (fun x=>x<V2.heap.size/\x≠w3.heap.size) V2 W'->cU W' V.heap.size (.pointer (some ⟨bx,0,none⟩)) a.cl):=hid fun W' h=>A1'.keeps (KK W' h) fun _ _ h=>h
 have A4y:Hid (∀ W',ae (fun x=>x<V2.heap.size/\x≠w3.heap.size) V2 W'->cU W' V.heap.size (.pointer (some ⟨bY,0,none⟩)) b.cl):=hid fun W' h=>A2'.keeps (KK W' h) fun _ _ h=>h
 have E6:=hid (D6.below XA D6.lt);have X4:=hid (X3.trans (XA.mono X3.size));have hb6:w.heap.size+1+1<w3.heap.size:=D6.lt;have aal:w3.heap.size<V2.heap.size:=B10.lt;clear KK hV2 k0 k1 k2 l0 l1 l2 A3 A1' A2' D3 D4 D6 X3 XA;obtain⟨g10,aam⟩:=ah w3.heap.size;rw[<-aam]at B10 hb6 aal A4j A4x A4y ⊢;clear aam;refine(CL _ _ _ A4).mono ?_;rintro e w' ⟨rfl,hw⟩;replace hw:=hw.symm;subst hw;go_wp2;go_loopw [31] (fun i wr=>∃ (k:Nat) (c o t:Value),k<=K/\i=.int .i64 k/\aq wr g10 #[.slice a0 n0 c0,.slice a1 n1 c1,.slice a2 n2 c2,.slice b0 m0 e0,.slice b1 m1 e1,.slice b2 m2 e2,c,o,t,.func (.func gf) #[] #[]] 111/\wr.ownsRow V2.heap.size 37 4 c k (aN (pj.take k))/\wr.ownsRow V2.heap.size 3 1 o k (((oneOf a pj).take k).map aV)/\wr.ownsRow V2.heap.size 3 1 t k (((oneOf b pj).take k).map aV)/\oJ o t/\ae (fun x=>x<V2.heap.size/\x≠g10) V2 wr) (fun i _=>K-(intOf i).toNat);case atStart=>exact⟨0,_,_,_,by omega,rfl,B10,World.ownsRow_nil _ _ _ _,World.ownsRow_nil _ _ _ _,World.ownsRow_nil _ _ _ _,.inl rfl,ae.refl _ _⟩
 case round=>
  obtain⟨k,c,o,t,hk,rfl,hb,hc,ho,ht,hfar,hx⟩:=hrel;obtain⟨wo,rfl⟩:=ah (wr:World);have YQ:V2.heap.size<=wo.heap.size:=hx.size;by_cases hlt:k<K
  ·obtain⟨s,hs⟩:∃ s,pj[k]? =some s:=⟨_,aC (by have:=zM.out;omega)⟩
   have Cc:k<pj.length:=by rw[<-zM.out];exact hlt
   have BJ:=YP.out k Cc;obtain⟨q,hq⟩:=ah (lb pj k);obtain⟨qa,Gm⟩:=ah (cls a.cl q);obtain⟨qb,xj⟩:=ah (cls b.cl q);rw[<-hq]at BJ;have HB:=hid hb;have Gn:=hid hc;have HO:=hid ho;have HT:=hid ht;have HF:=hid hfar;have HX:=hid hx;have HS:=hid hs;have AJ:=hid (A4j.out wo hx);have AX:=hid (A4x.out wo hx);have AY:=hid (A4y.out wo hx);have eT:(k:Int)<K:=by omega
   clear hb hc ho ht hfar hx hs;have VY:Hid (∀ W',cU W' W.heap.size (.pointer (some ⟨bj,0,none⟩)) pj->ag 68 #[.pointer (some ⟨bj,0,none⟩),.int .i64 k] W' fun e w'=>e=.returned (.tuple #[.agg (encS s),.bool true])/\Ext W' w'):=hid fun W' h=>CS W' bj _ k s HS h
   have IM:Hid (∀ W',cU W' W.heap.size (.pointer (some ⟨bj,0,none⟩)) pj->ag 69 #[.pointer (some ⟨bj,0,none⟩),.int .i64 k] W' fun e w'=>e=.returned (.tuple #[.int .u8 q,.bool true])/\Ext W' w'):=hid fun W' h=>by rw[hq];exact CM W' bj _ k Cc h
   have CX1:Hid (∀ W',cU W' V.heap.size (.pointer (some ⟨bx,0,none⟩)) a.cl->ag 80 #[.pointer (some ⟨bx,0,none⟩),.int .u8 q] W' fun e w'=>e=.returned (.int .i64 qa)/\w'=W'):=hid fun W' h=>by rw[Gm];exact yy _ _ _ q BJ W' h
   have CY1:Hid (∀ W',cU W' V.heap.size (.pointer (some ⟨bY,0,none⟩)) b.cl->ag 80 #[.pointer (some ⟨bY,0,none⟩),.int .u8 q] W' fun e w'=>e=.returned (.int .i64 qb)/\w'=W'):=hid fun W' h=>by rw[xj];exact yy _ _ _ q BJ W' h
   have HQA:Hid ((oneOf a pj).take (k+1)=(oneOf a pj).take k++ [(qa:Int)]):=hid (by rw[List.take_add_one,nO a Cc,Gm,hq];rfl);have HQB:Hid ((oneOf b pj).take (k+1)=(oneOf b pj).take k++ [(qb:Int)]):=hid (by rw[List.take_add_one,nO b Cc,xj,hq];rfl);have HQS:Hid (pj.take (k+1)=pj.take k++ [s]):=hid (by rw[List.take_add_one,HS.out];rfl);clear hq Gm xj BJ Cc HS;go_wp2_with fail
   refine(VY _ AJ).mono ?_;rintro e w5 ⟨rfl,hx⟩;have Y5:=hid hx;have YR:wo.heap.size<=w5.heap.size:=hx.size;clear hx;go_wp2_with fail
   refine aK ?_;intro V3 cD;have S3:Hid (aq V3 w5.heap.size (encS s) 37):=by rw[cD];exact aq.new _ _ _
   have Y6:Hid (Ext wo V3):=by rw[cD];exact Y5.alloc _
   clear cD Y5;refine(IM _ (AJ.below Y6.below)).mono ?_;rintro e w6 ⟨rfl,hx⟩;have S6:=hid (S3.ext hx);have Y7:=hid (Y6.trans hx);clear hx S3 Y6;have yF:=hid (ay Gn Y7.below);have kA:=hid (ay HO Y7.below);have Rl:=hid (ay HT Y7.below);have fJ:=hid (HB.ext Y7);have hw6:wo.heap.size<=w6.heap.size:=Y7.size;have eW:=hid (HX.tr (ae.ai Y7.below fun x hx=>aw hx.1 YQ));have L1:=hid fun x e=>(Gn.lt x e).2
   have L2:=hid fun x e=>(HO.lt x e).2
   have L3:=hid fun x e=>(HT.lt x e).2
   clear Gn HO HT HB HX;obtain⟨ca,cc,rfl⟩:=ownsRow_form yF;obtain⟨oa,oc,rfl⟩:=ownsRow_form kA;obtain⟨ta,tc,rfl⟩:=ownsRow_form Rl;have SG:Hid ((Value.slice ca k cc).ownBlock=none\/(Value.slice ca k cc).ownBlock≠(Value.slice oa k oc).ownBlock):=ownBlock_ne (by decide) yF kA;have hcu:Hid ((Value.slice ca k cc).ownBlock=none\/(Value.slice ca k cc).ownBlock≠(Value.slice ta k tc).ownBlock):=ownBlock_ne (by decide) yF Rl;have hoc:Hid ((Value.slice oa k oc).ownBlock=none\/(Value.slice oa k oc).ownBlock≠(Value.slice ca k cc).ownBlock):=ownBlock_ne (by decide) kA yF;have htc:Hid ((Value.slice ta k tc).ownBlock=none\/(Value.slice ta k tc).ownBlock≠(Value.slice ca k cc).ownBlock):=ownBlock_ne (by decide) Rl yF;obtain⟨XO,VZ⟩:=ah (((oneOf a pj).take k).map aV);obtain⟨XT,hXT⟩:=ah (((oneOf b pj).take k).map aV);rw[<-VZ]at kA;rw[<-hXT]at Rl;have HXO:=hid VZ;have HXT:=hid hXT;clear VZ hXT;obtain⟨PL,xm⟩:=ah ([⟨37,4,.slice ca k cc,k,aN (pj.take k),1,(encS s).toList⟩,⟨3,1,.slice oa k oc,k,XO,1,[.int .i64 qa]⟩,⟨3,1,.slice ta k tc,k,XT,1,[.int .i64 qb]⟩]:List App);have rO:PL[0]? =some ⟨37,4,.slice ca k cc,k,aN (pj.take k),1,(encS s).toList⟩:=by rw[xm];rfl
   have vv:PL[1]? =some ⟨3,1,.slice oa k oc,k,XO,1,[.int .i64 qa]⟩:=by rw[xm];rfl
   have Fo:PL[2]? =some ⟨3,1,.slice ta k tc,k,XT,1,[.int .i64 qb]⟩:=by rw[xm];rfl
   have OK:Hid (kI w6 PL):=hid ⟨fun p hp x e=>by
     rw[xm]at hp;simp only[List.mem_cons,List.not_mem_nil,or_false]at hp;rcases hp with rfl | rfl | rfl
     ·exact(yF.lt x e).2
     ·exact(kA.lt x e).2
     ·exact(Rl.lt x e).2,fun i j p q hi hj oY=>by
     have hl:PL.length=3:=by rw[xm];rfl
     have h1:=(List.getElem?_eq_some_iff.1 hi).1;have h2:=(List.getElem?_eq_some_iff.1 hj).1;rcases(show i=0\/i=1\/i=2 by omega)with rfl | rfl | rfl<;>rcases(show j=0\/j=1\/j=2 by omega)with rfl | rfl | rfl<;>(first | (exact absurd rfl oY) | skip)<;>(first | rw[rO]at hi | rw[vv]at hi | rw[Fo]at hi)<;>(first | rw[rO]at hj | rw[vv]at hj | rw[Fo]at hj)<;>cases hi<;>cases hj
     ·exact SG
     ·exact hcu
     ·exact hoc
     ·exact HF
     ·exact htc
     ·rcases HF.out with h | h
      ·by_cases e:(Value.slice ta k tc).ownBlock=none
       ·exact .inl e
       ·right;intro h';exact e (h'.trans h)
      ·exact .inr fun h'=>h h'.symm⟩
   clear SG hcu hoc htc;have hsz:V2.heap.size<=w6.heap.size:=Nat.le_trans YQ hw6;have My:∀ x,x<V2.heap.size->¬ ∃ p∈PL,p.v.ownBlock=some x:=fun x hx ⟨p,hp,e⟩=>by
    rw[xm]at hp;simp only[List.mem_cons,List.not_mem_nil,or_false]at hp;rcases hp with rfl | rfl | rfl
    ·have:=(yF.lt _ e).1;omega
    ·have:=(kA.lt _ e).1;omega
    ·have:=(Rl.lt _ e).1;omega
   have Ac:=My g10 aal;have Mz:=hid My;have Ad:Hid (∀ W',bX V2.heap.size w6 PL w6 W'->ae (fun x=>x<V2.heap.size/\x≠g10) V2 W'):=hid fun W' h=>eW.tr (h.keeps.mono fun x hx=>⟨aw hx.1 hsz,My x hx.1⟩)
   have xn:¬ ∃ p∈PL,p.v.ownBlock=some w5.heap.size:=fun ⟨p,hp,e⟩=>by
    rw[xm]at hp;simp only[List.mem_cons,List.not_mem_nil,or_false]at hp;rcases hp with rfl | rfl | rfl
    ·have:=L1.out _ e;omega
    ·have:=L2.out _ e;omega
    ·have:=L3.out _ e;omega
   clear xm My;go_wp2;refine RegG.ck (bX V2.heap.size w6 PL) (bX.drew) (fun _ _ _ h k=>h.trans k) (by kernel_rfl) 20 [0,1,0,4,15,0,32,0,0,415,927,2047,0,4096,0,0,53247,118783,262143,12415,1048575,2097151,4194303,8388607,16777215] (fun i=>i==3 || i==4 || i==9 || i==10 || i==11 || i==16 || i==17 || i==18) (by kernel_rfl) (fun j=>if j=18 then some 57 else none) (fun j hj=>(by first | rfl | (have fC:25<=j:=hj;first | exact if_neg (by omega) | (split<;>first | omega | rfl)))) (by kernel_rfl) (fun i=>if i=3 then RegG.aR.rN V2.heap.size w6 PL 1 (encS s) 37 else if i=4 then RegG.aR.app V2.heap.size w6 PL ⟨37,4,.slice ca k cc,k,aN (pj.take k),1,(encS s).toList⟩ (aA rO)else if i=9 then RegG.aR.oB _ (.int .i64 qa)else if i=10 then RegG.aR.rN V2.heap.size w6 PL 1 #[.int .i64 qa] 3 else if i=11 then RegG.aR.app V2.heap.size w6 PL ⟨3,1,.slice oa k oc,k,XO,1,[.int .i64 qa]⟩ (aA vv)else if i=16 then RegG.aR.oB _ (.int .i64 qb)else if i=17 then RegG.aR.rN V2.heap.size w6 PL 1 #[.int .i64 qb] 3 else if i=18 then RegG.aR.vg V2.heap.size w6 PL ⟨3,1,.slice ta k tc,k,XT,1,[.int .i64 qb]⟩ (aA Fo)else RegG.aR.any _) ?_;intro C hC hne;have HC:=hid hC;have l4:∀ {x:Nat},x<w6.heap.size->(¬ ∃ p∈PL,p.v.ownBlock=some x)->∀ W: {W//C W},W.1.heap[x]? =w6.heap[x]? :=fun {x} h1 h2 W=>((hC W.1).1 W.2).keeps.keep x ⟨h1,h2⟩
   have f6:∀ W: {W//C W},W.1.cell? ⟨g10,6,none⟩=some (.slice ca k cc):=fun W=>((fJ.same (l4 fJ.lt Ac W)).cell 6)
   have f7:∀ W: {W//C W},W.1.cell? ⟨g10,7,none⟩=some (.slice oa k oc):=fun W=>((fJ.same (l4 fJ.lt Ac W)).cell 7)
   have f8:∀ W: {W//C W},W.1.cell? ⟨g10,8,none⟩=some (.slice ta k tc):=fun W=>((fJ.same (l4 fJ.lt Ac W)).cell 8)
   have s0:∀ W: {W//C W},W.1.cell? ⟨w5.heap.size,0,none⟩=some (.int .u64 (wd s 0).toNat):=fun W=>(S6.same (l4 S6.lt xn W)).xD.1
   have s1:∀ W: {W//C W},W.1.cell? ⟨w5.heap.size,1,none⟩=some (.int .u64 (wd s 1).toNat):=fun W=>(S6.same (l4 S6.lt xn W)).xD.2.1
   have s2:∀ W: {W//C W},W.1.cell? ⟨w5.heap.size,2,none⟩=some (.int .u64 (wd s 2).toNat):=fun W=>(S6.same (l4 S6.lt xn W)).xD.2.2.1
   have s3:∀ W: {W//C W},W.1.cell? ⟨w5.heap.size,3,none⟩=some (.int .u64 (wd s 3).toNat):=fun W=>(S6.same (l4 S6.lt xn W)).xD.2.2.2
   clear hC l4
   repeat (refine RegG.ak (fun K hK=>?_);first | (refine RegG.cQ rfl ?_;try go_simp;refine hK _ _ ?_;clear hK K) | (refine RegG.bV rfl rfl ?_;unfold aB;go_simp;refine hK _ _ ?_;clear hK K))
   refine RegG.ak (fun K hK=>?_);refine RegG.bS rfl rfl (RegG.aR.rN V2.heap.size w6 PL 1 (encS s) 37) rfl (fun W hW hN=>?_) (fun v hv=>?_)
   ·have hM:=(HC.out W).1 hW
    clear hW hK K
    (go_simp;exact⟨.below ((Ext.refl _).alloc _).below,⟨_,rfl⟩,fun b hb=>by cases hb;exact⟨aq.new _ _ _,OK.fresh hM.size⟩⟩)
   obtain⟨x3,rfl⟩:=hv;go_simp;refine hK _ _ ?_;clear hK K;refine RegG.ak (fun K hK=>?_);refine RegG.bS rfl rfl (RegG.aR.app V2.heap.size w6 PL ⟨37,4,.slice ca k cc,k,aN (pj.take k),1,(encS s).toList⟩ (aA rO)) rfl (fun W hW hN=>?_) (fun v hv=>?_)
   ·have hM:=(HC.out W).1 hW
    clear hW hK K;refine dL (w0:=w6) (PL:=PL) (p:=⟨37,4,.slice ca k cc,k,aN (pj.take k),1,(encS s).toList⟩) (.tmp 47) (.tmp 49) 70 rfl iS _ 32 Tryz.underlying70 YN J9 Ka Kb rfl (show(0:Nat)<4 from by decide) OK rO rfl (hM.old _ (aA rO) yF) ⟨x3,0,none⟩ 1 rfl rfl (bQ (hN.at 0 rfl (by kernel_rfl) x3 rfl).1) (by intro u hu;simp[encS]at hu;rcases hu with rfl | rfl | rfl | rfl<;>rfl) (by show k+1<=maxLen;unfold maxLen;omega) (by show(k+1)*32<=_;omega) (Nat.le_trans hsz hM.size) (show(0:Nat)<1 from by decide) hM.size (fun v W' g1 g2 g3 _=>⟨g1,g2,g3⟩)
   obtain⟨V0,We,rfl⟩:=hv;go_simp;refine hK _ _ ?_;clear hK K
   repeat (refine RegG.ak (fun K hK=>?_);first | (refine RegG.cQ rfl ?_;try go_simp;refine hK _ _ ?_;clear hK K) | (refine RegG.bV rfl rfl ?_;unfold aB;go_simp;refine hK _ _ ?_;clear hK K))
   refine RegG.ak (fun K hK=>?_);refine RegG.bS rfl rfl (RegG.aR.oB _ (.int .i64 qa)) rfl (fun W hW hN=>?_) (fun v hv=>?_)
   ·have hM:=(HC.out W).1 hW
    clear hW;go_simp;refine bu ((CX1 _ (A4x _ (Ad _ hM))).mono ?_);rintro e w2 ⟨rfl,hx⟩;exact⟨_,rfl,(by rw[hx];exact .below (Below.refl _ _)),rfl,trivial⟩
   replace hv:v=_:=hv;subst hv;go_simp;refine hK _ _ ?_;clear hK K;refine RegG.ak (fun K hK=>?_);refine RegG.bS rfl rfl (RegG.aR.rN V2.heap.size w6 PL 1 #[.int .i64 qa] 3) rfl (fun W hW hN=>?_) (fun v hv=>?_)
   ·have hM:=(HC.out W).1 hW
    clear hW hK K
    (go_simp;exact⟨.below ((Ext.refl _).alloc _).below,⟨_,rfl⟩,fun b hb=>by cases hb;exact⟨aq.new _ _ _,OK.fresh hM.size⟩⟩)
   obtain⟨Uz,rfl⟩:=hv;go_simp;refine hK _ _ ?_;clear hK K;refine RegG.ak (fun K hK=>?_);refine RegG.bS rfl rfl (RegG.aR.app V2.heap.size w6 PL ⟨3,1,.slice oa k oc,k,XO,1,[.int .i64 qa]⟩ (aA vv)) rfl (fun W hW hN=>?_) (fun v hv=>?_)
   ·have hM:=(HC.out W).1 hW
    clear hW hK K;refine dL (w0:=w6) (PL:=PL) (p:=⟨3,1,.slice oa k oc,k,XO,1,[.int .i64 qa]⟩) (.tmp 52) (.tmp 56) 51 rfl iI _ 8 Tryz.underlying51 Cb my mz mA rfl (show(0:Nat)<1 from by decide) OK vv rfl (hM.old _ (aA vv) kA) ⟨Uz,0,none⟩ 1 rfl rfl (bQ (hN.at 0 rfl (by kernel_rfl) Uz rfl).1) (by intro u hu;simp at hu;rw[hu];rfl) (by show k+1<=maxLen;unfold maxLen;omega) (by show(k+1)*8<=_;omega) (Nat.le_trans hsz hM.size) (show(0:Nat)<1 from by decide) hM.size (fun v W2 g1 g2 g3 _=>⟨g1,g2,g3⟩)
   obtain⟨Rm,Rn,rfl⟩:=hv;go_simp;refine hK _ _ ?_;clear hK K
   repeat (refine RegG.ak (fun K hK=>?_);first | (refine RegG.cQ rfl ?_;try go_simp;refine hK _ _ ?_;clear hK K) | (refine RegG.bV rfl rfl ?_;unfold aB;go_simp;refine hK _ _ ?_;clear hK K))
   refine RegG.ak (fun K hK=>?_);refine RegG.bS rfl rfl (RegG.aR.oB _ (.int .i64 qb)) rfl (fun W hW hN=>?_) (fun v hv=>?_)
   ·have hM:=(HC.out W).1 hW
    clear hW;go_simp;refine bu ((CY1 _ (A4y _ (Ad _ hM))).mono ?_);rintro e w2 ⟨rfl,hx⟩;exact⟨_,rfl,(by rw[hx];exact .below (Below.refl _ _)),rfl,trivial⟩
   replace hv:v=_:=hv;subst hv;go_simp;refine hK _ _ ?_;clear hK K;refine RegG.ak (fun K hK=>?_);refine RegG.bS rfl rfl (RegG.aR.rN V2.heap.size w6 PL 1 #[.int .i64 qb] 3) rfl (fun W hW hN=>?_) (fun v hv=>?_)
   ·have hM:=(HC.out W).1 hW
    clear hW hK K
    (go_simp;exact⟨.below ((Ext.refl _).alloc _).below,⟨_,rfl⟩,fun b hb=>by cases hb;exact⟨aq.new _ _ _,OK.fresh hM.size⟩⟩)
   obtain⟨x17,rfl⟩:=hv;go_simp;refine hK _ _ ?_;clear hK K;refine RegG.ak (fun K hK=>?_);refine RegG.bS rfl rfl (RegG.aR.vg V2.heap.size w6 PL ⟨3,1,.slice ta k tc,k,XT,1,[.int .i64 qb]⟩ (aA Fo)) rfl (fun W hW hN=>?_) (fun v hv=>?_)
   ·have hM:=(HC.out W).1 hW
    have hq:After V2.heap.size w6 ⟨3,1,.slice oa k oc,k,XO,1,[.int .i64 qa]⟩ W (.slice Rm (k+1) Rn):=hN.at 2 rfl (by kernel_rfl);clear hW hK K;refine dL (w0:=w6) (PL:=PL) (p:=⟨3,1,.slice ta k tc,k,XT,1,[.int .i64 qb]⟩) (.tmp 59) (.tmp 63) 51 rfl iI _ 8 Tryz.underlying51 Cb my mz mA rfl (show(0:Nat)<1 from by decide) OK Fo rfl (hM.old _ (aA Fo) Rl) ⟨x17,0,none⟩ 1 rfl rfl (bQ (hN.at 0 rfl (by kernel_rfl) x17 rfl).1) (by intro u hu;simp at hu;rw[hu];rfl) (by show k+1<=maxLen;unfold maxLen;omega) (by show(k+1)*8<=_;omega) (Nat.le_trans hsz hM.size) (show(0:Nat)<1 from by decide) hM.size (fun v W2 g1 g2 g3 g4=>⟨g1,g2,g3,?_⟩);rcases g4 with g4 | g4
    ·exact .inl g4
    ·refine .inr (.inr fun e=>?_)
     rw[g4]at e;have:=(hq.1.lt _ e.symm).2;omega
   obtain⟨MC,MD,rfl⟩:=hv;go_simp;refine hK _ _ ?_;clear hK K
   repeat (refine RegG.ak (fun K hK=>?_);first | (refine RegG.cQ rfl ?_;try go_simp;refine hK _ _ ?_;clear hK K) | (refine RegG.bV rfl rfl ?_;unfold aB;go_simp;refine hK _ _ ?_;clear hK K))
   refine RegG.cg (fun W7 hW hH=>?_);have hM:=(HC.out W7).1 hW;have Q0:Hid (After V2.heap.size w6 ⟨37,4,.slice ca k cc,k,aN (pj.take k),1,(encS s).toList⟩ W7 (.slice V0 (k+1) We)):=hid (hH _ (aA (show _=some _ from rfl:_[6]? =some _)));have Q1:Hid (After V2.heap.size w6 ⟨3,1,.slice oa k oc,k,XO,1,[.int .i64 qa]⟩ W7 (.slice Rm (k+1) Rn)):=hid (hH _ (aA (show _=some _ from rfl:_[3]? =some _)));have Q2:Hid (After V2.heap.size w6 ⟨3,1,.slice ta k tc,k,XT,1,[.int .i64 qb]⟩ W7 (.slice MC (k+1) MD)/\((Value.slice MC (k+1) MD).ownBlock=(Value.slice ta k tc).ownBlock\/oJ (.slice MC (k+1) MD) (.slice Rm (k+1) Rn))):=hid (hH _ (aA (show _=some _ from rfl:_[0]? =some _)))
   have Ae:Hid (oJ (.slice Rm (k+1) Rn) (.slice MC (k+1) MD)):=hid (by
    rcases Q2.2 with h | h
    ·rcases Q1.2 with h' | h'
     ·rcases HF.out with h3 | h3
      ·exact .inl (h'.trans h3)
      ·exact .inr (by rw[h',h];exact h3)
     ·by_cases e:(Value.slice Rm (k+1) Rn).ownBlock=none
      ·exact .inl e
      ·right
       intro e2;rw[h]at e2;cases e3:(Value.slice ta k tc).ownBlock with
       | none=>rw[e3]at e2;exact e e2
       | some x=>rw[e3]at e2;have:=h' x e2;have:=(Rl.lt x e3).2;omega
    ·exact h.symm)
   have K7:=hid (Ad.out _ hM);have B7:=hid (fJ.same (hM.keeps.keep g10 ⟨fJ.lt,Ac⟩));have NJ:w6.heap.size<=W7.heap.size:=hM.size
   have R0:Hid (W7.ownsRow V2.heap.size 37 4 (.slice V0 (k+1) We) (k+1) (aN (pj.take (k+1)))):=hid (by
    have:=Q0.1;rw[HQS.out,fy]
    simpa[aN]using this)
   have R1:Hid (W7.ownsRow V2.heap.size 3 1 (.slice Rm (k+1) Rn) (k+1) (((oneOf a pj).take (k+1)).map aV)):=hid (by
    have:=Q1.1;rw[HQA.out,List.map_append, <-HXO.out]
    exact this)
   have R2:Hid (W7.ownsRow V2.heap.size 3 1 (.slice MC (k+1) MD) (k+1) (((oneOf b pj).take (k+1)).map aV)):=hid (by
    have:=Q2.1.1;rw[HQB.out,List.map_append, <-HXT.out]
    exact this)
   clear hM hW hH HC f6 f7 f8 s0 s1 s2 s3 rO vv Fo OK Ac Mz xn Ad eW fJ S6 Y7 VY IM CX1 CY1 Q0 Q1 Q2 HF yF kA Rl L1 L2 L3;obtain⟨⟨p0,p1,p2,p3,p4,p5,p6,p7,p8,p9⟩,pz⟩:=B7.ten;have z6:=pz 6;have z7:=pz 7;have z8:=pz 8;clear pz;go_wp2;go_roundw;case rel=>
    have kg:ae (· ≠g10) W7 (((W7.setCell ⟨g10,6,none⟩ (.slice V0 (k+1) We)).setCell ⟨g10,7,none⟩ (.slice Rm (k+1) Rn)).setCell ⟨g10,8,none⟩ (.slice MC (k+1) MD)):=
     (((ae.refl _ _).setCell (p:=⟨g10,6,none⟩) (fun h=>h rfl) _).setCell (p:=⟨g10,7,none⟩) (fun h=>h rfl) _).setCell (p:=⟨g10,8,none⟩) (fun h=>h rfl) _
    refine⟨k+1,_,_,_,by omega,by go_num,((B7.set 6 _).set 7 _).set 8 _,?_,?_,?_,Ae,K7.tr (kg.mono fun x hx=>hx.2)⟩
    ·exact aS R0 kg fun x h1 _ e=>by omega
    ·exact aS R1 kg fun x h1 _ e=>by omega
    ·exact aS R2 kg fun x h1 _ e=>by omega
   case measure=>simp[intOf];omega
  ·obtain rfl:k=K:=by omega
   have t0:pj.take k=pj:=by rw[zM.out];exact List.take_length
   have t1:(oneOf a pj).take k=oneOf a pj:=by rw[zM.out, <-jk a pj];exact List.take_length
   have t2:(oneOf b pj).take k=oneOf b pj:=by rw[zM.out, <-jk b pj];exact List.take_length
   rw[t0]at hc;rw[t1]at ho;rw[t2]at ht;obtain⟨ca,cc,rfl⟩:=ownsRow_form hc;obtain⟨oa,oc,rfl⟩:=ownsRow_form ho;obtain⟨ta,tc,rfl⟩:=ownsRow_form ht;have R0:=hid hc;have R1:=hid ho;have R2:=hid ht;have B7:=hid hb;have F6:=hid (E6.keeps hx ⟨E6.lt,by omega⟩);have XX:Hid (aa w wo):=X4.trans (hx.mono fun x mX=>⟨aw mX X4.size,by have:x<w.heap.size:=mX;omega⟩:ae (· <w.heap.size) V2 wo).below;clear hb hc ho ht hfar hx t0 t1 t2 hlt hk;obtain⟨⟨p0,p1,p2,p3,p4,p5,p6,p7,p8,p9⟩,_⟩:=B7.ten;obtain⟨⟨q0,q1,q2,q3,q4,q5,q6,q7,q8,q9⟩,qz⟩:=F6.ten;go_wp2;refine aT ?_;intro W9 eO;have EK:Hid (aq W9 (w.heap.size+1+1) #[.slice a0 n0 c0,.slice a1 n1 c1,.slice a2 n2 c2,.slice b0 m0 e0,.slice b1 m1 e1,.slice b2 m2 e2,.slice ca k cc,.slice oa k oc,.slice ta k tc,.func (.func gf) #[] #[]] 111/\ae (· ≠w.heap.size+1+1) wo W9):=by rw[eO];exact⟨F6.aak _ _ _ _ _ _ _ _ _ _,SD _ _ _ _ _ _ _ _ _ _ _ _⟩
   have E:=hid EK.1;have K9:=hid EK.2;clear EK eO p0 p1 p2 p3 p4 p5 p6 p7 p8 p9 q0 q1 q2 q3 q4 q5 q6 q7 q8 q9 qz;have X9:Hid (aa w W9):=XX.trans (K9.mono fun x hx=>by have:x<w.heap.size:=hx;omega:ae (· <w.heap.size) wo W9).below;refine bodyPost_ret (results_cell_row rfl _ _ (w.heap.size+1+1) 111 #[.slice a0 n0 c0,.slice a1 n1 c1,.slice a2 n2 c2,.slice b0 m0 e0,.slice b1 m1 e1,.slice b2 m2 e2,.slice ca k cc,.slice oa k oc,.slice ta k tc,.func (.func gf) #[] #[]] (0,0) _ rfl E Tryz.underlying111 rfl (by kernel_rfl)) rfl ⟨_,rfl,⟨(a0,n0,c0),.slice a1 n1 c1,.slice a2 n2 c2,(b0,m0,e0),.slice b1 m1 e1,.slice b2 m2 e2,.slice ca k cc,.slice oa k oc,.slice ta k tc,by rw[HGF.out];rfl,H1.below X9,H2.below X9,G1.below X9,G2.below X9,?_,?_,?_⟩,X9⟩
   ·rw[<-Z8.out, <-zM.out]
    exact aG (aS R0 K9 fun x h1 _ e=>by omega) (by omega)
   ·rw[<-Z8.out]
    refine dP (e:=3) (base:=V2.heap.size) (aS R1 K9 fun x h1 _ e=>by omega) (by rw[jk];exact zM)
   ·rw[<-Z8.out]
    refine dP (e:=3) (base:=V2.heap.size) (aS R2 K9 fun x h1 _ e=>by omega) (by rw[jk];exact zM)
end
section
open Go Go.RowKit Go.Shelf Go.Maps
open Go.WideMaps (KeyLaw)
open Go.ChangeMaps (setBlock heap_setBlock_same)
def jA (p:Nat×Nat):Value:=.agg #[.int .i64 p.1,.int .i64 p.2]
def fD:Nat->List (Nat×Nat)->List MapEntry
 | _,[]=>[]
 | n,p::l=>⟨jA p,.int .i64 n,n⟩::fD (n+1) l
theorem kL:∀ (l:List (Nat×Nat)) (n i:Nat),(fD n l)[i]? =(l[i]?).map fun p=>⟨jA p,.int .i64 (n+i:Nat),n+i⟩
 | [],_,_=>by simp[fD]
 | p::l,n,0=>by simp[fD]
 | p::l,n,i+1=>by
  simp only[fD,List.getElem?_cons_succ,kL l];rw[show n+1+i=n+(i+1) by omega]
theorem qI:∀ (l:List (Nat×Nat)) (n:Nat) (q:Nat×Nat),fD n (l++ [q])=fD n l++ [⟨jA q,.int .i64 (n+l.length:Nat),n+l.length⟩]
 | [],n,q=>by simp[fD]
 | p::l,n,q=>by
  simp only[List.cons_append,fD,qI l,List.length_cons];rw[show n+1+l.length=n+(l.length+1) by omega]
theorem yH {p q:Nat×Nat} (h:jA p=jA q):p=q:=by
 unfold jA at h;injection h with h
 have h1:=congrArg (fun a:Array Value=>a.toList) h;simp at h1;exact Prod.ext (by omega) (by omega)
def gX (w:World) (b:Nat) (l:List (Nat×Nat)):Prop:=w.heap[b]? =some (.map (fD 0 l).toArray l.length)
theorem gX.keeps {w w':World} {b:Nat} {l:List (Nat×Nat)} (h:gX w b l) {R:Nat->Prop} (hk:ae R w w') (hb:R b):gX w' b l:=(hk.keep b hb).trans h
theorem gX.lt {w:World} {b:Nat} {l:List (Nat×Nat)} (h:gX w b l):b<w.heap.size:=(Array.getElem?_eq_some_iff.1 h).1
theorem gX.below {w w':World} {b:Nat} {l:List (Nat×Nat)} (h:gX w b l) (hk:aa w w'):gX w' b l:=(hk.block b h.lt).trans h
theorem Tryz.SH:(114:TypeId)<Tryz.prog.types.size:=of_decide_eq_true (by kernel_rfl)
theorem Tryz.Og:(match Tryz.prog.underlying 114 with | some (.array _ _) | some (.struct _)=>true | _=>false)=true:=by kernel_rfl
theorem Tryz.rP:Keyed Tryz.prog 114:=Keyed.of_law (deep_law_laid Tryz.laidOut (m:=2) (by omega) Tryz.SH (by kernel_rfl) Tryz.Og)
theorem Tryz.Dn:Tryz.prog.keyType 114=true:=by kernel_rfl
theorem Tryz.yI:Tryz.prog.cellsOf 114=2:=by kernel_rfl
theorem Tryz.Oh:Tryz.prog.cellsOf 3=1:=by kernel_rfl
theorem Tryz.Oi:∃ n,Tryz.prog.types.size=n+1:=⟨Tryz.prog.types.size-1,by have:=of_decide_eq_true (show decide (0<Tryz.prog.types.size)=true by kernel_rfl);omega⟩
theorem Wh (n:Nat) (x:Nat) (hx:x<=4000):Tryz.prog.keyLits (n+1) 3 [.int .i64 x]=some [.int .i64 x]:=by unfold Program.keyLits;rw[Tryz.underlying3];have:(Lit.int .i64 (x:Int)).wf=true:=WalkArith.wf_i64 (by omega);simp[this]
theorem uD (p:Nat×Nat) (h1:p.1<=4000) (h2:p.2<=4000):∃ l,keyOf Tryz.prog 114 (jA p)=some l:=by
 obtain⟨n,hn⟩:=Tryz.Oi;have hf:(jA p).formed Tryz.prog 114=true:=by simp[jA,Value.formed,Tryz.underlying114,Tryz.yI]
 unfold keyOf;rw[Tryz.underlying114];simp only[Tryz.Dn,hf,Bool.and_self,if_true];have hk:∃ ls,Tryz.prog.keyLits (Tryz.prog.types.size+1) 114 (jA p).cells.toList=some ls:=by
  rw[hn];unfold Program.keyLits;rw[Tryz.underlying114];simp[jA,Value.cells,Tryz.yI,Tryz.Oh,Wh,h1,h2]
 obtain⟨ls,h⟩:=hk;rw[h];exact⟨_,rfl⟩
theorem IP {l:List (Nat×Nat)} (hl:∀ p∈l,p.1<=4000/\p.2<=4000):∀ e∈fD 0 l,∃ k,keyOf Tryz.prog 114 e.key=some k:=fun e he=>by
 obtain⟨i,hi⟩:=List.mem_iff_getElem?.1 he;rw[kL]at hi;obtain⟨p,hp,rfl⟩:=Option.map_eq_some_iff.1 hi;exact uD p (hl p (aA hp)).1 (hl p (aA hp)).2
def Kc (l:List (Nat×Nat)) (q:Nat×Nat):Nat:= @List.idxOf _ instBEqOfDecidableEq q l
theorem Gp {α:Type} [DecidableEq α] {l:List α} (hn:l.Nodup) {i:Nat} {q:α} (h:l[i]? =some q):l.idxOf q=i:=by obtain⟨h1,h2⟩:=List.getElem?_eq_some_iff.1 h;subst h2;exact List.Nodup.idxOf_getElem hn i h1
theorem Kd {l:List (Nat×Nat)} (hn:l.Nodup) {i:Nat} {q:Nat×Nat} (h:l[i]? =some q):Kc l q=i:=Gp hn h
theorem Oj {w:World} {b:Nat} {l:List (Nat×Nat)} (h:gX w b l) (hn:l.Nodup) (hl:∀ p∈l,p.1<=4000/\p.2<=4000) (q:Nat×Nat) (h1:q.1<=4000) (h2:q.2<=4000): (q∉l/\(Instr.lookup 115 (.map (some b)) (jA q) true).run Tryz.prog w=.ok (.tuple #[.int .i64 0,.bool false]) w)\/ (q∈l/\(Instr.lookup 115 (.map (some b)) (jA q) true).run Tryz.prog w=.ok (.tuple #[.int .i64 (Kc l q),.bool true]) w):=by
 have K:=Tryz.rP;obtain⟨kl,hk⟩:=uD q h1 h2;have hz:(zeroValue 3).run Tryz.prog w=.ok (.int .i64 0) w:=by kernel_rfl
 have hb:w.heap[b]? =some (.map (fD 0 l).toArray l.length):=h;rcases K.find w hk (fD 0 l) (IP hl)with⟨f1,f2⟩ | ⟨j,e0,f1,f2,f3⟩
 ·refine .inl ⟨fun hm=>?_,?_⟩
  ·obtain⟨i,hi⟩:=List.mem_iff_getElem?.1 hm
   have:=kL l 0 i;rw[hi]at this;exact f2 _ (aA this) rfl
  ·simp[Instr.lookup,run_underlying Tryz.underlying115,MapKept.run_getObj_map hb,K.check w _ hk,f1,hz,Result.andThen]
 ·rw[kL]at f2
  obtain⟨p,hp,rfl⟩:=Option.map_eq_some_iff.1 f2;have e:p=q:=yH f3;subst e;refine .inr ⟨aA hp,?_⟩;rw[Kd hn hp];simp[Instr.lookup,run_underlying Tryz.underlying115,MapKept.run_getObj_map hb,K.check w _ hk,f1,Result.andThen]
theorem SI {w:World} {b:Nat} {l:List (Nat×Nat)} (h:gX w b l) (hl:∀ p∈l,p.1<=4000/\p.2<=4000) (q:Nat×Nat) (h1:q.1<=4000) (h2:q.2<=4000) (hq:q∉l): ∃ w',(Instr.mapUpdate 115 (.map (some b)) (jA q) (.int .i64 l.length)).run Tryz.prog w=.ok () w'/\gX w' b (l++ [q])/\ae (· ≠b) w w'/\w'.heap.size=w.heap.size:=by
 have K:=Tryz.rP;obtain⟨kl,hk⟩:=uD q h1 h2;have hb:w.heap[b]? =some (.map (fD 0 l).toArray l.length):=h;rcases K.find w hk (fD 0 l) (IP hl)with⟨f1,f2⟩ | ⟨j,e0,f1,f2,f3⟩
 ·refine⟨setBlock w b (.map (fD 0 (l++ [q])).toArray (l++ [q]).length),?_,heap_setBlock_same hb _,⟨rfl,rfl,rfl,by simp[setBlock],fun i hi=>by show(w.heap.setIfInBounds b _)[i]? =_;exact Array.getElem?_setIfInBounds_ne (Ne.symm hi)⟩,by simp[setBlock]⟩
  rw[qI];simp[Instr.mapUpdate,run_underlying Tryz.underlying115,MapKept.run_getObj_map hb,K.check w false hk,f1,MapKept.run_setObj_map _ hb,Result.andThen,setBlock]
 ·rw[kL]at f2
  obtain⟨p,hp,rfl⟩:=Option.map_eq_some_iff.1 f2;have e:p=q:=yH f3;subst e;exact absurd (aA hp) hq
end
end Go.Proofs.YtpcmhjbehdgdbaaGreatDoor
namespace Go.Proofs.YtpcmhjbehdgdbaaGreatDoor.uE
open Go Go.RowKit Go.Proofs.YtpcmhjbehdgdbaaGreatDoor
structure App where
 e:TypeId
 size:Nat
 v:Value
 n:Nat
 xs:List Value
 m:Nat
 lo:Nat
 ok:List Value->World->Prop
 st:∀ ns A B,ae (fun x=>lo<=x/\x<A.heap.size) A B->ok ns A->ok ns B
def After (base:Nat) (w0:World) (p:App) (W:World) (v:Value):Prop:=
 (∃ ns,W.ownsRow base p.e p.size v (p.n+p.m) (p.xs++ns)/\p.ok ns W)/\(v.ownBlock=p.v.ownBlock\/∀ x,v.ownBlock=some x->w0.heap.size<=x)
structure bX (base:Nat) (w0:World) (PL:List App) (A B:World):Prop where
 keeps:ae (fun x=>x<A.heap.size/\¬ ∃ p∈PL,p.v.ownBlock=some x) A B
 old:∀ p∈PL,A.ownsRow base p.e p.size p.v p.n p.xs->B.ownsRow base p.e p.size p.v p.n p.xs
 new:∀ p∈PL,∀ v,After base w0 p A v->After base w0 p B v
section
variable {base:Nat} {w0:World} {PL:List App} {A B C:World}
theorem bX.trans (h:bX base w0 PL A B) (k:bX base w0 PL B C):bX base w0 PL A C:=
 ⟨h.keeps.trans k.keeps fun _ hx=>⟨aw hx.1 h.keeps.size,hx.2⟩,fun p hp ho=>k.old p hp (h.old p hp ho),fun p hp v hv=>k.new p hp v (h.new p hp v hv)⟩
theorem bX.below (h:aa A B):bX base w0 PL A B:=
 ⟨ae.ai h fun _ hx=>hx.1,fun _ _ ho=>ownsRow_keepsA ho h,fun p _ _ ⟨⟨ns,h1,h2⟩,h3⟩=>⟨⟨ns,ownsRow_keepsA h1 h,p.st ns _ _ (ae.ai h fun _ hx=>hx.2) h2⟩,h3⟩⟩
where
 ownsRow_keepsA {W W':World} {b:Nat} {e:TypeId} {size:Nat} {v:Value} {n:Nat} {xs:List Value} (h:W.ownsRow b e size v n xs) (hk:aa W W'):W'.ownsRow b e size v n xs:=
  au h (ae.ai hk (R:=(· <W.heap.size)) fun _ h=>h) fun k e=>(h.lt k e).2
theorem bX.drew:bX base w0 PL A A.drew:=.below (Ext.refl A).drew.below
theorem bX.size (h:bX base w0 PL A B):A.heap.size<=B.heap.size:=h.keeps.size
def kI (w0:World) (PL:List App):Prop:=(∀ p∈PL,w0.heap.size<=p.lo)/\(∀ p∈PL,∀ x,p.v.ownBlock=some x->x<w0.heap.size)/\∀ (i j:Nat) (p q:App),PL[i]? =some p->PL[j]? =some q->i≠j->p.v.ownBlock=none\/p.v.ownBlock≠q.v.ownBlock
theorem bX.room (ok:kI w0 PL) {i:Nat} {p:App} (hi:PL[i]? =some p) {g cap:Nat} {cur:Array Value} (hv:p.v=.slice (some ⟨g,0,none⟩) p.n cap) (ho:A.ownsRow base p.e p.size p.v p.n p.xs) (hg:A.heap[g]? =some (.cells cur p.e (0,0))) (news:List Value) (ry:p.ok news A) (hl:news.length=p.m*p.size) (hcs:cur.size=cap*p.size) (hroom:p.n+p.m<=cap):bX base w0 PL A (A.setRow g (cur.toList.take (p.n*p.size)++news++cur.toList.drop (p.n*p.size+news.length)).toArray):=by
 have NS:=aA hi;have Sk:p.v.ownBlock=some g:=by rw[hv];rfl
 have hgw:g<w0.heap.size:=ok.2.1 p NS g Sk;have YJ:∀ c,ae (· ≠g) A (A.setRow g c):=fun c=>(ae.refl _ _).setRow (fun h=>h rfl) c
 have Di:p.n*p.size+news.length<=cur.size:=by rw[hl,hcs, <-Nat.add_mul];exact Nat.mul_le_mul_right _ hroom
 have dT:cur.toList.take (p.n*p.size)=p.xs:=by
  rcases ho.2 with⟨h,_⟩ | ⟨g',cap',cur',h,_,II,_,_,_,ht⟩
  ·rw[hv]at h;cases h
  ·rw[hv]at h
   cases h
   rw[hg]at II;cases II;exact ht
 have hlx:p.xs.length=p.n*p.size:=ho.1;generalize hc:(cur.toList.take (p.n*p.size)++news++cur.toList.drop (p.n*p.size+news.length)).toArray=c;have oG:c.toList=p.xs++news++cur.toList.drop (p.n*p.size+news.length):=by rw[<-hc,dT]
 have Mu:c.size=cur.size:=by rw[<-Array.length_toList,oG,aQ,aQ,List.length_drop,show cur.toList.length=cur.size from Array.length_toList];omega
 have kst:∀ q∈PL,∀ ns,q.ok ns A->q.ok ns (A.setRow g c):=fun q hq ns=>q.st ns _ _ ((YJ c).mono fun x hx e=>by have:=ok.1 q hq;have:=hx.1;omega)
 have Uu:(A.setRow g c).heap[g]? =some (.cells c p.e (0,0)):=setRow_heap A g cur c p.e _ hg;have far:∀ {e:TypeId} {size:Nat} {v:Value} {n:Nat} {xs:List Value},A.ownsRow base e size v n xs->v.ownBlock≠some g->(A.setRow g c).ownsRow base e size v n xs:=fun h hne=>
  au h (YJ c) fun k e e'=>hne (by rw[e,e'])
 have Sl:∀ {k cap':Nat} {xs:List Value},A.ownsRow base p.e p.size (.slice (some ⟨g,0,none⟩) k cap') k xs->c.toList.take (k*p.size)=xs->(A.setRow g c).ownsRow base p.e p.size (.slice (some ⟨g,0,none⟩) k cap') k xs:=fun {k cap' xs} h ht=>by
  rcases h.2 with⟨h',_⟩ | ⟨g',c',cur',h',hb,II,h1,h2,h3,_⟩
  ·cases h'
  ·cases h'
   rw[hg]at II;cases II;exact⟨h.1,.inr ⟨g,cap',c,rfl,hb,Uu,h1,h2,by rw[Mu];exact h3,ht⟩⟩
 refine⟨(YJ c).mono fun x hx e=>hx.2 ⟨p,NS,by rw[Sk,e]⟩,fun q hq VT=>?_,fun q hq v Uv=>?_⟩
 ·obtain⟨j,hj⟩:=List.getElem?_of_mem hq
  by_cases e:j=i
  ·subst e
   rw[hi]at hj;cases hj;rw[hv]at VT ⊢;exact Sl VT (by rw[oG,List.append_assoc, <-hlx];exact List.take_left)
  ·refine far VT fun h=>?_
   rcases ok.2.2 j i q p hj hi e with h' | h'
   ·rw[h']at h;cases h
   ·exact h' (by rw[h,Sk])
 ·obtain⟨j,hj⟩:=List.getElem?_of_mem hq
  obtain⟨⟨ns,hns,aap⟩,hv2⟩:=Uv;refine⟨?_,hv2⟩;by_cases e:j=i
  ·subst e
   rw[hi]at hj;cases hj;by_cases eb:v.ownBlock=some g
   ·rcases hns.2 with⟨h',_⟩ | ⟨g',c',cur',h',_⟩
    ·rw[h']at eb;cases eb
    ·subst h'
     have:g'=g:=by simpa[Value.ownBlock]using eb
     subst this;refine⟨news,?_,kst p NS news ry⟩;have hl2:(p.xs++ns).length=(p.n+p.m)*p.size:=hns.1;rcases hns.2 with⟨h9,_⟩ | ⟨g9,c9,akZ,h9,MG,VU,i1,i2,i3,_⟩
     ·cases h9
     ·cases h9
      rw[hg]at VU;cases VU;refine⟨by rw[aQ,hl,hlx,Nat.add_mul],.inr ⟨_,_,c,rfl,MG,Uu,i1,i2,by rw[Mu];exact i3,?_⟩⟩;rw[oG,Nat.add_mul, <-hlx, <-hl, <-aQ];exact List.take_left
   ·exact⟨ns,far hns eb,kst p NS ns aap⟩
  ·refine⟨ns,far hns fun h=>?_,kst q hq ns aap⟩
   rcases hv2 with h2 | h2
   ·rcases ok.2.2 j i q p hj hi e with h' | h'
    ·rw[h2,h']at h;cases h
    ·exact h' (by rw[<-h2,h,Sk])
   ·have:=h2 g h;omega
theorem dL {P:Program} {Cl:FuncId->Array Value->World->(Ending->World->Prop)->Prop} {Rd:Nat->FuncId->Array Value->Code->Code->World->(Ending->World->Prop)->Prop} {o:Oper} {a:Act} {W:World} {post:Value->World->Prop} (s x:Operand) (t:TypeId) (ho:o.op=.call {callee:=.builtin .append,args:= #[s,x],argTypes:= #[t,t]}) (i:TypeInfo) (z:Value) (bytes:Nat) {p:App} (ht:P.underlying t=some (.slice p.e)) (hi:P.info? p.e=some i) (hz:i.zero=some z) (hsize:i.size=p.size) (hby:i.bytes=bytes) (hzs:z.cells.size=p.size) (hsz:0<p.size) (ok:kI w0 PL) {k:Nat} (hk:PL[k]? =some p) (hs:a.eval s=p.v) (hown:W.ownsRow base p.e p.size p.v p.n p.xs) (ad:Addr) (c:Nat) (hx:a.eval x=.slice (some ad) p.m c) (news:List Value) (ry:p.ok news W) (hl:news.length=p.m*p.size) (hnews:∀ j u,news[j]? =some u->W.cell? (ad.add j)=some u) (h1:∀ u∈news,u.oneCell'=true) (h63:p.n+p.m<=maxLen) (hbytes:(p.n+p.m)*bytes<=140737488355328) (hbase:base<=W.heap.size) (hm:0<p.m) (hw0:w0.heap.size<=W.heap.size) (h:∀ v W',bX base w0 PL W W'->(∃ a c,v=.slice a (p.n+p.m) c)->After base w0 p W' v->(v.ownBlock=p.v.ownBlock\/v.ownBlock=some W.heap.size)->post v W'): jo Cl Rd post ((execOp a.eval o).run P W):=by
 obtain⟨v',w',hr,h2,h3⟩:=jv (P:=P) W base t o.type p.e i z p.size bytes ht hi hz hsize hby hzs hsz p.v p.n p.xs hown ad p.m c news hl hnews h1 h63 hbytes hbase hm;unfold execOp;simp only[ho,resolve,invoke,builtin,Sem.run_bind,Sem.run_pure,Result.andThen_ok,List.map_toArray,List.map_cons,List.map_nil,hs,hx,hr];show post v' w';have Nk:bX base w0 PL W w':=by
  rcases h3 with⟨g,cap,cur,e1,e2,e3,e4,e5,rfl⟩ | ⟨hb,_⟩
  ·exact bX.room ok hk e1 hown e2 news ry hl e3 e4
  ·exact .below hb
 refine h v' w' Nk (ownsRow_form h2) ⟨⟨news,h2,p.st news _ _ (Nk.keeps.mono fun x hx=>⟨hx.2,fun ⟨q,hq,xj⟩=>?_⟩) ry⟩,?_⟩ ?_
 ·have h5:=ok.2.1 q hq x xj
  have h6:=ok.1 p (aA hk);have:=hx.1;omega
 ·rcases h3 with⟨g,cap,cur,e1,e2,e3,e4,e5,rfl⟩ | ⟨hb,e⟩
  ·left;rw[e5,e1];rfl
  ·right;intro y hy;rw[e]at hy;cases hy;exact hw0
 ·rcases h3 with⟨g,cap,cur,e1,e2,e3,e4,e5,rfl⟩ | ⟨hb,e⟩
  ·left;rw[e5,e1];rfl
  ·right;exact e
end
open Go.Proofs.YtpcmhjbehdgdbaaGreatDoor.RegG (aR)
def qJ.app (base:Nat) (w0:World) (PL:List App) (p:App) (hp:p∈PL):RegG.aR (bX base w0 PL) where
 P:=fun v=>∃ a c,v=.slice a (p.n+p.m) c
 H:=fun _ v W=>After base w0 p W v
 mo:=.slice none (p.n+p.m) 0
 pw:=⟨none,0,rfl⟩
 st:=fun _ v _ _ hm _ h=>hm.new p hp v h
def qJ.vg (base:Nat) (w0:World) (PL:List App) (p:App) (hp:p∈PL):RegG.aR (bX base w0 PL) where
 P:=fun v=>∃ a c,v=.slice a (p.n+p.m) c
 H:=fun y v W=>After base w0 p W v/\(v.ownBlock=p.v.ownBlock\/oJ v y)
 mo:=.slice none (p.n+p.m) 0
 pw:=⟨none,0,rfl⟩
 st:=fun _ v _ _ hm _ h=>⟨hm.new p hp v h.1,h.2⟩
def qJ.rN (base:Nat) (w0:World) (PL:List App) (n:Nat) (cs:Array Value) (t:TypeId):RegG.aR (bX base w0 PL) where
 P:=fun v=>∃ b,v=.slice (some ⟨b,0,none⟩) n n
 H:=fun _ v W=>∀ b,v=.slice (some ⟨b,0,none⟩) n n->(aq W b cs t/\¬ ∃ p∈PL,p.v.ownBlock=some b)
 mo:=.slice (some ⟨0,0,none⟩) n n
 pw:=⟨_,rfl⟩
 st:=fun _ _ _ _ hm _ h b e=>⟨(h b e).1.keeps hm.keeps ⟨(h b e).1.lt,(h b e).2⟩,(h b e).2⟩
def qJ.aaq (base:Nat) (w0:World) (PL:List App) (t:TypeId) (H:World->Value->Prop) (hH:∀ W W' u,bX base w0 PL W W'->H W u->H W' u):RegG.aR (bX base w0 PL) where
 P:=fun v=>∃ b,v=.slice (some ⟨b,0,none⟩) 1 1
 H:=fun _ v W=>∀ b,v=.slice (some ⟨b,0,none⟩) 1 1->(∃ u,aq W b #[u] t/\H W u)/\¬ ∃ p∈PL,p.v.ownBlock=some b
 mo:=.slice (some ⟨0,0,none⟩) 1 1
 pw:=⟨_,rfl⟩
 st:=fun _ _ _ _ hm _ h b e=>by
  obtain⟨⟨u,h1,h2⟩,h3⟩:=h b e;exact⟨⟨u,h1.keeps hm.keeps ⟨h1.lt,h3⟩,hH _ _ u hm h2⟩,h3⟩
def qJ.row (base:Nat) (w0:World) (PL:List App) (ok:kI w0 PL) (lo:Nat) (Fj:w0.heap.size<=lo) (e:TypeId) (size n:Nat) (xs:List Value):RegG.aR (bX base w0 PL) where
 P:=fun v=>∃ a c,v=.slice a n c
 H:=fun _ v W=>W.ownsRow lo e size v n xs
 mo:=.slice none n 0
 pw:=⟨none,0,rfl⟩
 st:=fun A v _ B hm _ h=>au h hm.keeps fun x hx=>⟨(h.lt x hx).2,fun ⟨q,hq,xj⟩=>by have h5:=ok.2.1 q hq x xj;have:=(h.lt x hx).1;omega⟩
theorem kI.fresh {w0:World} {PL:List App} (ok:kI w0 PL) {b:Nat} (h:w0.heap.size<=b):¬ ∃ p∈PL,p.v.ownBlock=some b:=fun ⟨p,hp,e⟩=>by
 have:=ok.2.1 p hp b e;omega
end Go.Proofs.YtpcmhjbehdgdbaaGreatDoor.uE
namespace Go.Proofs.YtpcmhjbehdgdbaaGreatDoor
open Go Go.RowKit Go.Shelf Go.Maps
attribute [local go_sem] encS
def Gq:DF:=⟨[],[],[]⟩
def bM (a b:DF) (op fuel:Int):DF×Int:=
 if(a.right&&b.right)=false then(Gq,182)else if op<1\/4<op then(Gq,190)else if fuel<0\/4000<fuel then(Gq,2)else if fuel=0 then(Gq,181)
 else match fT a b op fuel.toNat with | some d=>(d,0) | none=>(Gq,181)
def kM (l:List (Nat×Nat)):List Value:=l.flatMap fun p=>[.int .i64 p.1,.int .i64 p.2]
theorem Af (l:List (Nat×Nat)) (p:Nat×Nat):kM (l++ [p])=kM l++ [.int .i64 p.1,.int .i64 p.2]:=by simp[kM]
theorem yJ:∀ (l:List (Nat×Nat)) (i:Nat) (p:Nat×Nat),l[i]? =some p->(kM l)[i*2]? =some (.int .i64 p.1)/\(kM l)[i*2+1]? =some (.int .i64 p.2)
 | [],_,_,h=>by simp at h
 | q::l,0,p,h=>by
  simp at h;subst h;exact⟨rfl,rfl⟩
 | q::l,i+1,p,h=>by
  have:=yJ l i p (by simpa using h);rw[show(i+1)*2=i*2+2 by omega];exact⟨by simpa[kM]using this.1,by simpa[kM]using this.2⟩
theorem Wi {w:World} {base n cap:Nat} {ad:Option Addr} {l:List (Nat×Nat)} (h:w.ownsRow base 114 2 (.slice ad n cap) n (kM l)) {i:Nat} {p:Nat×Nat} (hi:l[i]? =some p): ∃ g,ad=some ⟨g,0,none⟩/\w.cell? ⟨g,i*2,none⟩=some (.int .i64 p.1)/\w.cell? ⟨g,i*2+1,none⟩=some (.int .i64 p.2):=by
 have hg:=yJ l i p hi;rcases h.2 with⟨_,e⟩ | ⟨g,c,cur,e,_⟩
 ·have:=h.1
  rw[e]at this;have hl:=(List.getElem?_eq_some_iff.1 hg.1).1;omega
 ·injection e with e1 _ _
  subst e1;have h1:=h.cells (g:=g) rfl _ _ hg.1;have h2:=h.cells (g:=g) rfl _ _ hg.2;refine⟨g,rfl,?_,?_⟩
  ·rw[Addr.add_mid]at h1;simpa using h1
  ·rw[Addr.add_mid]at h2;simpa using h2
theorem Tryz.aar:(Tryz.prog.info? 114).map (fun i=>(i.zero,i.size,i.bytes))=some (some (.agg #[.int .i64 0,.int .i64 0]),2,16):=by kernel_rfl
theorem IQ (base:Nat) (w:World):dM base w (.agg #[.slice none 0 0,.slice none 0 0,.slice none 0 0]) Gq:=⟨_,_,_,rfl,World.ownsRow_nil _ _ _ _,bI.nil _ _,bI.nil _ _⟩
def Ol (w:World) (a:Addr):Nat:=match w.cell? a with | some (.slice _ n _)=>n | _=>0
theorem Dp {w:World} {a:Addr} {s:Option Addr} {n c:Nat} (h:w.cell? a=some (.slice s n c)):Ol w a=n:=by unfold Ol;rw[h]
theorem bI.Om {base bm b2 m:Nat} {w w':World} {v tv:Value} {ll:List (List Int)} {xs:List Value} (h:bI base w v ll) (ht:w.ownsRow b2 114 2 tv m xs) (hk:ae (fun x=>x<w.heap.size/\x≠bm/\tv.ownBlock≠some x) w w') (hbm:bm<base):bI base w' v ll:=by
 obtain⟨us,h1,h2,h3⟩:=h;have key:∀ {e:TypeId} {s n:Nat} {u:Value} {ys:List Value},e≠114->w.ownsRow base e s u n ys->w'.ownsRow base e s u n ys:=fun {e s n u ys} he ho=>
  au ho hk fun x hx=>⟨(ho.lt x hx).2,by have:=(ho.lt x hx).1;omega,fun e2=>by
   rcases ownBlock_ne he ho ht with h5 | h5
   ·rw[h5]at hx;cases hx
   ·exact h5 (by rw[hx,e2])⟩
 exact⟨us,h1,key (by decide) h2,fun i u l hu hl=>key (by decide) (h3 i u l hu hl)⟩
theorem Dq {P:Program} {fn:Func} {R:Ending->World->Prop} {x:Exit} {a:Act} {w:World} (h:∀ W,W=w->bodyPost P fn R x a W):bodyPost P fn R x a w:=h w rfl
section
variable {α:Type} [DecidableEq α]
theorem Dr {fuel:Nat} {st:List α×List Nat} {q:α} (hq:q∉st.1) (hf:st.1.length≠fuel):lB fuel st q=some (st.1++ [q],st.2++ [st.1.length]):=by unfold lB;rw[if_pos (List.idxOf_eq_length hq),if_neg hf]
theorem yK {fuel:Nat} {st:List α×List Nat} {q:α} (hq:q∉st.1) (hf:st.1.length=fuel):lB fuel st q=none:=by unfold lB;rw[if_pos (List.idxOf_eq_length hq),if_pos hf]
theorem Dt {fuel:Nat} {st:List α×List Nat} {q:α} (hq:q∈st.1):lB fuel st q=some (st.1,st.2++ [st.1.idxOf q]):=by unfold lB;rw[if_neg (Nat.ne_of_lt (List.idxOf_lt_length_of_mem hq))]
end
end Go.Proofs.YtpcmhjbehdgdbaaGreatDoor
