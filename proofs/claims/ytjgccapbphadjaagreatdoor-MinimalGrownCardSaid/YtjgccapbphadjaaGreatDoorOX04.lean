/- Automata of positions in plain words, and the automaton of parts. -/
import Derived.Test.YtjgccapbphadjaaGreatDoorOX03
import Derived.Laws.EntriesVeiled
import Derived.Test.YtjgccapbphadjaaGreatDoorRows
set_option maxRecDepth 100000
set_option maxHeartbeats 16000000
open Go.Lib (hid)
open Go.Value renaming slice->An,int->D',pointer->Ft,cells->GO,bool->GW,ownBlock->H',agg->IN
open Option renaming some->As,none->AI
open Go renaming World->AF,TypeId->A_,Program->FF,Ending->F_,FuncId->IF
open List renaming all_eq_true->AM,mem_range->AS,getElem?_eq_some_iff->AT,range->A',replicate->Bs,getElem?_of_mem->By,getElem?_replicate->Cd,all_eq_false->C_,getElem?_range->DE,pairwise_iff_getElem->DQ,ext_getElem?->DS,idxOf_eq_length->E_,mem_filter->G',take_left->H_,mem_cons->If,mem_map->Is
open Bool renaming and_eq_true->AN,false->Bm,true->DP,and_false->EV,or_eq_true->G_
open Nat renaming add_sub_cancel->B_,le_trans->D_,le_of_not_lt->GB,add_mul->GS,mul_one->It,mod_one->Iv
open Go.Lib renaming hid->B'
open Go.Ending renaming returned->C'
open Array renaming toList_range->DH,toList_map->D0,length_toList->FG
namespace Go.Proofs.YtjgccapbphadjaaGreatDoor
section
open Go Go.RowKit Go.Shelf Go.Maps
theorem oh {d:DF} {s:Nat} (hs:s<d.nx.length) (h:d.iQ s=Bm):d.right=false:=by
 unfold DF.right;have:(A' d.nx.length).all d.iQ=false:=by
  rw[C_];exact⟨s,by simpa using hs,by rw[h];decide⟩
 rw[this,EV]
theorem Lq {d:DF} (h1:1<=d.nx.length) (h2:d.nx.length<=4000) (h3:d.mr.length=d.nx.length) (h4:(partsOf d.cl==d.cl)=DP) (h:∀ s,s<d.nx.length->d.iQ s=DP):d.right=true:=by
 unfold DF.right;have:(A' d.nx.length).all d.iQ=true:=by
  rw[AM];intro s hs;exact h s (by simpa using hs)
 rw[this,decide_eq_true h1,decide_eq_true h2,decide_eq_true h3,h4];rfl
theorem qU {d:DF} (h:d.nx.length<1\/4000<d.nx.length\/d.mr.length≠d.nx.length\/(partsOf d.cl==d.cl)=Bm):d.right=false:=by
 unfold DF.right;rcases h with h | h | h | h
 ·rw[show decide (1<=d.nx.length)=Bm from decide_eq_false (by omega)];simp
 ·rw[show decide (d.nx.length<=4000)=Bm from decide_eq_false (by omega)];simp
 ·rw[show decide (d.mr.length=d.nx.length)=Bm from decide_eq_false h];simp
 ·rw[h];simp
theorem Ui {d:DF} {s:Nat} (h:(d.nx.getD s []).length≠d.cl.length):d.iQ s=false:=by unfold DF.iQ;rw[show decide ((d.nx.getD s []).length=d.cl.length)=Bm from decide_eq_false h];simp
theorem Uj {d:DF} {s:Nat} (h:(d.nx.getD s []).any (fun x=> !Tg d.nx.length x)=DP):d.iQ s=false:=by
 unfold DF.iQ;have:(d.nx.getD s []).all (Tg d.nx.length)=false:=by
  rw[C_];obtain⟨x,hx,hn⟩:=List.any_eq_true.1 h;exact⟨x,hx,by simpa using hn⟩
 rw[this];simp
theorem JF {d:DF} {s:Nat} (h:qQ (d.mr.getD s [])=Bm):d.iQ s=false:=by unfold DF.iQ;rw[h,EV]
theorem Uk {d:DF} {s:Nat} (h1:(d.nx.getD s []).length=d.cl.length) (h2:(d.nx.getD s []).any (fun x=> !Tg d.nx.length x)=Bm) (h3:qQ (d.mr.getD s [])=DP):d.iQ s=true:=by
 unfold DF.iQ;have:(d.nx.getD s []).all (Tg d.nx.length)=true:=by
  rw[AM];intro x hx;have:=List.any_eq_false.1 h2 x hx;simpa using this
 rw[this,h3,decide_eq_true h1];rfl
theorem Po {l:List Int} {k:Nat} (hk:k<l.length) (h:td l k=Bm):qQ l=false:=by unfold qQ;rw[C_];exact⟨k,by simpa using hk,by rw[h];decide⟩
theorem Ul {l:List Int} (h:∀ k,k<l.length->td l k=DP):qQ l=true:=by unfold qQ;rw[AM];intro k hk;exact h k (by simpa using hk)
theorem Pp {l:List Int} {k:Nat} {x:Int} (hx:l[k]? =As x):td l k=(decide (mZ l k<x)&&decide (x<=255)):=by unfold td;rw[getD_some hx]
theorem DD {l:List Int} {k:Nat} {x:Int} (hx:l[k]? =As x):mZ l (k+1)=x:=by unfold mZ;rw[if_neg (by omega),B_,getD_some hx]
def aU.row (base:Nat) (e:A_) (size n:Nat) (xs:List Value):aU (Move Bm (fun _=>False)) where
 P:=fun v=>∃ a c,v=An a n c
 H:=fun v W=>W.ownsRow base e size v n xs
 nU:=An AI n 0
 pw:=⟨AI,0,rfl⟩
 st:=fun _ _ _ hm _ h=>ai h hm.below
theorem G6 (v:Value) (d:DF) (w:AF) (h:VX w v d) (sm:Sm d): ah 16 #[v] w fun e w'=>e=C' (GW d.right)/\aa w w':=by
 obtain⟨v0,v1,v2,rfl,h0,h1,h2⟩:=h;obtain⟨a0,c0,rfl⟩:=h0.1.form;obtain⟨a1,c1,rfl⟩:=h1.form;obtain⟨a2,c2,rfl⟩:=h2.form;obtain⟨n0,bX⟩:=ag d.cl.length;obtain⟨n1,cM⟩:=ag d.nx.length;obtain⟨n2,dP⟩:=ag d.mr.length;obtain⟨r,hr⟩:=ag d.right;obtain⟨q,hq⟩:=ag ((partsOf d.cl==d.cl));have l0:=sm.cl;have l1:=sm.nx;have l2:=sm.mr;rw[<-bX]at h0 l0 ⊢;rw[<-cM]at h1 l1 ⊢;rw[<-dP]at h2 l2 ⊢;rw[<-hr];have pS:=B' bX;have gS:=B' cM;have pO:=B' dP;have HR:=B' hr;have HQ:=B' hq;have H0:=B' h0;have H1:=B' h1;have H2:=B' h2;have SM:=B' sm;obtain⟨pl,hpl⟩:=ag (partsOf d.cl);have CP:Hid (∀ W,cU W (An a0 n0 c0) d.cl->ah 64 #[An a0 n0 c0] W fun e w'=>∃ v,e=C' v/\w'.ownsRow W.heap.size 56 4 v pl.length (aL pl)/\aa W w'):=fun W h=>by rw[hpl];exact yN d.cl _ W h (by have:=SM.cl;omega)
 have CE:Hid (∀ W u,cU W u pl->cU W (An a0 n0 c0) d.cl->ah 63 #[u,An a0 n0 c0] W fun e w'=>e=C' (GW q)/\Ext W w'):=fun W u h k=>by
  rw[hq];rw[hpl]at h;exact G5 _ _ _ _ W h k (by rw[(eZ d.cl).length_eq];have:=eo d.cl;omega)
 clear h0 h1 h2 bX cM dP hr hq sm hpl;go_enter Tryz.func16,Tryz.ntmps16;go_wp2;refine aw ?_;intro V hV;have hB1:ar V w.heap.size #[An a0 n0 c0,An a1 n1 c1,An a2 n2 c2] 29:=by rw[hV];exact(ar.new w _ _).alloc _
 have hB2:ar V (w.heap.size+1) #[D' .i64 n1] 3:=by rw[hV];exact(ar.new (w.alloc _) _ _).at (by simp)
 have hx:aa w V:=by rw[hV];exact(((Ext.refl w).alloc _).alloc _).below
 have mC:=B' hB1;have gR:=B' hB2;have HX:=B' hx;clear hV hB1 hB2 hx;by_cases q1:n1<1
 ·have d1:decide ((n1:Int)<1)=true:=decide_eq_true (by omega)
  have d1':decide (n1<1)=true:=decide_eq_true q1;refine aI Bm (fun _=>False) (by kernel_rfl) 22 [0,1,3,7,15,31,63,127,255,511,127,2047,4095,8191,16383,32767,65535,16383,147455,524287,1048575,2097151] (fun i=>i==16 || i==19) (by kernel_rfl) (fun i=>if i=16 then aU.row w.heap.size 56 4 pl.length (aL pl)else if i=19 then aU.Cm _ (GW q)else aU.any _) ?_;intro C hC hne;have HC:=B' hC;have f0:=aD hC (p:=⟨w.heap.size,0,AI⟩) (by have:=mC.lt;exact this) (fun h=>h) (mC.cell 0);have f2:=aD hC (p:=⟨w.heap.size,2,AI⟩) (by have:=mC.lt;exact this) (fun h=>h) (mC.cell 2);have f3:=aD hC (p:=⟨w.heap.size+1,0,AI⟩) (by have:=gR.lt;exact this) (fun h=>h) (gR.cell 0);clear hC
  repeat (refine au (fun K hK=>?_);first | (refine bL rfl ?_;try go_simp;refine hK _ _ ?_;clear hK K) | (refine bJ rfl rfl ?_;unfold az;go_simp;refine hK _ _ ?_;clear hK K))
  refine bC (fun W hW hH=>?_);have hM:=(HC.out W).1 hW;have iz:=B' (HR.trans (qU (.inl (by rw[<-gS.out];exact q1))));clear hW hH f0 f2 f3;go_wp2;go_ret;exact⟨by rw[iz.out];rfl,HX.trans (hM.below.mono HX.size)⟩
 ·have d1:decide ((n1:Int)<1)=false:=decide_eq_false (by omega)
  have d1':decide (n1<1)=false:=decide_eq_false q1;by_cases q2:4000<n1
  ·have d2:decide ((4000:Int)<n1)=true:=decide_eq_true (by omega)
   have d2':decide (4000<n1)=true:=decide_eq_true q2;refine aI Bm (fun _=>False) (by kernel_rfl) 22 [0,1,3,7,15,31,63,127,255,511,127,2047,4095,8191,16383,32767,65535,16383,147455,524287,1048575,2097151] (fun i=>i==16 || i==19) (by kernel_rfl) (fun i=>if i=16 then aU.row w.heap.size 56 4 pl.length (aL pl)else if i=19 then aU.Cm _ (GW q)else aU.any _) ?_;intro C hC hne;have HC:=B' hC;have f0:=aD hC (p:=⟨w.heap.size,0,AI⟩) (by have:=mC.lt;exact this) (fun h=>h) (mC.cell 0);have f2:=aD hC (p:=⟨w.heap.size,2,AI⟩) (by have:=mC.lt;exact this) (fun h=>h) (mC.cell 2);have f3:=aD hC (p:=⟨w.heap.size+1,0,AI⟩) (by have:=gR.lt;exact this) (fun h=>h) (gR.cell 0);clear hC
   repeat (refine au (fun K hK=>?_);first | (refine bL rfl ?_;try go_simp;refine hK _ _ ?_;clear hK K) | (refine bJ rfl rfl ?_;unfold az;go_simp;refine hK _ _ ?_;clear hK K))
   refine bC (fun W hW hH=>?_);have hM:=(HC.out W).1 hW;have iz:=B' (HR.trans (qU (.inr (.inl (by rw[<-gS.out];exact q2)))));clear hW hH f0 f2 f3;go_wp2;go_ret;exact⟨by rw[iz.out];rfl,HX.trans (hM.below.mono HX.size)⟩
  ·have d2:decide ((4000:Int)<n1)=false:=decide_eq_false (by omega)
   have d2':decide (4000<n1)=false:=decide_eq_false q2;by_cases q3:n2=n1
   ·obtain rfl:n1=n2:=q3.symm
    clear q3;refine aI Bm (fun _=>False) (by kernel_rfl) 22 [0,1,3,7,15,31,63,127,255,511,127,2047,4095,8191,16383,32767,65535,16383,147455,524287,1048575,2097151] (fun i=>i==16 || i==19) (by kernel_rfl) (fun i=>if i=16 then aU.row w.heap.size 56 4 pl.length (aL pl)else if i=19 then aU.Cm _ (GW q)else aU.any _) ?_;intro C hC hne;have HC:=B' hC;have f0:=aD hC (p:=⟨w.heap.size,0,AI⟩) (by have:=mC.lt;exact this) (fun h=>h) (mC.cell 0);have f2:=aD hC (p:=⟨w.heap.size,2,AI⟩) (by have:=mC.lt;exact this) (fun h=>h) (mC.cell 2);have f3:=aD hC (p:=⟨w.heap.size+1,0,AI⟩) (by have:=gR.lt;exact this) (fun h=>h) (gR.cell 0);clear hC
    repeat (refine au (fun K hK=>?_);first | (refine bL rfl ?_;try go_simp;refine hK _ _ ?_;clear hK K) | (refine bJ rfl rfl ?_;unfold az;go_simp;refine hK _ _ ?_;clear hK K))
    refine au (fun K hK=>?_);refine bS rfl rfl (aU.row w.heap.size 56 4 pl.length (aL pl)) rfl (fun W hW hN=>?_) (fun v hv=>?_)
    ·have hM:=(HC.out W).1 hW
     clear hW;go_simp;refine bA ((CP _ ((H0.1.below HX).below hM.below)).mono ?_);rintro e w2 ⟨vp,rfl,ho,hx⟩;exact⟨_,rfl,Move.aj hx,ownsRow_form ho,aC ho (D_ HX.size hM.size)⟩
    obtain⟨ap,cp,rfl⟩:=hv;go_simp;refine hK _ _ ?_;clear hK K
    repeat (refine au (fun K hK=>?_);first | (refine bL rfl ?_;try go_simp;refine hK _ _ ?_;clear hK K) | (refine bJ rfl rfl ?_;unfold az;go_simp;refine hK _ _ ?_;clear hK K))
    refine au (fun K hK=>?_);refine bS rfl rfl (aU.Cm _ (GW q)) rfl (fun W hW hN=>?_) (fun v hv=>?_)
    ·have hM:=(HC.out W).1 hW
     clear hW;go_simp;refine bA ((CE _ _ (je (hN.at 0 rfl (by kernel_rfl))) ((H0.1.below HX).below hM.below)).mono ?_);rintro e w2 ⟨rfl,hx⟩;exact⟨_,rfl,Move.Xn hx,rfl,trivial⟩
    replace hv:v=_:=hv;subst hv;go_simp;refine hK _ _ ?_;clear hK K
    repeat (refine au (fun K hK=>?_);first | (refine bL rfl ?_;try go_simp;refine hK _ _ ?_;clear hK K) | (refine bJ rfl rfl ?_;unfold az;go_simp;refine hK _ _ ?_;clear hK K))
    refine bC (fun W hW hH=>?_);have hM:=(HC.out W).1 hW;have XB1:=B' (mC.below hM.below mC.lt);have Yh:=B' (gR.below hM.below gR.lt);have XX:=B' (HX.trans (hM.below.mono HX.size));clear hM hW hH f0 f2 f3 HC mC gR HX CP CE d1 d1' d2 d2';cases q with
    | false=>
     have iz:=B' (HR.trans (qU (.inr (.inr (.inr HQ.symm)))));go_wp2;go_ret;exact⟨by rw[iz.out];rfl,XX⟩
    | true=>
     have b0:=XB1.cell 0;have b1:=XB1.cell 1;have b2:=XB1.cell 2;have b3:=Yh.cell 0;simp only[List.getElem?_toArray,List.getElem?_cons_zero,List.getElem?_cons_succ]at b0 b1 b2 b3;have H1':=B' (H1.below XX);have H2':=B' (H2.below XX);clear H1 H2 H0;go_wp2
     go_loop [37] (fun i=>∃ s:Nat,s<=n1/\i=D' .i64 s/\∀ j,j<s->d.iQ j=DP) (fun i=>n1-(intOf i).toNat)
     case atStart=>exact⟨0,by omega,rfl,fun j hj=>by omega⟩
     case round=>
      obtain⟨s,hs,rfl,ha⟩:=hrel;have HA:=B' ha;clear ha;by_cases hlt:s<n1
      ·obtain⟨l,hl⟩:∃ l,d.nx[s]? =As l:=⟨_,aB (by have:=gS.out;omega)⟩
       obtain⟨m,hm⟩:∃ m,d.mr[s]? =As m:=⟨_,aB (by have:=pO.out;omega)⟩;obtain⟨g1,o1,e1,k1,rfl,hg1,x1,y1⟩:=H1'.elem hl;obtain⟨g2,o2,e2,k2,rfl,hg2,x2,y2⟩:=H2'.elem hm;have gl:=getD_some (d:=([]:List Int)) hl;have gm:=getD_some (d:=([]:List Int)) hm;have ll:=SM.xG l (ax hl);have lm:=SM.Ug m (ax hm);have hs1:s<d.nx.length:=by have:=gS.out;omega
       have Hs1:=B' hs1;have ed:(s:Int)<n1:=by omega
       obtain⟨j,hj⟩:=ag l.length;obtain⟨k,hk⟩:=ag m.length;rw[<-hj]at x1 y1 ll;rw[<-hk]at x2 y2 lm;have HJ:=B' hj;have HK:=B' hk;have GL:=B' gl;have GM:=B' gm;have Y1:=B' y1;have Y2:=B' y2;clear hl hm hj hk gl gm y1 y2 hs1;by_cases Yi:j=n0
       ·subst Yi
        obtain⟨z,hz⟩:=ag (l.any (fun x=> !Tg n1 x))
        have CC:Hid (ah 65 #[An e1 j k1,.func (.func 66) #[] #[Ft (As ⟨w.heap.size+1,0,AI⟩)]] W fun e w'=>e=C' (GW z)/\w'=W):=B' (by
         rw[hz]
         exact qT _ _ (fun x=> !Tg n1 x) _ l W Y1 (by rw[<-HJ.out];exact ll) Lp (fun x W' Ll=>GX x n1 _ W' ((Yh.below Ll Yh.lt).cell 0)))
        have HZ:=B' hz;clear hz;cases z with
        | true=>
         have iz:=B' (HR.trans (oh Hs1 (Uj (by rw[GL.out, <-gS.out];exact HZ.symm))));go_wp2_with fail
         refine(CC).mono ?_;rintro e w' ⟨rfl,hw⟩;replace hw:=hw.symm;subst hw;go_wp2;go_ret;exact⟨by rw[iz.out];rfl,XX⟩
        | false=>
         go_wp2_with fail
         refine(CC).mono ?_;rintro e w' ⟨rfl,hw⟩;replace hw:=hw.symm;subst hw;go_wp2
         go_loop [59,6] (fun i p=>∃ c:Nat,c<=k/\i=D' .i64 c/\p=D' .i64 (mZ m c)/\∀ i,i<c->td m i=DP) (fun i _=>k-(intOf i).toNat)
         case atStart=>exact⟨0,by omega,rfl,rfl,fun i hi=>by omega⟩
         case round=>
          obtain⟨c,hc,rfl,rfl,hc2⟩:=hrel;have Tj:=B' hc2;clear hc2;by_cases Yj:c<k
          ·obtain⟨x,hx⟩:∃ x,m[c]? =As x:=⟨_,aB (by have:=HK.out;omega)⟩
           obtain⟨g3,o3,rfl,hg3,x3⟩:=Y2.elem hx;have x3':W.cell? ⟨g3,o3+c,AI⟩=As (D' .i64 x):=x3;have hci:(c:Int)<k:=by omega
           have VY:=B' (Pp hx);have HPS:=B' (DD hx);have HXM:=B' hx;clear hx x3;generalize mZ m c=pv at VY ⊢;by_cases h1:x<=pv
           ·have d1:decide (x<=pv)=true:=decide_eq_true h1
            have iz:=B' (HR.trans (oh Hs1 (JF (by rw[GM.out];exact Po (by rw[<-HK.out];exact Yj) (by rw[VY.out,show decide (pv<x)=Bm from decide_eq_false (by omega)];rfl)))));go_wp2;go_ret;exact⟨by rw[iz.out];rfl,XX⟩
           ·have d1:decide (x<=pv)=false:=decide_eq_false h1
            by_cases h2:255<x
            ·have d2:decide (255<x)=true:=decide_eq_true h2
             have iz:=B' (HR.trans (oh Hs1 (JF (by rw[GM.out];exact Po (by rw[<-HK.out];exact Yj) (by rw[VY.out,show decide (x<=255)=Bm from decide_eq_false (by omega),EV])))));go_wp2;go_ret;exact⟨by rw[iz.out];rfl,XX⟩
            ·have d2:decide (255<x)=false:=decide_eq_false h2
             go_wp2
             go_round
             case rel=>exact⟨c+1,by omega,by go_num,by rw[HPS.out],fun i hi=>by
              by_cases e:i=c
              ·subst e;rw[VY.out,decide_eq_true (show pv<x by omega),decide_eq_true (show x<=255 by omega)];rfl
              ·exact Tj i (by omega)⟩
             case measure=>simp[intOf];omega
          ·obtain rfl:c=k:=by omega
           go_wp2
           go_round
           case rel=>
            have hrow:∀ j',j'<s+1->d.iQ j'=true:=fun j' hj'=>by
             by_cases e:j'=s
             ·rw[e]
              exact Uk (by rw[GL.out, <-HJ.out];exact pS) (by rw[GL.out, <-gS.out];exact HZ.symm) (by rw[GM.out];exact Ul fun i hi=>Tj i (by rw[HK.out];exact hi))
             ·exact HA j' (by omega)
            exact⟨_,_,_,_,_,_,⟨s+1,by omega,by go_num,hrow⟩,rfl,rfl,rfl,rfl,rfl,rfl⟩
           case measure=>simp[intOf];omega
       ·have d3:((j:Int)==(n0:Int))=false:=by rw[beq_eq_false_iff_ne];omega
        have d3':((j:Int) != (n0:Int))=true:=by simp;omega
        have agw:(j==n0)=false:=by rw[beq_eq_false_iff_ne];exact Yi
        have iz:=B' (HR.trans (oh Hs1 (Ui (by rw[GL.out, <-HJ.out, <-pS.out];exact Yi))));go_wp2;go_ret;exact⟨by rw[iz.out];rfl,XX⟩
      ·obtain rfl:s=n1:=by omega
       have iz:=B' (HR.trans (Lq (by rw[<-gS.out];omega) (by rw[<-gS.out];omega) (by rw[<-gS.out, <-pO.out]) HQ.symm (fun j hj=>HA j (by rw[gS.out];exact hj))));go_wp2;go_ret;exact⟨by rw[iz.out];rfl,XX⟩
   ·have d3:((n2:Int)==(n1:Int))=false:=by rw[beq_eq_false_iff_ne];omega
    have d3':((n2:Int) != (n1:Int))=true:=by simp;omega
    have agw:(n2==n1)=false:=by rw[beq_eq_false_iff_ne];exact q3
    refine aI Bm (fun _=>False) (by kernel_rfl) 22 [0,1,3,7,15,31,63,127,255,511,127,2047,4095,8191,16383,32767,65535,16383,147455,524287,1048575,2097151] (fun i=>i==16 || i==19) (by kernel_rfl) (fun i=>if i=16 then aU.row w.heap.size 56 4 pl.length (aL pl)else if i=19 then aU.Cm _ (GW q)else aU.any _) ?_;intro C hC hne;have HC:=B' hC;have f0:=aD hC (p:=⟨w.heap.size,0,AI⟩) (by have:=mC.lt;exact this) (fun h=>h) (mC.cell 0);have f2:=aD hC (p:=⟨w.heap.size,2,AI⟩) (by have:=mC.lt;exact this) (fun h=>h) (mC.cell 2);have f3:=aD hC (p:=⟨w.heap.size+1,0,AI⟩) (by have:=gR.lt;exact this) (fun h=>h) (gR.cell 0);clear hC
    repeat (refine au (fun K hK=>?_);first | (refine bL rfl ?_;try go_simp;refine hK _ _ ?_;clear hK K) | (refine bJ rfl rfl ?_;unfold az;go_simp;refine hK _ _ ?_;clear hK K))
    refine bC (fun W hW hH=>?_);have hM:=(HC.out W).1 hW;have iz:=B' (HR.trans (qU (.inr (.inr (.inl (by rw[<-gS.out, <-pO.out];exact q3))))));clear hW hH f0 f2 f3;go_wp2;go_ret;exact⟨by rw[iz.out];rfl,HX.trans (hM.below.mono HX.size)⟩
theorem r9 (v:Value) (d:DF) (w:AF) (h:bV w v d) (sm:Sm d): ah 16 #[v] w fun e w'=>e=C' (GW d.right)/\aa w w':=G6 v d w h.e sm
def aU.oll (base:Nat) (ll:List (List Int)):aU (Move Bm (fun _=>False)) where
 P:=fun v=>∃ a c,v=An a ll.length c
 H:=fun v W=>aS base W v ll
 nU:=An AI ll.length 0
 pw:=⟨AI,0,rfl⟩
 st:=fun _ _ _ hm _ h=>h.below hm.below
theorem ar.three {w:AF} {b:Nat} {x y z:Value} {t:A_} (h:ar w b #[x,y,z] t):(w.cell? ⟨b,0,AI⟩=As x/\w.cell? ⟨b,1,AI⟩=As y/\w.cell? ⟨b,2,AI⟩=As z)/\w.frozen? ⟨b,0,AI⟩=Bm/\w.frozen? ⟨b,1,AI⟩=Bm/\w.frozen? ⟨b,2,AI⟩=false:=
 ⟨⟨h.cell 0,h.cell 1,h.cell 2⟩,h.frozen 0,h.frozen 1,h.frozen 2⟩
theorem ar.vy {w:AF} {b:Nat} {x y z x' y' z':Value} {t:A_} (h:ar w b #[x,y,z] t):ar (((w.setCell ⟨b,0,AI⟩ x').setCell ⟨b,1,AI⟩ y').setCell ⟨b,2,AI⟩ z') b #[x',y',z'] t:=((h.set 0 x').set 1 y').set 2 z'
theorem il {w W:AF} {n b:Nat} {x y z:Value} (h:Below n w W) (hb:n<=b):Below n w (((W.setCell ⟨b,0,AI⟩ x).setCell ⟨b,1,AI⟩ y).setCell ⟨b,2,AI⟩ z):=
 ((h.setCell (by simpa using hb) _).setCell (by simpa using hb) _).setCell (by simpa using hb) _
theorem DG {P:FF} {Cl:IF->Array Value->AF->(F_->AF->Prop)->Prop} {Rd:Nat->IF->Array Value->Code->Code->AF->(F_->AF->Prop)->Prop} {o:Oper} {a:Act} {W:AF} {post:Value->AF->Prop} (t e:A_) (x:Operand) (ho:o.op=.buildSlice t 1 #[(0,x)]) {i:TypeInfo} {z:Value} {m:Nat} (ht:P.underlying t=As (.slice e)) (hi:P.info? e=As i) (hz:i.zero=As z) (hsz:i.size=m) (hm:0<m) (mE:m<=16777216) (cs:Array Value) (hx:a.eval x=IN cs) (hc:cs.size=m) (h:post (An (As ⟨W.heap.size,0,AI⟩) 1 1) (W.alloc (.cells cs e))):jB Cl Rd post ((execOp a.eval o).run P W):=by
 unfold execOp;have e1:(#[((0:Nat),x)].map fun p=>(p.1,a.eval p.2))= #[(0,IN cs)]:=by rw[<-hx];simp
 simp only[ho,Sem.run_bind,e1,pP ht hi hz hsz hm mE cs hc W,Result.andThen_ok,Sem.run_pure];exact h
def aU.JG (base n:Nat) (xs:List Value):aU (Move Bm (fun _=>False)) where
 P:=fun v=>∃ b,v=An (As ⟨b,0,AI⟩) 1 1
 H:=fun v W=>∀ b,v=An (As ⟨b,0,AI⟩) 1 1->∃ u,ar W b #[u] 39/\W.ownsRow base 3 1 u n xs
 nU:=An (As ⟨0,0,AI⟩) 1 1
 pw:=⟨0,rfl⟩
 st:=fun _ _ _ hm _ h b hb=>by
  obtain⟨u,h1,h2⟩:=h b hb;exact⟨u,h1.below hm.below h1.lt,ai h2 hm.below⟩
theorem ar.VZ {w:AF} {b:Nat} {u:Value} {t:A_} (h:ar w b #[u] t):∀ j x,[u][j]? =As x->w.cell? ((⟨b,0,AI⟩:Addr).add j)=As x:=cC h
theorem s7.own {w:AF} {base n:Nat} {e:A_} {v:Value} {xs:List Value} (h:w.ownsRow base e 1 v n xs):s7 w v n xs:=by
 rcases h.2 with⟨rfl,rfl⟩ | ⟨g,c,cur,rfl,_⟩
 ·exact .inl ⟨rfl,rfl,by have:=h.1;simpa using this⟩
 ·exact .inr ⟨_,c,rfl,h.cells rfl⟩
theorem om (n:Nat):(madeCells (D' .i64 0).cells (n*1)).toList=(Bs n (0:Int)).map aG:=by
 apply DS;intro k;simp only[madeCells,GO,It,D0,DH,List.map_replicate,aN,Cd];by_cases h:k<n
 ·rw[DE h,if_pos h];simp[aG,Iv]
 ·rw[aT (by simpa using h),if_neg h];rfl
theorem G7 (n:Nat):(madeCells (An AI 0 0).cells (n*1)).toList=Bs n (An AI 0 0):=by
 apply DS;intro k;simp only[madeCells,GO,It,D0,DH,aN,Cd];by_cases h:k<n
 ·rw[DE h,if_pos h];simp[Iv]
 ·rw[aT (by simpa using GB h),if_neg h];rfl
theorem th:∀ n,aL (Bs n 0)=Bs (n*4) (D' .u64 0)
 | 0=>rfl
 | n+1=>by
  rw[List.replicate_succ];show(encS 0).toList++aL (Bs n 0)=_;rw[th n,show(n+1)*4=4+n*4 by omega, <-List.replicate_append_replicate];rfl
theorem G8 (n:Nat):(madeCells (IN #[D' .u64 0,D' .u64 0,D' .u64 0,D' .u64 0]).cells (n*4)).toList=aL (Bs n 0):=by
 rw[th];apply DS;intro k;simp only[madeCells,GO,D0,DH,aN,Cd];by_cases h:k<n*4
 ·rw[DE h,if_pos h]
  have h4:k%4=0\/k%4=1\/k%4=2\/k%4=3:=by omega
  rcases h4 with e | e | e | e<;>simp[e]
 ·rw[aT (by simpa using GB h),if_neg h];rfl
theorem eE {w:AF} {base n cap:Nat} {e:A_} {ad:Option Addr} {xs:List Value} (h:w.ownsRow base e 1 (An ad n cap) n xs) {i:Nat} (hi:i<n):∃ g u,ad=As ⟨g,0,AI⟩/\base<=g/\g<w.heap.size/\xs[i]? =As u/\w.cell? ⟨g,i,AI⟩=As u/\w.frozen? ⟨g,i,AI⟩=false:=by
 have hl:=h.1;have hu:xs[i]? =As (xs[i]'(by omega)):=aB (by omega);obtain⟨a,c,e1⟩:=ownsRow_form h;rcases h.2 with⟨_,e2⟩ | ⟨g,c',cur,e2,_⟩
 ·omega
 ·injection e2 with e2 _ _
  subst e2;have hlt:=h.lt g rfl;exact⟨g,_,rfl,hlt.1,hlt.2,hu,by have:=h.cells (g:=g) rfl _ _ hu;rw[Addr.add_mid]at this;simpa using this,h.frozenAt _⟩
attribute [local go_sem] encS
theorem vz {l:List BS} {k:Nat} (hk:k<(partsOf l).length):leastOf (partsOf l) k=(lb (partsOf l) k,DP):=by have h1:=bn (l:=partsOf l) 0 hk;have h2:=eh (ik l (ax h1));unfold leastOf;rw[rZ,h1];show aV _=_;unfold lb;rw[show aV ((partsOf l).getD k 0)=((aV ((partsOf l).getD k 0)).1,(aV ((partsOf l).getD k 0)).2) from rfl,h2.1]
def aU.Um (base:Nat) (p:List BS):aU (Move Bm (fun _=>False)) where
 P:=fun v=>∃ b,v=Ft (As ⟨b,0,AI⟩)
 H:=fun v W=>cQ W base v p
 nU:=Ft (As ⟨0,0,AI⟩)
 pw:=⟨0,rfl⟩
 st:=fun _ _ _ hm _ h=>h.below hm.below
theorem aQ {P:FF} {fn:Func} {R:F_->AF->Prop} {x:Exit} {a:Act} {w:AF} (h:∀ W,W=w->bodyPost P fn R x a W):bodyPost P fn R x a w:=h w rfl
theorem ar.qV {w:AF} {b:Nat} {c:Array Value} {t:A_} (h:ar w b c t) (k:Nat) (v:Value) {c':Array Value} (e:c.setIfInBounds k v=c'):ar (w.setCell ⟨b,k,AI⟩ v) b c' t:=e▸h.set k v
theorem oN.symm {v y:Value} (h:oN v y):oN y v:=by
 unfold oN at*;by_cases e:y.ownBlock=AI
 ·exact .inl e
 ·right
  rcases h with h | h
  ·intro h';exact e (h'.trans h)
  ·exact fun h'=>h h'.symm
end
section
open Go Go.RowKit Go.Shelf Go.Maps
open Go.WideMaps (KeyLaw)
open Go.ChangeMaps (setBlock heap_setBlock_same)
def ei (p:Nat×Nat):Value:=IN #[D' .i64 p.1,D' .i64 p.2]
theorem yY {p q:Nat×Nat} (h:ei p=ei q):p=q:=by
 unfold ei at h;injection h with h
 have h1:=congrArg (fun a:Array Value=>a.toList) h;simp at h1;exact Prod.ext (by omega) (by omega)
theorem Tryz.Pq:Tryz.prog.cellsOf 3=1:=by kernel_rfl
theorem Tryz.Pr:∃ n,Tryz.prog.types.size=n+1:=⟨Tryz.prog.types.size-1,by have:=of_decide_eq_true (show decide (0<Tryz.prog.types.size)=DP by kernel_rfl);omega⟩
theorem Yk (n:Nat) (x:Nat) (hx:x<=4000):Tryz.prog.keyLits (n+1) 3 [D' .i64 x]=As [.int .i64 x]:=by unfold Program.keyLits;rw[Tryz.underlying3];have:(Lit.int .i64 (x:Int)).wf=true:=WalkArith.wf_i64 (by omega);simp[this]
end
end Go.Proofs.YtjgccapbphadjaaGreatDoor
namespace Go.Proofs.YtjgccapbphadjaaGreatDoor.gW
open Go Go.RowKit Go.Proofs.YtjgccapbphadjaaGreatDoor
structure App where
 e:A_
 size:Nat
 v:Value
 n:Nat
 xs:List Value
 m:Nat
 lo:Nat
 ok:List Value->AF->Prop
 st:∀ ns A B,ae (fun x=>lo<=x/\x<A.heap.size) A B->ok ns A->ok ns B
def After (base:Nat) (w0:AF) (p:App) (W:AF) (v:Value):Prop:=
 (∃ ns,W.ownsRow base p.e p.size v (p.n+p.m) (p.xs++ns)/\p.ok ns W)/\(v.ownBlock=p.v.ownBlock\/∀ x,v.ownBlock=As x->w0.heap.size<=x)
structure bR (base:Nat) (w0:AF) (PL:List App) (A B:AF):Prop where
 keeps:ae (fun x=>x<A.heap.size/\¬ ∃ p∈PL,p.v.ownBlock=As x) A B
 old:∀ p∈PL,A.ownsRow base p.e p.size p.v p.n p.xs->B.ownsRow base p.e p.size p.v p.n p.xs
 new:∀ p∈PL,∀ v,After base w0 p A v->After base w0 p B v
section
variable {base:Nat} {w0:AF} {PL:List App} {A B C:AF}
theorem bR.trans (h:bR base w0 PL A B) (k:bR base w0 PL B C):bR base w0 PL A C:=
 ⟨h.keeps.trans k.keeps fun _ hx=>⟨ay hx.1 h.keeps.size,hx.2⟩,fun p hp ho=>k.old p hp (h.old p hp ho),fun p hp v hv=>k.new p hp v (h.new p hp v hv)⟩
theorem bR.below (h:aa A B):bR base w0 PL A B:=
 ⟨ae.aj h fun _ hx=>hx.1,fun _ _ ho=>ownsRow_keepsA ho h,fun p _ _ ⟨⟨ns,h1,h2⟩,h3⟩=>⟨⟨ns,ownsRow_keepsA h1 h,p.st ns _ _ (ae.aj h fun _ hx=>hx.2) h2⟩,h3⟩⟩
where
 ownsRow_keepsA {W W':AF} {b:Nat} {e:A_} {size:Nat} {v:Value} {n:Nat} {xs:List Value} (h:W.ownsRow b e size v n xs) (hk:aa W W'):W'.ownsRow b e size v n xs:=
  ak h (ae.aj hk (R:=(· <W.heap.size)) fun _ h=>h) fun k e=>(h.lt k e).2
theorem bR.drew:bR base w0 PL A A.drew:=.below (Ext.refl A).drew.below
theorem bR.size (h:bR base w0 PL A B):A.heap.size<=B.heap.size:=h.keeps.size
def kj (w0:AF) (PL:List App):Prop:=(∀ p∈PL,w0.heap.size<=p.lo)/\(∀ p∈PL,∀ x,p.v.ownBlock=As x->x<w0.heap.size)/\∀ (i j:Nat) (p q:App),PL[i]? =As p->PL[j]? =As q->i≠j->p.v.ownBlock=AI\/p.v.ownBlock≠q.v.ownBlock
theorem bR.room (ok:kj w0 PL) {i:Nat} {p:App} (hi:PL[i]? =As p) {g cap:Nat} {cur:Array Value} (hv:p.v=An (As ⟨g,0,AI⟩) p.n cap) (ho:A.ownsRow base p.e p.size p.v p.n p.xs) (hg:A.heap[g]? =As (.cells cur p.e (0,0))) (news:List Value) (j5:p.ok news A) (hl:news.length=p.m*p.size) (hcs:cur.size=cap*p.size) (hroom:p.n+p.m<=cap):bR base w0 PL A (A.setRow g (cur.toList.take (p.n*p.size)++news++cur.toList.drop (p.n*p.size+news.length)).toArray):=by
 have JA:=ax hi;have Tf:p.v.ownBlock=As g:=by rw[hv];rfl
 have hgw:g<w0.heap.size:=ok.2.1 p JA g Tf;have VV:∀ c,ae (· ≠g) A (A.setRow g c):=fun c=>(ae.refl _ _).setRow (fun h=>h rfl) c
 have Dy:p.n*p.size+news.length<=cur.size:=by rw[hl,hcs, <-GS];exact Nat.mul_le_mul_right _ hroom
 have er:cur.toList.take (p.n*p.size)=p.xs:=by
  rcases ho.2 with⟨h,_⟩ | ⟨g',cap',cur',h,_,JD,_,_,_,ht⟩
  ·rw[hv]at h;cases h
  ·rw[hv]at h
   cases h
   rw[hg]at JD;cases JD;exact ht
 have hlx:p.xs.length=p.n*p.size:=ho.1;generalize hc:(cur.toList.take (p.n*p.size)++news++cur.toList.drop (p.n*p.size+news.length)).toArray=c;have od:c.toList=p.xs++news++cur.toList.drop (p.n*p.size+news.length):=by rw[<-hc,er]
 have hcz:c.size=cur.size:=by rw[<-FG,od,aJ,aJ,List.length_drop,show cur.toList.length=cur.size from FG];omega
 have kst:∀ q∈PL,∀ ns,q.ok ns A->q.ok ns (A.setRow g c):=fun q hq ns=>q.st ns _ _ ((VV c).mono fun x hx e=>by have:=ok.1 q hq;have:=hx.1;omega)
 have NN:(A.setRow g c).heap[g]? =As (.cells c p.e (0,0)):=setRow_heap A g cur c p.e _ hg;have far:∀ {e:A_} {size:Nat} {v:Value} {n:Nat} {xs:List Value},A.ownsRow base e size v n xs->v.ownBlock≠As g->(A.setRow g c).ownsRow base e size v n xs:=fun h hne=>
  ak h (VV c) fun k e e'=>hne (by rw[e,e'])
 have Uc:∀ {k cap':Nat} {xs:List Value},A.ownsRow base p.e p.size (An (As ⟨g,0,AI⟩) k cap') k xs->c.toList.take (k*p.size)=xs->(A.setRow g c).ownsRow base p.e p.size (An (As ⟨g,0,AI⟩) k cap') k xs:=fun {k cap' xs} h ht=>by
  rcases h.2 with⟨h',_⟩ | ⟨g',c',cur',h',hb,JD,h1,h2,h3,_⟩
  ·cases h'
  ·cases h'
   rw[hg]at JD;cases JD;exact⟨h.1,.inr ⟨g,cap',c,rfl,hb,NN,h1,h2,by rw[hcz];exact h3,ht⟩⟩
 refine⟨(VV c).mono fun x hx e=>hx.2 ⟨p,JA,by rw[Tf,e]⟩,fun q hq Yc=>?_,fun q hq v VW=>?_⟩
 ·obtain⟨j,hj⟩:=By hq
  by_cases e:j=i
  ·subst e
   rw[hi]at hj;cases hj;rw[hv]at Yc ⊢;exact Uc Yc (by rw[od,List.append_assoc, <-hlx];exact H_)
  ·refine far Yc fun h=>?_
   rcases ok.2.2 j i q p hj hi e with h' | h'
   ·rw[h']at h;cases h
   ·exact h' (by rw[h,Tf])
 ·obtain⟨j,hj⟩:=By hq
  obtain⟨⟨ns,hns,abW⟩,hv2⟩:=VW;refine⟨?_,hv2⟩;by_cases e:j=i
  ·subst e
   rw[hi]at hj;cases hj;by_cases eb:v.ownBlock=As g
   ·rcases hns.2 with⟨h',_⟩ | ⟨g',c',cur',h',_⟩
    ·rw[h']at eb;cases eb
    ·subst h'
     have:g'=g:=by simpa[H']using eb
     subst this;refine⟨news,?_,kst p JA news j5⟩;have hl2:(p.xs++ns).length=(p.n+p.m)*p.size:=hns.1;rcases hns.2 with⟨h9,_⟩ | ⟨g9,c9,amZ,h9,Pt,hg9,i1,i2,i3,_⟩
     ·cases h9
     ·cases h9
      rw[hg]at hg9;cases hg9;refine⟨by rw[aJ,hl,hlx,GS],.inr ⟨_,_,c,rfl,Pt,NN,i1,i2,by rw[hcz];exact i3,?_⟩⟩;rw[od,GS, <-hlx, <-hl, <-aJ];exact H_
   ·exact⟨ns,far hns eb,kst p JA ns abW⟩
  ·refine⟨ns,far hns fun h=>?_,kst q hq ns abW⟩
   rcases hv2 with h2 | h2
   ·rcases ok.2.2 j i q p hj hi e with h' | h'
    ·rw[h2,h']at h;cases h
    ·exact h' (by rw[<-h2,h,Tf])
   ·have:=h2 g h;omega
theorem dE {P:FF} {Cl:IF->Array Value->AF->(F_->AF->Prop)->Prop} {Rd:Nat->IF->Array Value->Code->Code->AF->(F_->AF->Prop)->Prop} {o:Oper} {a:Act} {W:AF} {post:Value->AF->Prop} (s x:Operand) (t:A_) (ho:o.op=.call {callee:=.builtin .append,args:= #[s,x],argTypes:= #[t,t]}) (i:TypeInfo) (z:Value) (bytes:Nat) {p:App} (ht:P.underlying t=As (.slice p.e)) (hi:P.info? p.e=As i) (hz:i.zero=As z) (hsize:i.size=p.size) (hby:i.bytes=bytes) (hzs:z.cells.size=p.size) (hsz:0<p.size) (ok:kj w0 PL) {k:Nat} (hk:PL[k]? =As p) (hs:a.eval s=p.v) (hown:W.ownsRow base p.e p.size p.v p.n p.xs) (ad:Addr) (c:Nat) (hx:a.eval x=An (As ad) p.m c) (news:List Value) (j5:p.ok news W) (hl:news.length=p.m*p.size) (hnews:∀ j u,news[j]? =As u->W.cell? (ad.add j)=As u) (h1:∀ u∈news,u.oneCell'=DP) (h63:p.n+p.m<=maxLen) (hbytes:(p.n+p.m)*bytes<=140737488355328) (hbase:base<=W.heap.size) (hm:0<p.m) (hw0:w0.heap.size<=W.heap.size) (h:∀ v W',bR base w0 PL W W'->(∃ a c,v=An a (p.n+p.m) c)->After base w0 p W' v->(v.ownBlock=p.v.ownBlock\/v.ownBlock=As W.heap.size)->post v W'): jB Cl Rd post ((execOp a.eval o).run P W):=by
 obtain⟨v',w',hr,h2,h3⟩:=gI (P:=P) W base t o.type p.e i z p.size bytes ht hi hz hsize hby hzs hsz p.v p.n p.xs hown ad p.m c news hl hnews h1 h63 hbytes hbase hm;unfold execOp;simp only[ho,resolve,invoke,builtin,Sem.run_bind,Sem.run_pure,Result.andThen_ok,List.map_toArray,List.map_cons,List.map_nil,hs,hx,hr];show post v' w';have Ox:bR base w0 PL W w':=by
  rcases h3 with⟨g,cap,cur,e1,e2,e3,e4,e5,rfl⟩ | ⟨hb,_⟩
  ·exact bR.room ok hk e1 hown e2 news j5 hl e3 e4
  ·exact .below hb
 refine h v' w' Ox (ownsRow_form h2) ⟨⟨news,h2,p.st news _ _ (Ox.keeps.mono fun x hx=>⟨hx.2,fun ⟨q,hq,Lr⟩=>?_⟩) j5⟩,?_⟩ ?_
 ·have h5:=ok.2.1 q hq x Lr
  have h6:=ok.1 p (ax hk);have:=hx.1;omega
 ·rcases h3 with⟨g,cap,cur,e1,e2,e3,e4,e5,rfl⟩ | ⟨hb,e⟩
  ·left;rw[e5,e1];rfl
  ·right;intro y hy;rw[e]at hy;cases hy;exact hw0
 ·rcases h3 with⟨g,cap,cur,e1,e2,e3,e4,e5,rfl⟩ | ⟨hb,e⟩
  ·left;rw[e5,e1];rfl
  ·right;exact e
end
open Go.Proofs.YtjgccapbphadjaaGreatDoor.RegG (aU)
def gT.app (base:Nat) (w0:AF) (PL:List App) (p:App) (hp:p∈PL):RegG.aU (bR base w0 PL) where
 P:=fun v=>∃ a c,v=An a (p.n+p.m) c
 H:=fun _ v W=>After base w0 p W v
 nU:=An AI (p.n+p.m) 0
 pw:=⟨AI,0,rfl⟩
 st:=fun _ v _ _ hm _ h=>hm.new p hp v h
def gT.Ax (base:Nat) (w0:AF) (PL:List App) (p:App) (hp:p∈PL):RegG.aU (bR base w0 PL) where
 P:=fun v=>∃ a c,v=An a (p.n+p.m) c
 H:=fun y v W=>After base w0 p W v/\(v.ownBlock=p.v.ownBlock\/oN v y)
 nU:=An AI (p.n+p.m) 0
 pw:=⟨AI,0,rfl⟩
 st:=fun _ v _ _ hm _ h=>⟨hm.new p hp v h.1,h.2⟩
def gT.vo (base:Nat) (w0:AF) (PL:List App) (n:Nat) (cs:Array Value) (t:A_):RegG.aU (bR base w0 PL) where
 P:=fun v=>∃ b,v=An (As ⟨b,0,AI⟩) n n
 H:=fun _ v W=>∀ b,v=An (As ⟨b,0,AI⟩) n n->(ar W b cs t/\¬ ∃ p∈PL,p.v.ownBlock=As b)
 nU:=An (As ⟨0,0,AI⟩) n n
 pw:=⟨_,rfl⟩
 st:=fun _ _ _ _ hm _ h b e=>⟨(h b e).1.keeps hm.keeps ⟨(h b e).1.lt,(h b e).2⟩,(h b e).2⟩
def gT.Un (base:Nat) (w0:AF) (PL:List App) (t:A_) (H:AF->Value->Prop) (hH:∀ W W' u,bR base w0 PL W W'->H W u->H W' u):RegG.aU (bR base w0 PL) where
 P:=fun v=>∃ b,v=An (As ⟨b,0,AI⟩) 1 1
 H:=fun _ v W=>∀ b,v=An (As ⟨b,0,AI⟩) 1 1->(∃ u,ar W b #[u] t/\H W u)/\¬ ∃ p∈PL,p.v.ownBlock=As b
 nU:=An (As ⟨0,0,AI⟩) 1 1
 pw:=⟨_,rfl⟩
 st:=fun _ _ _ _ hm _ h b e=>by
  obtain⟨⟨u,h1,h2⟩,h3⟩:=h b e;exact⟨⟨u,h1.keeps hm.keeps ⟨h1.lt,h3⟩,hH _ _ u hm h2⟩,h3⟩
def gT.row (base:Nat) (w0:AF) (PL:List App) (ok:kj w0 PL) (lo:Nat) (Ad:w0.heap.size<=lo) (e:A_) (size n:Nat) (xs:List Value):RegG.aU (bR base w0 PL) where
 P:=fun v=>∃ a c,v=An a n c
 H:=fun _ v W=>W.ownsRow lo e size v n xs
 nU:=An AI n 0
 pw:=⟨AI,0,rfl⟩
 st:=fun A v _ B hm _ h=>ak h hm.keeps fun x hx=>⟨(h.lt x hx).2,fun ⟨q,hq,Lr⟩=>by have h5:=ok.2.1 q hq x Lr;have:=(h.lt x hx).1;omega⟩
theorem kj.fresh {w0:AF} {PL:List App} (ok:kj w0 PL) {b:Nat} (h:w0.heap.size<=b):¬ ∃ p∈PL,p.v.ownBlock=As b:=fun ⟨p,hp,e⟩=>by
 have:=ok.2.1 p hp b e;omega
end Go.Proofs.YtjgccapbphadjaaGreatDoor.gW
namespace Go.Proofs.YtjgccapbphadjaaGreatDoor
section
open Go Go.RowKit Go.Shelf Go.Maps
attribute [local go_sem] encS
def nt (l:List (Nat×Nat)):List Value:=l.flatMap fun p=>[D' .i64 p.1,D' .i64 p.2]
theorem Ay (l:List (Nat×Nat)) (p:Nat×Nat):nt (l++ [p])=nt l++ [D' .i64 p.1,D' .i64 p.2]:=by simp[nt]
theorem yZ:∀ (l:List (Nat×Nat)) (i:Nat) (p:Nat×Nat),l[i]? =As p->(nt l)[i*2]? =As (D' .i64 p.1)/\(nt l)[i*2+1]? =As (D' .i64 p.2)
 | [],_,_,h=>by simp at h
 | q::l,0,p,h=>by
  simp at h;subst h;exact⟨rfl,rfl⟩
 | q::l,i+1,p,h=>by
  have:=yZ l i p (by simpa using h);rw[show(i+1)*2=i*2+2 by omega];exact⟨by simpa[nt]using this.1,by simpa[nt]using this.2⟩
theorem DI {P:FF} {fn:Func} {R:F_->AF->Prop} {x:Exit} {a:Act} {w:AF} (h:∀ W,W=w->bodyPost P fn R x a W):bodyPost P fn R x a w:=h w rfl
section
variable {α:Type} [DecidableEq α]
theorem Pu {fuel:Nat} {st:List α×List Nat} {q:α} (hq:q∉st.1) (hf:st.1.length≠fuel):tZ fuel st q=As (st.1++ [q],st.2++ [st.1.length]):=by unfold tZ;rw[if_pos (E_ hq),if_neg hf]
theorem Ls {fuel:Nat} {st:List α×List Nat} {q:α} (hq:q∉st.1) (hf:st.1.length=fuel):tZ fuel st q=none:=by unfold tZ;rw[if_pos (E_ hq),if_pos hf]
theorem Pv {fuel:Nat} {st:List α×List Nat} {q:α} (hq:q∈st.1):tZ fuel st q=As (st.1,st.2++ [st.1.idxOf q]):=by unfold tZ;rw[if_neg (Nat.ne_of_lt (List.idxOf_lt_length_of_mem hq))]
end
end
section
open Go Go.RowKit Go.Shelf Go.Maps
attribute [local go_sem] encS
def iW (lo:Nat) (v:Value) (n:Nat) (us:List Value) (x:Value):gW.App:=⟨39,1,v,n,us,1,lo,fun ns _=>ns=[x],fun _ _ _ _ h=>h⟩
def mkApp (lo:Nat) (v:Value) (n:Nat) (us:List Value) (ml:Nat) (mx:List Value):gW.App:=⟨39,1,v,n,us,1,lo,fun ns W=>∃ u,ns=[u]/\u.oneCell'=DP/\W.ownsRow lo 3 1 u ml mx,fun _ _ _ hk ⟨u,h1,h2,h3⟩=>⟨u,h1,h2,ak h3 hk fun x hx=>h3.lt x hx⟩⟩
theorem aS.more {base:Nat} {W:AF} {v:Value} {ll:List (List Int)} {l:List Int} {us:List Value} {u:Value} {n:Nat} (h1:us.length=ll.length) (hn:us.length=n) (ho:W.ownsRow base 39 1 v (n+1) (us++ [u])) (h3:∀ (i:Nat) (u:Value) (l:List Int),us[i]? =As u->ll[i]? =As l->W.ownsRow base 3 1 u l.length (l.map aG)) (hu:W.ownsRow base 3 1 u l.length (l.map aG)):aS base W v (ll++ [l]):=by
 subst hn;refine⟨us++ [u],by simp[h1],by simpa using ho,fun i x y hx hy=>?_⟩;by_cases hi:i<us.length
 ·rw[bH hi]at hx
  rw[bH (by omega)]at hy;exact h3 i x y hx hy
 ·have fT:=(AT.1 hx).1
  simp at fT;obtain rfl:i=us.length:=by omega
  simp at hx;subst hx;rw[h1]at hy;simp at hy;subst hy;exact hu
end
section
open Go Go.RowKit Go.Shelf Go.Maps
attribute [local go_sem] encS
def nu (base lim:Nat) (w:AF) (v:Value) (ll:List (List Int)):Prop:=∃ us:List Value,us.length=ll.length/\w.ownsRow base 39 1 v us.length us/\(∀ x,v.ownBlock=As x->x<lim)/\∀ (i:Nat) (u:Value) (l:List Int),us[i]? =As u->ll[i]? =As l->w.ownsRow base 3 1 u l.length (l.map aG)/\∀ x,u.ownBlock=As x->x<lim
theorem aS.up {base:Nat} {w:AF} {v:Value} {ll:List (List Int)} (h:aS base w v ll):nu base w.heap.size w v ll:=by obtain⟨us,h1,h2,h3⟩:=h;exact⟨us,h1,h2,fun x e=>(h2.lt x e).2,fun i u l hu hl=>⟨h3 i u l hu hl,fun x e=>((h3 i u l hu hl).lt x e).2⟩⟩
theorem nu.own {base lim:Nat} {w:AF} {v:Value} {ll:List (List Int)} (h:nu base lim w v ll):aS base w v ll:=by obtain⟨us,h1,h2,_,h3⟩:=h;exact⟨us,h1,h2,fun i u l hu hl=>(h3 i u l hu hl).1⟩
theorem nu.base {base base' lim:Nat} {w:AF} {v:Value} {ll:List (List Int)} (h:nu base lim w v ll) (hb:base'<=base):nu base' lim w v ll:=by obtain⟨us,h1,h2,h4,h3⟩:=h;exact⟨us,h1,aC h2 hb,h4,fun i u l hu hl=>⟨aC (h3 i u l hu hl).1 hb,(h3 i u l hu hl).2⟩⟩
theorem nu.keeps {base lim:Nat} {w w':AF} {v:Value} {ll:List (List Int)} (h:nu base lim w v ll) {R:Nat->Prop} (hk:ae R w w') (hr:∀ k,base<=k->k<w.heap.size->R k):nu base lim w' v ll:=by obtain⟨us,h1,h2,h4,h3⟩:=h;exact⟨us,h1,cV h2 hk hr,h4,fun i u l hu hl=>⟨cV (h3 i u l hu hl).1 hk hr,(h3 i u l hu hl).2⟩⟩
def Yl (d:DF) (w:AF) (e:F_) (w':AF):Prop:=∃ a0 c0 a1 c1 a2 c2 lim,e=C' (IN #[An a0 d.cl.length c0,An a1 d.nx.length c1,An a2 d.mr.length c2])/\w.heap.size<=lim/\w'.ownsRow w.heap.size 56 4 (An a0 d.cl.length c0) d.cl.length (aL d.cl)/\nu w.heap.size lim w' (An a1 d.nx.length c1) d.nx/\aS lim w' (An a2 d.mr.length c2) d.mr/\aa w w'
theorem Lt (v:Value) (d:DF) (w:AF) (h:bV w v d) (sm:Sm d): ah 21 #[v] w (Yl d w):=by
 show ah 21 #[v] w fun e w'=>∃ a0 c0 a1 c1 a2 c2 lim,e=C' (IN #[An a0 d.cl.length c0,An a1 d.nx.length c1,An a2 d.mr.length c2])/\w.heap.size<=lim/\w'.ownsRow w.heap.size 56 4 (An a0 d.cl.length c0) d.cl.length (aL d.cl)/\nu w.heap.size lim w' (An a1 d.nx.length c1) d.nx/\aS lim w' (An a2 d.mr.length c2) d.mr/\aa w w'
 obtain⟨v0,v1,v2,rfl,h0,h1,h2⟩:=h;obtain⟨a0,c0,rfl⟩:=h0.1.form;obtain⟨a1,c1,rfl⟩:=h1.form;obtain⟨a2,c2,rfl⟩:=h2.form;have SM:=B' sm;have H0:=B' h0;have H1:=B' h1;have H2:=B' h2;clear h0 h1 h2 sm;obtain⟨n0,bX⟩:=ag d.cl.length;obtain⟨n1,cM⟩:=ag d.nx.length;obtain⟨n2,dP⟩:=ag d.mr.length;rw[<-bX]at H0 ⊢;rw[<-cM]at H1 ⊢;rw[<-dP]at H2 ⊢;have pS:=B' bX;have gS:=B' cM;have pO:=B' dP;clear bX cM dP;go_enter Tryz.func21,Tryz.ntmps21;go_wp2;refine aw ?_;intro V hV;have mC:Hid (ar V w.heap.size #[An a0 n0 c0,An a1 n1 c1,An a2 n2 c2] 29):=by rw[hV];exact(ar.new w _ _).alloc _
 have gR:Hid (ar V (w.heap.size+1) #[An AI 0 0,An AI 0 0,An AI 0 0] 29):=by rw[hV];exact(ar.new (w.alloc _) _ _).at (by simp)
 have HX:Hid (aa w V):=by rw[hV];exact(((Ext.refl w).alloc _).alloc _).below
 have HS:Hid (w.heap.size+2<=V.heap.size):=by rw[hV];exact B' (by simp)
 clear hV;refine aI Bm (fun _=>False) (by kernel_rfl) 8 [0,1,3,0,8,31,0,64,255,511,1023] (fun i=>i==2 || i==5 || i==8 || i==10) (by kernel_rfl) (fun i=>if i=2 then aU.row (w.heap.size+2) 56 4 d.cl.length (aL d.cl)else if i=5 then aU.oll (w.heap.size+2) d.nx else aU.any _) ?_;intro C hC hne;have HC:=B' hC;have f0:=aD hC (p:=⟨w.heap.size,0,AI⟩) (by have:=mC.lt;exact this) (fun h=>h) (mC.cell 0);have f1:=aD hC (p:=⟨w.heap.size,1,AI⟩) (by have:=mC.lt;exact this) (fun h=>h) (mC.cell 1);have f2:=aD hC (p:=⟨w.heap.size,2,AI⟩) (by have:=mC.lt;exact this) (fun h=>h) (mC.cell 2);clear hC
 repeat (refine au (fun K hK=>?_);first | (refine bL rfl ?_;try go_simp;refine hK _ _ ?_;clear hK K) | (refine bJ rfl rfl ?_;unfold az;go_simp;refine hK _ _ ?_;clear hK K))
 refine au (fun K hK=>?_);refine bS rfl rfl (aU.row (w.heap.size+2) 56 4 d.cl.length (aL d.cl)) rfl (fun W hW hN=>?_) (fun v hv=>?_)
 ·have hM:=(HC.out W).1 hW
  clear hW;go_simp;refine bA ((kG _ d.cl _ ⟨(H0.1.below HX).below hM.below,H0.2⟩ SM.cl).mono ?_);rintro e w2 ⟨vp,rfl,ho,hx⟩;exact⟨_,rfl,Move.aj hx,ownsRow_form ho,aC ho (D_ HS hM.size)⟩
 obtain⟨a3,c3,rfl⟩:=hv;go_simp;refine hK _ _ ?_;clear hK K
 repeat (refine au (fun K hK=>?_);first | (refine bL rfl ?_;try go_simp;refine hK _ _ ?_;clear hK K) | (refine bJ rfl rfl ?_;unfold az;go_simp;refine hK _ _ ?_;clear hK K))
 refine au (fun K hK=>?_);refine bS rfl rfl (aU.oll (w.heap.size+2) d.nx) rfl (fun W hW hN=>?_) (fun v hv=>?_)
 ·have hM:=(HC.out W).1 hW
  clear hW;go_simp;refine bA ((yX _ d.nx _ ((H1.below HX).below hM.below) SM.nx SM.xG).mono ?_);rintro e w2 ⟨vp,rfl,ho,hx⟩;exact⟨_,rfl,Move.aj hx,ho.form,ho.base (D_ HS hM.size)⟩
 obtain⟨a4,c4,rfl⟩:=hv;go_simp;refine hK _ _ ?_;clear hK K
 repeat (refine au (fun K hK=>?_);first | (refine bL rfl ?_;try go_simp;refine hK _ _ ?_;clear hK K) | (refine bJ rfl rfl ?_;unfold az;go_simp;refine hK _ _ ?_;clear hK K))
 refine bC (fun W hW hH=>?_);have hM:=(HC.out W).1 hW;have R0:Hid (W.ownsRow (w.heap.size+2) 56 4 (An a3 d.cl.length c3) d.cl.length (aL d.cl)):=B' (hH _ (ax (show _=As _ from rfl:_[1]? =As _)));have R1:Hid (aS (w.heap.size+2) W (An a4 d.nx.length c4) d.nx):=B' (hH _ (ax (show _=As _ from rfl:_[0]? =As _)));have XB1:=B' (mC.below hM.below mC.lt);have Yh:=B' (gR.below hM.below gR.lt);have XX:=B' (HX.trans (hM.below.mono HX.size));have XS:=B' (D_ HS hM.size);clear hM hW hH f0 f1 f2 HC mC gR HX;go_wp2_with fail
 refine(yX _ d.mr _ (H2.below XX) SM.mr SM.Ug).mono ?_;rintro e w2 ⟨vp,rfl,ho,hx⟩;obtain⟨a5,c5,rfl⟩:=ho.form;have R0':=B' (ai R0 hx);have R1':=B' (R1.up.keeps (hk:=(ae.aj hx fun _ h=>h:ae (· <W.heap.size) W w2)) fun _ _ h=>h);have WS:=XS.out;have R2':=B' ho;have YB2:=B' (Yh.below hx Yh.lt);have YX:=B' (XX.trans (hx.mono XX.size));clear ho hx R0 R1 XB1 Yh XX;obtain⟨⟨k0,k1,k2⟩,z0,z1,z2⟩:=YB2.three;go_wp2;obtain⟨W9,dG⟩:=ag ((((w2.setCell ⟨w.heap.size+1,0,AI⟩ (An a3 d.cl.length c3)).setCell ⟨w.heap.size+1,1,AI⟩ (An a4 d.nx.length c4)).setCell ⟨w.heap.size+1,2,AI⟩ (An a5 d.mr.length c5)));have E:Hid (ar W9 (w.heap.size+1) #[An a3 d.cl.length c3,An a4 d.nx.length c4,An a5 d.mr.length c5] 29):=by rw[dG];exact YB2.vy
 have K9:Hid (ae (fun x=>x<w2.heap.size/\x≠w.heap.size+1) w2 W9):=by rw[dG];exact(((ae.refl _ _).setCell (p:=⟨w.heap.size+1,0,AI⟩) (fun h=>h.2 rfl) _).setCell (p:=⟨w.heap.size+1,1,AI⟩) (fun h=>h.2 rfl) _).setCell (p:=⟨w.heap.size+1,2,AI⟩) (fun h=>h.2 rfl) _
 rw[<-dG];clear dG k0 k1 k2 z0 z1 z2;obtain⟨⟨m0,m1,m2⟩,_⟩:=E.three;rw[pS.out,gS.out,pO.out];refine bodyPost_ret (v:=IN #[An a3 d.cl.length c3,An a4 d.nx.length c4,An a5 d.mr.length c5]) (by simp[results,Tryz.results21,go_sem,m0,m1,m2]) rfl ⟨_,_,_,_,_,_,W.heap.size,rfl,by omega,?_,?_,?_,?_⟩
 ·exact aC (cV R0' K9 fun k h1 h2=>⟨h2,by omega⟩) (by omega)
 ·exact(R1'.keeps K9 fun k h1 h2=>⟨h2,by omega⟩).base (by omega)
 ·exact R2'.keeps K9 fun k h1 h2=>⟨h2,by omega⟩
 ·exact YX.trans ((K9.mono fun k hk=>⟨ay hk YX.size,by have:k<w.heap.size:=hk;omega⟩:ae (· <w.heap.size) w2 W9).below)
theorem Lu (v:Value) (d:DF) (w:AF) (h:bV w v d) (sm:Sm d): ah 21 #[v] w fun e w'=>∃ u,e=C' u/\aM w.heap.size w' u d/\(∀ v0 v1 v2,u=IN #[v0,v1,v2]->oN v1 v2)/\aa w w':=by
 refine(Lt v d w h sm).mono ?_;rintro e w' ⟨a0,c0,a1,c1,a2,c2,lim,rfl,hl,h0,h1,h2,hx⟩;refine⟨_,rfl,⟨_,_,_,rfl,h0,h1.own,h2.base hl⟩,fun v0 v1 v2 e=>?_,hx⟩;cases e;obtain⟨_,_,_,h3,_⟩:=h1;obtain⟨_,_,h4,_⟩:=h2;cases e3:(An a1 d.nx.length c1).ownBlock with
 | none=>exact .inl e3
 | some x=>
  right
  intro e2;have h5:=h3 x e3;have h6:=(h4.lt x (e2.symm.trans e3)).1;omega
end
section
open Go Go.RowKit
def Reach (d:DF):Nat->Nat->Prop
 | 0,s=>acc d s=DP
 | m+1,s=>∃ k,k<d.cl.length/\Reach d m (eH d s k)
/-! The reference: distances. -/
def abX (d:DF) (far:List Int) (s k:Nat):List Int:=if far.getD (eH d s k) 0+1<far.getD s 0 then far.set s (far.getD (eH d s k) 0+1)else far
def agy (d:DF):List Int:=(A' d.nx.length).map fun s=>if acc d s then 0 else(d.nx.length:Int)
def DJ (d:DF) (far:List Int) (s:Nat):Nat->List Int
 | 0=>far
 | k+1=>abX d (DJ d far s k) s k
def DK (d:DF) (far:List Int):Nat->List Int
 | 0=>far
 | s+1=>DJ d (DK d far s) s d.cl.length
def We (d:DF):Nat->List Int
 | 0=>agy d
 | r+1=>DK d (We d r) d.nx.length
def abY (d:DF):List Int:=We d d.nx.length
def Wf (d:DF) (s:Nat):Int:=(abY d).getD s 0
def Ym (d:DF) (s c:Nat):Bool:=Wf d (eH d s (cls d.cl c))==Wf d s-1
def VJ (d:DF) (s:Nat):Nat:=((A' 256).find? (Ym d s)).getD 0
theorem Az {d:DF} (h:Rt d) {k:Nat} (hk:k<d.cl.length):lb d.cl k<256/\cls d.cl (lb d.cl k)=k/\∀ c,c<256->cls d.cl c=k->lb d.cl k<=c:=by
 have e:=h.cl;have sU:k<(partsOf d.cl).length:=by rw[e];exact hk
 have h1:=bn (l:=partsOf d.cl) 0 sU;obtain⟨_,h2,h3,h4⟩:=eh (ik d.cl (ax h1));rw[e]at h1 h2 h3 h4;refine⟨h2,(h.part.jh h2).2 ⟨_,h1,h3⟩,fun c hc Yj=>?_⟩;obtain⟨q,hq,hb⟩:=(h.part.jh hc).1 Yj;rw[h1]at hq;cases hq;show(aV _).1<=c;by_cases hlt:c<(aV (d.cl.getD k 0)).1
 ·have:=h4 c hlt;rw[this]at hb;cases hb
 ·omega
theorem JH {d:DF} (h:Rt d) {i j:Nat} (mM:i<j) (hj:j<d.cl.length):lb d.cl i<lb d.cl j:=by have:=oZ d.cl (i:=i) (j:=j) (x:=d.cl.getD i 0) (y:=d.cl.getD j 0) (by rw[h.cl];exact bn _ (by omega)) (by rw[h.cl];exact bn _ (by omega)) mM;exact this
/-! The program: breadth first. -/
structure Bst where
 todo:List Nat
 keys:List Nat
 fr:List Int
 by':List Nat
structure BOk (d:DF) (x:Nat) (st:Bst):Prop where
 keys:st.keys.length=st.todo.length
 fr:st.fr.length=d.nx.length
 by':st.by'.length=d.nx.length
 head:st.todo[0]? =As 0
 root:st.fr.getD 0 0= -1
 nodup:st.todo.Nodup
 lt:∀ t∈st.todo,t<d.nx.length
 mem:∀ t,t<d.nx.length->(st.fr.getD t 0≠0↔t∈st.todo)
 par:∀ j t,0<j->st.todo[j]? =As t->∃ y s,st.keys[j]? =As y/\y<x/\y/d.cl.length<j/\st.todo[y/d.cl.length]? =As s/\eH d s (y%d.cl.length)=t/\st.fr.getD t 0=s+1/\st.by'.getD t 0=lb d.cl (y%d.cl.length)
 mono:∀ i j y z,0<i->i<j->st.keys[i]? =As y->st.keys[j]? =As z->y<z
 done:∀ y s,y<x->st.todo[y/d.cl.length]? =As s->∃ j:Nat,st.todo[j]? =As (eH d s (y%d.cl.length))/\(j=0\/∃ z,st.keys[j]? =As z/\z<=y)
theorem nw:∀ (n:Nat) (l:List Nat),l.Nodup->(∀ t∈l,t<n)->l.length<=n
 | 0,l,_,h=>by
  cases l with
  | nil=>simp
  | cons x r=>have:=h x (by simp);omega
 | n+1,l,hd,h=>by
  have h1:=nw n (l.erase n) (hd.erase n) (fun t ht=>by
   have h2:=(hd.mem_erase_iff).1 ht;have:=h t h2.2;have:=h2.1
   omega)
  by_cases hm:n∈l
  ·rw[List.length_erase_of_mem hm]at h1;omega
  ·rw[List.erase_of_not_mem hm]at h1;omega
structure abZ (d:DF) (st:Bst) (m i:Nat) (q:Nat->Nat):Prop where
 zero:q 0=0
 last:q m=i
 step:∀ l,l<m->q l<q (l+1)/\∃ y,st.keys[q (l+1)]? =As y/\y/d.cl.length=q l
section
variable {d:DF} (h:Rt d) {i:Nat} {st:Bst} (I:BOk d (i*d.cl.length) st) (hi:i<st.todo.length) (ha:∀ (j t:Nat),j<i→st.todo[j]? =As t→acc d t=Bm) {m:Nat} {q:Nat→Nat} (c:abZ d st m i q)
include h I c hi
include ha
variable {s:Nat} (hs:st.todo[i]? =As s) (agB:acc d s=DP)
include hs agB
end
end
section
open Go Go.ChangeShapes Go.WideShapes Go.ChangeAt Go.RowKit Go.Deep
section
variable {H:Type} {enc:A_×Value→H} {W:AF}
theorem Lv {P:FF} {ts:List A_} {ds:List (DataW H)} (h:(DataW.weightsEach P ts ds).all (· <=reachBytes)=DP) {j:Nat} {t:A_} {d:DataW H} (ht:ts[j]? =As t) (hd:ds[j]? =As d):∀ n∈d.weights P t,n<=reachBytes:=fun n hn=>by
 simpa using AM.1 h _ (DataW.weights_mem_each ht hd n hn)
theorem pq {P:FF} {e:A_} :∀ {l:List (DataW H)} {d:DataW H},d∈l->∀ n∈d.weights P e,n∈DataW.weightsAll P e l
 | x::l,d,h,n,hn=>by
  simp only[DataW.weightsAll,List.mem_append];rcases If.1 h with rfl | h
  ·exact .inl hn
  ·exact .inr (pq h n hn)
end
end
section
open Go Go.RowKit Go.Shelf Go.Maps
attribute [local go_sem] encS
theorem jk {P:FF} {l:List Oper} {ops:Array Oper} {Q:Exit->Act->AF->Prop} {a:Act} {w:AF} (h:∀ W,W=w->wpList P ops Q l a W):wpList P ops Q l a w:=h w rfl
end
section
open Go Go.RowKit Go.Shelf Go.Maps
theorem oN.step {u v v':Value} {N:Nat} (h:oN u v) (ho:v'.ownBlock=v.ownBlock\/∀ x,v'.ownBlock=As x->N<=x) (hu:∀ b,u.ownBlock=As b->b<N):oN u v':=by
 rcases h with h | h
 ·exact .inl h
 ·by_cases e:u.ownBlock=AI
  ·exact .inl e
  ·right
   intro e2;rcases ho with h2 | h2
   ·exact h (by rw[e2,h2])
   ·cases hb:u.ownBlock with
    | none=>exact e hb
    | some b=>have h3:=hu b hb;have h4:=h2 b (by rw[<-e2,hb]);omega
def RowsIn (W:AF) (base:Nat) (us:List Value) (ll:List (List Int)):Prop:=∀ (i:Nat) (u:Value) (l:List Int),us[i]? =As u->ll[i]? =As l->W.ownsRow base 3 1 u l.length (l.map aG)
theorem RowsIn.keeps {W W':AF} {base:Nat} {us:List Value} {ll:List (List Int)} (h:RowsIn W base us ll) {R:Nat->Prop} (hk:ae R W W') (hr:∀ u x,u∈us->u.ownBlock=As x->x<W.heap.size->R x):RowsIn W' base us ll:=fun i u l hu hl=>
 ak (h i u l hu hl) hk fun x hx=>hr u x (ax hu) hx ((h i u l hu hl).lt x hx).2
theorem RowsIn.lt {W:AF} {base n:Nat} {us:List Value} {ll:List (List Int)} (h:RowsIn W base us ll) (h1:us.length=n) (h2:ll.length=n) {u:Value} (hu:u∈us):∀ b,u.ownBlock=As b->base<=b/\b<W.heap.size:=fun b e=>by
 obtain⟨i,hi⟩:=By hu;have fT:=(AT.1 hi).1;exact(h i u _ hi (aB (by omega))).lt b e
theorem RowsIn.ll {W:AF} {base n:Nat} {us:List Value} {ll:List (List Int)} {v:Value} (h:RowsIn W base us ll) (h1:us.length=n) (h2:ll.length=n) (ho:W.ownsRow base 39 1 v n us):aS base W v ll:=⟨us,by omega,by rw[h1];exact ho,h⟩
theorem RowsIn.below {W W':AF} {base:Nat} {us:List Value} {ll:List (List Int)} (h:RowsIn W base us ll) (hk:aa W W'):RowsIn W' base us ll:=fun i u l hu hl=>ai (h i u l hu hl) hk
theorem aM.form {base:Nat} {w:AF} {v:Value} {d:DF} (h:aM base w v d):∃ a0 c0 a1 c1 a2 c2,v=IN #[An a0 d.cl.length c0,An a1 d.nx.length c1,An a2 d.mr.length c2]:=by obtain⟨v0,v1,v2,rfl,h0,h1,h2⟩:=h;obtain⟨a0,c0,rfl⟩:=ownsRow_form h0;obtain⟨a1,c1,rfl⟩:=h1.form;obtain⟨a2,c2,rfl⟩:=h2.form;exact⟨_,_,_,_,_,_,rfl⟩
theorem bZ {w:AF} {b base size n:Nat} {c:Array Value} {t e:A_} {v:Value} {xs:List Value} (h:ar w b c t) (ho:w.ownsRow base e size v n xs) (hne:t≠e):∀ x,v.ownBlock=As x->x≠b:=fun x hx e2=>by
 subst e2;rcases ho.2 with⟨h1,_⟩ | ⟨g',c',cur,h1,_,h3,_⟩
 ·rw[h1]at hx;cases hx
 ·subst h1
  have hg:g'=x:=by simpa[H']using hx
  subst hg;have h4:w.heap[g']? =As (.cells c t (0,0)):=h;rw[h3]at h4;injection h4 with h4
  injection h4 with _ h5 _
  exact hne h5.symm
attribute [local go_sem] encS
def aU.ue (lo:Nat) (cs:Array Value) (t:A_):aU (Move Bm (fun _=>False)) where
 P:=fun v=>∃ b,v=Ft (As ⟨b,0,AI⟩)
 H:=fun v W=>∀ b,v=Ft (As ⟨b,0,AI⟩)->ar W b cs t/\lo<=b
 nU:=Ft (As ⟨0,0,AI⟩)
 pw:=⟨_,rfl⟩
 st:=fun _ _ _ hm _ h b e=>⟨(h b e).1.below hm.below (h b e).1.lt,(h b e).2⟩
end
section
open Go Go.RowKit Go.Shelf Go.Maps
structure NF where
 aO:List BS
 cB:List (List Int)
 fst:List Int
 cL:List Int
 emp:Bool
def kp (low:Int) (l:List Int) (k:Nat):Int:=if k=0 then low-1 else l.getD (k-1) 0
def gL (low high:Int) (l:List Int) (k:Nat):Bool:=decide (kp low l k<l.getD k 0)&&decide (l.getD k 0<=high)
def dQ (low high:Int) (l:List Int):Bool:=(A' l.length).all (gL low high l)
theorem G9 {low:Int} {l:List Int} {k:Nat} {x:Int} (hx:l[k]? =As x):kp low l (k+1)=x:=by unfold kp;rw[if_neg (by omega),B_];exact getD_some hx
theorem sf {low high:Int} {l:List Int} {k:Nat} {x:Int} (hx:l[k]? =As x):gL low high l k=(decide (kp low l k<x)&&decide (x<=high)):=by unfold gL;rw[getD_some hx]
theorem JI {low high:Int} {l:List Int} {k:Nat} (hk:k<l.length) (h:gL low high l k=Bm):dQ low high l=false:=by unfold dQ;rw[C_];exact⟨k,AS.2 hk,by rw[h];decide⟩
theorem DL {low high:Int} {l:List Int} (h:∀ k,k<l.length->gL low high l k=DP):dQ low high l=true:=by unfold dQ;rw[AM];exact fun k hk=>h k (AS.1 hk)
theorem AA {low high:Int} {l:List Int} (h:dQ low high l=DP) {k:Nat} (hk:k<l.length):gL low high l k=true:=by unfold dQ at h;rw[AM]at h;exact h k (AS.2 hk)
def Ha (low n:Int) (l:List Int) (k:Nat):Bool:=decide (low<=l.getD k 0)&&decide (l.getD k 0<n)&&(decide (k=0) || decide (l.getD (k-1) 0<l.getD k 0))
theorem aeM (low n:Int) (l:List Int):((A' l.length).all (Ha low n l))=dQ low (n-1) l:=by
 rw[Bool.eq_iff_iff];unfold dQ;rw[AM,AM];constructor
 ·intro h k hk
  have h1:=h k hk;unfold Ha at h1;unfold gL kp;simp only[AN,G_,decide_eq_true_eq]at h1 ⊢;obtain⟨⟨a,b⟩,c⟩:=h1;refine⟨?_,by omega⟩;split
  ·omega
  ·rcases c with c | c
   ·omega
   ·exact c
 ·intro h
  have Yn:∀ k,k<l.length->low<=l.getD k 0:=by
   intro k;induction k with
   | zero=>
    intro hk;have h1:=h 0 (AS.2 hk);unfold gL kp at h1;simp only[AN,decide_eq_true_eq,if_true]at h1;omega
   | succ k ih=>
    intro hk;have h1:=h (k+1) (AS.2 hk);have h2:=ih (by omega);unfold gL kp at h1;simp only[AN,decide_eq_true_eq]at h1;rw[if_neg (by omega),B_]at h1;omega
  intro k hk;have h1:=h k hk;have h2:=Yn k (AS.1 hk);unfold gL kp at h1;unfold Ha;simp only[AN,G_,decide_eq_true_eq]at h1 ⊢;refine⟨⟨h2,by omega⟩,?_⟩;by_cases h0:k=0
  ·exact .inl h0
  ·rw[if_neg h0]at h1
   exact .inr h1.1
theorem dR {low high:Int} {l:List Int} (h:dQ low high l=DP):l.Pairwise (· < ·)/\∀ x∈l,low<=x/\x<=high:=by
 have hs:∀ k,k+1<l.length->l.getD k 0<l.getD (k+1) 0:=fun k hk=>by
  have h1:=AA h hk;unfold gL kp at h1;simp only[AN,decide_eq_true_eq]at h1;rw[if_neg (by omega),B_]at h1;exact h1.1
 have hm:∀ i j,i<j->j<l.length->l.getD i 0<l.getD j 0:=by
  intro i j mM;induction j with
  | zero=>omega
  | succ j ih=>
   intro hj;rcases Nat.lt_or_ge i j with h1 | h1
   ·have:=ih h1 (by omega);have:=hs j hj;omega
   ·obtain rfl:i=j:=by omega
    exact hs i hj
 refine⟨?_,fun x hx=>?_⟩
 ·rw[DQ]
  intro i j hi hj mM;have:=hm i j mM hj;simpa[bB,aB hi,aB hj]using this
 ·obtain⟨k,hk⟩:=By hx
  have Ae:=(AT.1 hk).1;have h1:=AA h Ae;rw[sf hk]at h1;simp only[AN,decide_eq_true_eq]at h1;refine⟨?_,h1.2⟩;have h0:=AA h (show 0<l.length by omega);unfold gL kp at h0;simp only[AN,decide_eq_true_eq,if_true]at h0;have e:l.getD k 0=x:=getD_some hk;rcases Nat.eq_zero_or_pos k with h2 | h2
  ·subst h2;omega
  ·have:=hm 0 k h2 Ae;omega
theorem oo {low high:Int} {l:List Int} (h:l.Pairwise (· < ·)) (hb:∀ x∈l,low<=x/\x<=high):dQ low high l=true:=by
 refine DL fun k hk=>?_
 have hx:=aB hk;rw[sf hx];have h1:=hb _ (List.getElem_mem hk);simp only[AN,decide_eq_true_eq];refine⟨?_,h1.2⟩;unfold kp;split
 ·omega
 ·rename_i h0
  have h2:=DQ.1 h (k-1) k (by omega) hk (by omega);rw[bB,aB (show k-1<l.length by omega)];exact h2
def NF.right (a:NF):Bool:=decide (a.aO.length<=400)&&decide (a.cB.length=a.aO.length)&&dQ 0 ((a.aO.length:Int)-1) a.fst&&dQ 0 ((a.aO.length:Int)-1) a.cL&&(A' a.aO.length).all fun p=>dQ 0 ((a.aO.length:Int)-1) (a.cB.getD p [])&&(a.aO.getD p 0 != 0)
structure Nt (a:NF):Prop where
 le:a.aO.length<=400
 cB:a.cB.length=a.aO.length
 fst:dQ 0 ((a.aO.length:Int)-1) a.fst=DP
 cL:dQ 0 ((a.aO.length:Int)-1) a.cL=DP
 row:∀ p,p<a.aO.length->dQ 0 ((a.aO.length:Int)-1) (a.cB.getD p [])=DP
 ne:∀ p,p<a.aO.length->a.aO.getD p 0≠0
theorem eP (a:NF):a.right=DP↔Nt a:=by
 unfold NF.right;simp only[AN,decide_eq_true_eq,AM,AS,bne_iff_ne];constructor
 ·rintro⟨⟨⟨⟨h1,h2⟩,h3⟩,h4⟩,h5⟩
  exact⟨h1,h2,h3,h4,fun p hp=>(h5 p hp).1,fun p hp=>(h5 p hp).2⟩
 ·rintro⟨h1,h2,h3,h4,h5,h6⟩
  exact⟨⟨⟨⟨h1,h2⟩,h3⟩,h4⟩,fun p hp=>⟨h5 p hp,h6 p hp⟩⟩
def NF.st (a:NF) (l:List Int):Bool:=dQ (-1) ((a.aO.length:Int)-1) l
def NF.pT (a:NF) (p:Int):List Int:=if p= -1 then a.fst else a.cB.getD p.toNat []
def NF.hit (a:NF) (l:List Int) (c q:Nat):Bool:=l.any fun p=>(a.pT p).contains (q:Int)&&(a.aO.getD q 0).getLsbD c
def NF.step (a:NF) (l:List Int) (c:Nat):List Int:=((A' a.aO.length).filter (a.hit l c)).map Int.ofNat
def NF.Uo (a:NF) (p:Int):Bool:=if p= -1 then a.emp else a.cL.contains p
def NF.acc (a:NF) (l:List Int):Bool:=l.any a.Uo
theorem ny (n:Nat) (f:Nat->Bool):(((A' n).filter f).map Int.ofNat).Pairwise (· < ·):=by rw[List.pairwise_map];exact(List.pairwise_lt_range.filter _).imp fun h=>Int.ofNat_lt.2 h
theorem NF.Pw (a:NF) (l:List Int) (c:Nat):dQ 0 ((a.aO.length:Int)-1) (a.step l c)=true:=by
 refine oo (ny _ _) fun x hx=>?_
 obtain⟨q,hq,rfl⟩:=Is.1 hx;have:=AS.1 (G'.1 hq).1;show(0:Int)<=(q:Int)/\(q:Int)<=_;omega
theorem Lx {high:Int} {l:List Int} (hh: -1<=high) (h:dQ 0 high l=DP):dQ (-1) high (-1::l)=true:=by
 obtain⟨h1,h2⟩:=dR h;refine oo (List.pairwise_cons.2 ⟨fun x hx=>?_,h1⟩) fun x hx=>?_
 ·have:=h2 x hx;omega
 ·rcases If.1 hx with rfl | hx
  ·omega
  ·have:=h2 x hx;omega
theorem Px {low low' high:Int} {l:List Int} (hh:low'<=low) (h:dQ low high l=DP):dQ low' high l=true:=by obtain⟨h1,h2⟩:=dR h;exact oo h1 fun x hx=>by have:=h2 x hx;omega
structure PT where
 nf:NF
 za:Bool
 mark:Int
def PT.ok (x:PT):Bool:=x.nf.right&&decide (0<=x.mark)&&decide (x.mark<=255)
def PT.step (x:PT) (l:List Int) (c:Nat):List Int:=if x.za then x.nf.step l c else-1::x.nf.step l c
def eQ (ps:List PT) (row:List (List Int)) (c:Nat):List (List Int):=List.zipWith (fun x l=>x.step l c) ps row
def dH (ps:List PT) (row:List (List Int)):List Int:=((A' 256).filter fun (m:Nat)=>(List.zip ps row).any fun y=>y.1.nf.acc y.2&&(y.1.mark==(m:Int))).map Int.ofNat
def lK (ps:List PT):List (List Int):=ps.map fun _=>[-1]
def cw (ps:List PT):List BS:=ps.flatMap fun x=>x.nf.aO
def si (ps:List PT) (fuel:Nat):Option (List (List (List Int))×List (List Nat)):=
 if fuel=0 then AI else ji fuel (fun row k=>eQ ps row (lb (partsOf (cw ps)) k)) (partsOf (cw ps)).length (lK ps) fuel
def kR (ps:List PT) (fuel:Int):DF×Int:=
 if 64<ps.length then(⟨[],[],[]⟩,5)else if(ps.all PT.ok)=Bm then(⟨[],[],[]⟩,180)else if fuel<0\/4000<fuel then(⟨[],[],[]⟩,2)else
 match si ps fuel.toNat with
 | none=>(⟨[],[],[]⟩,181)
 | some st=>(⟨partsOf (cw ps),st.2.map fun r=>r.map Int.ofNat,st.1.map (dH ps)⟩,0)
def py (ps:List PT) (row:List (List Int)):Prop:=row.length=ps.length/\∀ (i:Nat) (x:PT) (l:List Int),ps[i]? =As x->row[i]? =As l->x.nf.st l=DP
theorem AB (ps:List PT):py ps (lK ps):=by refine⟨by simp[lK],fun i x l hx hl=>?_⟩;unfold lK at hl;rw[aN,hx]at hl;cases hl;unfold NF.st;exact oo (by simp) fun y hy=>by simp at hy;omega
theorem qW {ps:List PT} {row:List (List Int)} (h:py ps row) (c:Nat):py ps (eQ ps row c):=by
 refine⟨by simp[eQ,h.1],fun i x l hx hl=>?_⟩;have hi:=(AT.1 hx).1;unfold eQ at hl;rw[List.getElem?_zipWith,hx,aB (by rw[h.1];exact hi)]at hl;cases hl;unfold PT.step NF.st;have hr:=x.nf.Pw (row[i]'(by rw[h.1];exact hi)) c;split
 ·exact Px (by omega) hr
 ·exact Lx (by omega) hr
theorem Hb (ps:List PT) (row:List (List Int)):qQ (dH ps row)=true:=by
 have h:dQ 0 255 (dH ps row)=true:=by
  refine oo (ny _ _) fun x hx=>?_
  obtain⟨q,hq,rfl⟩:=Is.1 hx;have:=AS.1 (G'.1 hq).1;show(0:Int)<=(q:Int)/\(q:Int)<=_;omega
 have e:qQ (dH ps row)=dQ 0 255 (dH ps row):=rfl;rw[e];exact h
end
end Go.Proofs.YtjgccapbphadjaaGreatDoor
