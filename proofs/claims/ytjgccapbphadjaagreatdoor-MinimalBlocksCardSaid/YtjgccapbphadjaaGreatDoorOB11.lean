/- minimal.parted: the numbers of keys, in the order in which they come. -/
import Derived.Test.YtjgccapbphadjaaGreatDoorOB10
import Derived.Lib.BufferRead
set_option maxRecDepth 100000
set_option maxHeartbeats 16000000
open Go.Lib (hid)
open Go.Value renaming slice->An,int->AN,pointer->Bm,tuple->B_,bool->GG,agg->G'
open Option renaming none->As,some->AI
open Go.Lib renaming hid->AF
open List renaming getElem?_eq_some_iff->AM,range->A_,ext_getElem?->By,getElem?_range->B',take_add_one->C',getElem?_replicate->Dn,getElem?_cons_zero->DE,getElem?_cons_succ->DH,getElem?_toArray->DQ,not_mem_nil->D0,mem_cons->D_,map_append->D',idxOf_lt_length_of_mem->E_,replicate->FF,getElem?_set->Gz,flatMap_cons->GA,take_length->GB,all_eq_true->GC,length_take->GF,getElem?_of_mem->GW,getElem?_mapIdx->G_,foldl_append->Is,foldl_cons->IF,mem_range->IN,map_cons->I',mem_map->J1
open Go.Ending renaming returned->AS
open Go renaming bodyPost_ret->AT,World->Cd,TypeId->GO,info_parts->H_
open Go.IntKind renaming i64->A',wrap_u8->EV,u8->H',u64->IT
open Go.Proofs.Tryz renaming results61->Bs,underlying44->DP,prog->Ft,underlying26->If,underlying5->It,underlying9->Iv,ntmps61->JZ,func61->J2
open Go.World renaming ownsRow_nil->C_,alloc_heap_new->GS
open Go.RowKit renaming Hid->Dl
open Int renaming toNat->Dm,ofNat->JY
open UInt8 renaming toNat_ofNat'->FG,ofNat->J3
open Nat renaming zero_le->F_,le_trans->GH,add_assoc->I_
namespace Go.Proofs.YtjgccapbphadjaaGreatDoor
section
open Go Go.RowKit Go.Shelf Go.Maps
attribute [local go_sem] encS
theorem NB (v:Value) (ps:List PT) (f:Int) (w:Cd) (h:ji w v ps) (sm:∀ x∈ps,Qs x.nf) (hT:∀ W,aa w W->nN W): ah 61 #[v,AN A' f] w fun e w'=>∃ u,e=AS (B_ #[u,AN A' (lp ps f).2])/\bN w.heap.size w' u (lp ps f).1/\aa w w':=by
 obtain⟨iS,hiS,MZ,M7,Na⟩:=H_ Tryz.zE;obtain⟨iB,YV,IP,IQ,IU⟩:=H_ Tryz.Hr;obtain⟨pa,pc,rfl⟩:=h.form;obtain⟨n,Kw⟩:=ag ps.length;rw[<-Kw]at h ⊢;have Si:=AF Kw;have HP:=AF h;have SM:=AF sm;have HT:=AF hT;have fin:Dl (∀ (W:Cd) (code:Int),lp ps f=(⟨[],[],[]⟩,code)->ar W w.heap.size #[An As 0 0,An As 0 0,An As 0 0] 29->aa w W->∃ u,AS (B_ #[G' #[An As 0 0,An As 0 0,An As 0 0],AN A' code])=AS (B_ #[u,AN A' (lp ps f).2])/\bN w.heap.size W u (lp ps f).1/\aa w W):=AF fun W code h1 _ h3=>by
  rw[h1];exact⟨_,rfl,⟨_,_,_,rfl,C_ _ _ _ _,bw.nil _ _,bw.nil _ _⟩,h3⟩
 clear h sm hT Kw;by_cases adx:64<n
 ·have hmi:(64:Int)<n:=by omega
  have OP:=AF (Sl (f:=f) (show 64<ps.length by rw[<-Si.out];exact adx));go_enter J2,JZ;go_wp2;refine bA ?_;intro W9 gj;have E9:Dl (ar W9 w.heap.size #[An As 0 0,An As 0 0,An As 0 0] 29/\aa w W9):=by rw[gj];exact AF ⟨ar.new _ _ _,((Ext.refl w).alloc _).below⟩
  clear gj;obtain⟨⟨m0,m1,m2⟩,_⟩:=E9.1.three;refine AT (v:=B_ #[G' #[An As 0 0,An As 0 0,An As 0 0],AN A' 5]) (by simp[results,Bs,go_sem,m0,m1,m2]) rfl (fin W9 5 OP E9.1 E9.2)
 ·have hmi:¬ ((64:Int)<n):=by omega
  have s4:ps.length<=64:=by rw[<-Si.out];omega
  have qQ:= @run_makeMap Ft;go_enter J2,JZ;go_wp2;go_loopw [6,24] (fun av iv wr=>∃ k:Nat,k<=n/\iv=AN A' k/\wr.ownsRow (w.heap.size+1) 56 4 av (cH (ps.take k)).length (aP (cH (ps.take k)))/\(cH (ps.take k)).length<=400*k/\(∀ (i:Nat) (x:PT),i<k->ps[i]? =AI x->x.ok=true)/\ar wr w.heap.size #[An As 0 0,An As 0 0,An As 0 0] 29/\aa w wr) (fun _ iv _=>n-(intOf iv).toNat);case atStart=>exact⟨0,F_ _,rfl,C_ _ _ _ _,F_ _,fun i x h=>absurd h (Nat.not_lt_zero _),ar.new _ _ _,((Ext.refl w).alloc _).below⟩
  case round=>
   obtain⟨k,hk,rfl,ho,ow,hall,hb,hx⟩:=hrel;obtain⟨wo,rfl⟩:=ag (wr:Cd);have HO:=AF ho;have Cy:=AF hall;have HB:=AF hb;have HX:=AF hx;have HPO:=AF (HP.below hx);have U7:w.heap.size<wo.heap.size:=hb.lt;obtain⟨A,hA⟩:=ag ((cH (ps.take k)).length);rw[<-hA]at HO ow;have HAn:=AF hA;clear ho hall hb hx hA;by_cases hlt:k<n
   ·have eE:(k:Int)<n:=by omega
    obtain⟨x,hx⟩:∃ x,ps[k]? =AI x:=⟨_,az (by have:=Si.out;omega)⟩;obtain⟨b,off,v0,v1,v2,v3,rfl,hb,Dr,q0,q1,q2,q3,q4,q5,q6⟩:=HPO.elem hx;obtain⟨x0,n0,c0,x1,n1,c1,x2,n2,c2,x3,n3,c3,rfl,rfl,rfl,rfl⟩:=Dr.QG;have KC:=AF Dr;have U6:=AF hx;have SX:Dl (Qs x.nf):=AF (SM.out x (aw hx));clear hx Dr;go_wp2_with fail
    refine aI ?_;intro V hV;have BX:Dl (ar V wo.heap.size #[An x0 n0 c0,An x1 n1 c1,An x2 n2 c2,An x3 n3 c3,GG x.nf.emp,GG x.zQ,AN A' x.mark] 124):=AF (by rw[hV];exact ar.new wo _ _);have XV:Dl (aa wo V):=AF (by rw[hV];exact((Ext.refl wo).alloc _).below);clear hV q0 q1 q2 q3 q4 q5 q6;refine(wD (G' #[An x0 n0 c0,An x1 n1 c1,An x2 n2 c2,An x3 n3 c3,GG x.nf.emp]) x.nf V (KC.below XV) SX).mono ?_;rintro e w2 ⟨rfl,hx2⟩;have B2:=AF (BX.below hx2 BX.lt);have X2:=AF (XV.trans (hx2.mono XV.size));clear hx2 BX XV;have C8:=AF (HB.below X2 U7);have X9:=AF (HX.trans (X2.mono HX.size));have O2:=AF (ak HO X2)
    have S2:Dl (cY w2 (An x0 n0 c0) x.nf.aN/\n0=x.nf.aN.length):=AF (by
     obtain⟨u0,u1,u2,u3,e,h0,h1,h2,h3⟩:=KC.out;cases e;obtain⟨a9,c9,e9⟩:=h0.1.form;refine⟨h0.1.below X2,?_⟩
     cases e9;rfl)
    have agV:wo.heap.size<=w2.heap.size:=X2.size;obtain⟨r0,r1,r2,r3,r4,r5,r6⟩:=B2.seven;obtain⟨⟨k0,k1,k2⟩,z0,z1,z2⟩:=C8.three;by_cases hr:x.nf.right=true
    ·have Ntx:=(eW _).1 hr
     rw[hr];by_cases vn:x.mark<0
     ·have d1:decide (x.mark<0)=true:=decide_eq_true vn
      have G6:=AF (Cx (f:=f) s4 U6 (by rw[PT.xz];omega));go_wp2;refine bA ?_;intro W9 gj;have E9:Dl (ar W9 w.heap.size #[An As 0 0,An As 0 0,An As 0 0] 29/\aa w W9):=by rw[gj];exact AF ⟨C8.yU,iA X9 (aG _)⟩
      clear gj z0 z1 z2 k0 k1 k2;obtain⟨⟨m0,m1,m2⟩,_⟩:=E9.1.three;refine AT (v:=B_ #[G' #[An As 0 0,An As 0 0,An As 0 0],AN A' 180]) (by simp[results,Bs,go_sem,m0,m1,m2]) rfl (fin W9 180 G6 E9.1 E9.2)
     ·have d1:decide (x.mark<0)=false:=decide_eq_false vn
      by_cases rY:255<x.mark
      ·have d2:decide (255<x.mark)=true:=decide_eq_true rY
       have G6:=AF (Cx (f:=f) s4 U6 (by rw[PT.xz];omega));go_wp2;refine bA ?_;intro W9 gj;have E9:Dl (ar W9 w.heap.size #[An As 0 0,An As 0 0,An As 0 0] 29/\aa w W9):=by rw[gj];exact AF ⟨C8.yU,iA X9 (aG _)⟩
       clear gj z0 z1 z2 k0 k1 k2;obtain⟨⟨m0,m1,m2⟩,_⟩:=E9.1.three;refine AT (v:=B_ #[G' #[An As 0 0,An As 0 0,An As 0 0],AN A' 180]) (by simp[results,Bs,go_sem,m0,m1,m2]) rfl (fin W9 180 G6 E9.1 E9.2)
      ·have d2:decide (255<x.mark)=false:=decide_eq_false rY
       have hle:=Ntx.le;go_wp2_with (at_builtin;refine Hid.out ?_);refine AF ?_;refine nz rfl (.tmp 43) (.tmp 46) 26 rfl (w.heap.size+1) 56 iS (G' #[AN IT 0,AN IT 0,AN IT 0,AN IT 0]) 4 32 If hiS MZ M7 Na rfl (by decide) u6 A _ rfl O2 (An x0 n0 c0) x.nf.aN.length (aP x.nf.aN) rfl S2.1.src (cP _) (gQ _) (by unfold maxLen;omega) (by omega) (by omega) ?_;intro v' w5 hown hgrow;have O5:=AF hown;have X5:Dl (Below (w.heap.size+1) w2 w5):=AF ((Below.refl _ w2).grown hgrow (by omega) (fun c e=>(O2.lt c e).1));clear hown hgrow r0 r1 r2 r3 r4 r5 r6;go_wp2;go_roundw;case rel=>
        refine⟨k+1,by omega,by go_num,?_,?_,fun i y hi hy=>?_,C8.below X5 (by omega),X9.trans (X5.mono (by omega))⟩
        ·rw[si U6.out,aJ,gO, <-HAn.out]
         exact O5
        ·rw[si U6.out,aJ, <-HAn.out]
         omega
        ·by_cases e:i<k
         ·exact Cy i y e hy
         ·obtain rfl:i=k:=by omega
          rw[U6.out]at hy;cases hy;exact(PT.xz _).2 ⟨hr,by omega,by omega⟩
       case measure=>simp[intOf];omega
    ·rw[Bool.not_eq_true]at hr
     rw[hr];have G6:=AF (Cx (f:=f) s4 U6 (by rw[PT.xz];rw[hr];simp));go_wp2;refine bA ?_;intro W9 gj;have E9:Dl (ar W9 w.heap.size #[An As 0 0,An As 0 0,An As 0 0] 29/\aa w W9):=by rw[gj];exact AF ⟨C8.yU,iA X9 (aG _)⟩
     clear gj z0 z1 z2 k0 k1 k2;obtain⟨⟨m0,m1,m2⟩,_⟩:=E9.1.three;refine AT (v:=B_ #[G' #[An As 0 0,An As 0 0,An As 0 0],AN A' 180]) (by simp[results,Bs,go_sem,m0,m1,m2]) rfl (fin W9 180 G6 E9.1 E9.2)
   ·obtain rfl:k=n:=by omega
    clear hlt hk;have eE:¬ ((k:Int)<k):=by omega
    have eT:ps.take k=ps:=by rw[Si.out];exact GB
    have km:Dl (ps.all PT.ok=true):=AF (Z0 fun i x hx=>Cy i x (by have:=(AM.1 hx).1;have:=Si.out;omega) hx);rw[eT]at HO HAn;clear eT Cy;by_cases hf0:f<0
    ·have d1:decide (f<0)=true:=decide_eq_true hf0
     obtain⟨⟨k0,k1,k2⟩,z0,z1,z2⟩:=HB.three;have G6:=AF (Fx (f:=f) s4 km (.inl hf0));go_wp2;refine bA ?_;intro W9 gj;have E9:Dl (ar W9 w.heap.size #[An As 0 0,An As 0 0,An As 0 0] 29/\aa w W9):=by rw[gj];exact AF ⟨HB.yU,iA HX (aG _)⟩
     clear gj z0 z1 z2 k0 k1 k2;obtain⟨⟨m0,m1,m2⟩,_⟩:=E9.1.three;refine AT (v:=B_ #[G' #[An As 0 0,An As 0 0,An As 0 0],AN A' 2]) (by simp[results,Bs,go_sem,m0,m1,m2]) rfl (fin W9 2 G6 E9.1 E9.2)
    ·have d1:decide (f<0)=false:=decide_eq_false hf0
     by_cases hf4:4000<f
     ·have d2:decide (4000<f)=true:=decide_eq_true hf4
      obtain⟨⟨k0,k1,k2⟩,z0,z1,z2⟩:=HB.three;have G6:=AF (Fx (f:=f) s4 km (.inr hf4));go_wp2;refine bA ?_;intro W9 gj;have E9:Dl (ar W9 w.heap.size #[An As 0 0,An As 0 0,An As 0 0] 29/\aa w W9):=by rw[gj];exact AF ⟨HB.yU,iA HX (aG _)⟩
      clear gj z0 z1 z2 k0 k1 k2;obtain⟨⟨m0,m1,m2⟩,_⟩:=E9.1.three;refine AT (v:=B_ #[G' #[An As 0 0,An As 0 0,An As 0 0],AN A' 2]) (by simp[results,Bs,go_sem,m0,m1,m2]) rfl (fin W9 2 G6 E9.1 E9.2)
     ·have d2:decide (4000<f)=false:=decide_eq_false hf4
      obtain⟨P,hP⟩:=ag (partsOf (cH ps));obtain⟨K,hK⟩:=ag P.length;have Xk:K<=256:=by rw[hK,hP,(fA _).length_eq];exact ey _
      have G6:=AF hP;have GU:=AF hK;have CA:Dl (∀ W v,cY W v (cH ps)->ah 110 #[v] W fun e w'=>∃ b,e=AS (Bm (AI ⟨b,0,As⟩))/\cQ w' W.heap.size (Bm (AI ⟨b,0,As⟩)) P/\aa W w'):=AF fun W v h=>by
       have:=jJ (cH ps) v W h (by have:=HAn.out;omega);rwa[<-hP]at this
      have CL:Dl (∀ W x bx,cQ W bx (Bm (AI ⟨x,0,As⟩)) P->ah 111 #[Bm (AI ⟨x,0,As⟩)] W fun e w'=>e=AS (AN A' K)/\w'=W):=AF fun W x bx h=>by rw[hK];exact Kf _ _ _ _ h
      have CS:Dl (∀ W x bx (k:Nat) s,P[k]? =AI s->cQ W bx (Bm (AI ⟨x,0,As⟩)) P->ah 112 #[Bm (AI ⟨x,0,As⟩),AN A' k] W fun e w'=>e=AS (B_ #[G' (encS s),GG true])/\Ext W w'):=AF fun W x bx k s hs h=>by
       have:=Kh _ bx P k W h;rw[sQ,hs]at this;exact this
      have CM:Dl (∀ W x bx (k:Nat),k<P.length->cQ W bx (Bm (AI ⟨x,0,As⟩)) P->ah 113 #[Bm (AI ⟨x,0,As⟩),AN A' k] W fun e w'=>e=AS (B_ #[AN H' (lb P k),GG true])/\Ext W w'):=AF fun W x bx k hk h=>by
       have:=zH _ bx P k W h;rw[hP,wz (by rw[<-hP];exact hk), <-hP]at this;exact this
      have ZU:Dl (∀ k,k<P.length->lb P k<256):=AF fun k hk=>by rw[hP];exact Ko (by rw[<-hP];exact hk)
      clear hP hK;have HS:=AF (jn (by rw[<-HAn.out];exact HO.out:wo.ownsRow (w.heap.size+1) 56 4 u6 (cH ps).length (aP (cH ps))));go_wp2_with fail
      refine(CA wo u6 HS).mono ?_;rintro e w2 ⟨ba,rfl,ha,hx⟩;obtain⟨bal,adz⟩:=ag wo.heap.size;rw[<-adz]at ha;have AL:=AF ha;clear adz;have B2:=AF (HB.below hx U7);have X2:=AF (HX.trans (hx.mono HX.size));clear ha hx CA HB HX HPO HO HS;obtain⟨F,rfl⟩:∃ F:Nat,f=F:=⟨f.toNat,by omega⟩;have hF4:F<=4000:=by omega
      go_wp2_with fail
      refine aI ?_;intro V hV;have BM0:ar V (w2.heap.size+1) #[An pa k pc,AN A' F,An As 0 0,.map (AI w2.heap.size),An As 0 0,An As 0 0,An As 0 0] 196:=by rw[hV];exact(ar.new (w2.alloc _) _ _).at (by simp)
      have MS0:lB V w2.heap.size []:=by have h5:lB (w2.alloc (.map #[] 0)) w2.heap.size []:=GS w2 _;rw[hV];exact h5.below ((Ext.refl _).alloc _).below
      have XV0:aa w2 V:=by rw[hV];exact(((Ext.refl w2).alloc _).alloc _).below
      clear hV;obtain⟨mb,oH⟩:=ag (w2.heap.size+1);rw[<-oH]at BM0 ⊢;have BM:=AF BM0;have MS:=AF MS0;have XV:=AF XV0;have Jl:=AF oH;have AV:=AF (AL.below XV0);have A4:Dl (∀ W',ae (fun x=>x<V.heap.size/\x≠mb) V W'->cQ W' bal (Bm (AI ⟨ba,0,As⟩)) P):=AF fun W' h=>AL.keeps ((ae.ai XV fun _ h=>h:ae (· <w2.heap.size) w2 V).tr (h.mono fun x hx=>⟨aD hx XV.size,by have h5:x<w2.heap.size:=hx;have:=Jl.out;omega⟩)) fun _ _ h=>h
      clear BM0 MS0 XV0 oH AL;refine(CL _ _ _ AV).mono ?_;rintro e w' ⟨rfl,hw⟩;replace hw:=hw.symm;subst hw;go_wp2;go_loopw [11,65] (fun lv iv wr=>∃ (j:Nat) (cv:Value),j<=K/\iv=AN A' j/\ar wr mb #[An pa k pc,AN A' F,An As 0 0,.map (AI w2.heap.size),cv,An As 0 0,An As 0 0] 196/\wr.ownsRow V.heap.size 56 4 cv j (aP (P.take j))/\wr.ownsRow V.heap.size 5 1 lv j (((A_ j).map (lb P)).map cU)/\ae (fun x=>x<V.heap.size/\x≠mb) V wr) (fun _ iv _=>K-(intOf iv).toNat);case atStart=>exact⟨0,_,F_ _,rfl,BM,C_ _ _ _ _,C_ _ _ _ _,ae.refl _ _⟩
      case round=>
       obtain⟨j,c,hj,rfl,hb,hc,ho,hx⟩:=hrel;obtain⟨wo,rfl⟩:=ag (wr:Cd);have hVo:V.heap.size<=wo.heap.size:=hx.size;have ah6:mb<V.heap.size:=BM.lt;have HB:=AF hb;have Sr:=AF hc;have HO:=AF ho;have HX:=AF hx;have AJ:=AF (A4.out wo hx);clear hb hc ho hx;by_cases hlt:j<K
       ·obtain⟨s,hs⟩:∃ s,P[j]? =AI s:=⟨_,az (by have:=GU.out;omega)⟩
        have hjp:j<P.length:=by rw[<-GU.out];exact hlt
        have Ui:=ZU.out j hjp;obtain⟨q,hq⟩:=ag (lb P j);rw[<-hq]at Ui;have HSs:=AF hs;have ku:(j:Int)<K:=by omega
        clear hs;have CS1:Dl (∀ W',cQ W' bal (Bm (AI ⟨ba,0,As⟩)) P->ah 112 #[Bm (AI ⟨ba,0,As⟩),AN A' j] W' fun e w'=>e=AS (B_ #[G' (encS s),GG true])/\Ext W' w'):=AF fun W' h=>CS W' ba _ j s HSs h
        have KN:Dl (∀ W',cQ W' bal (Bm (AI ⟨ba,0,As⟩)) P->ah 113 #[Bm (AI ⟨ba,0,As⟩),AN A' j] W' fun e w'=>e=AS (B_ #[AN H' q,GG true])/\Ext W' w'):=AF fun W' h=>by rw[hq];exact CM W' ba _ j hjp h
        have HQS:Dl (P.take (j+1)=P.take j++ [s]):=AF (by rw[C',HSs.out];rfl);have HQL:Dl (((A_ (j+1)).map (lb P)).map cU=((A_ j).map (lb P)).map cU++ [AN H' q]):=AF (by rw[List.range_succ,D',D',hq];rfl);clear hq Ui hjp HSs;go_wp2_with fail
        refine(CS1 _ AJ).mono ?_;rintro e w5 ⟨rfl,hx⟩;have Y5:=AF hx;have hw5:wo.heap.size<=w5.heap.size:=hx.size;clear hx;go_wp2_with fail
        refine aI ?_;intro V3 cX;have S3:Dl (ar V3 w5.heap.size (encS s) 56):=by rw[cX];exact ar.new _ _ _
        have Y6:Dl (Ext wo V3):=by rw[cX];exact Y5.alloc _
        clear cX Y5;refine(KN _ (AJ.below Y6.below)).mono ?_;rintro e w6 ⟨rfl,hx⟩;have S6:=AF (S3.ext hx);have Y7:=AF (Y6.trans hx);clear hx S3 Y6;have TP:=AF (ak Sr Y7.below);have jH:=AF (ak HO Y7.below);have iQ:=AF (HB.ext Y7);have hw6:wo.heap.size<=w6.heap.size:=Y7.size;have gF:=AF (HX.tr (ae.ai Y7.below fun x hx=>aD hx.1 hVo));have L1:=AF fun x e=>(Sr.lt x e).2
        have L2:=AF fun x e=>(HO.lt x e).2
        clear Sr HO HB HX;obtain⟨ca,cc,rfl⟩:=ownsRow_form TP;obtain⟨oa,oc,rfl⟩:=ownsRow_form jH;have hct:Dl ((An ca j cc).ownBlock=As\/(An ca j cc).ownBlock≠(An oa j oc).ownBlock):=ownBlock_ne (by decide) TP jH;have Ld:Dl ((An oa j oc).ownBlock=As\/(An oa j oc).ownBlock≠(An ca j cc).ownBlock):=ownBlock_ne (by decide) jH TP;obtain⟨XO,hXO⟩:=ag (((A_ j).map (lb P)).map cU);rw[<-hXO]at jH;have HXO:=AF hXO;clear hXO;obtain⟨PL,vv⟩:=ag ([⟨56,4,An ca j cc,j,aP (P.take j),1,(encS s).toList⟩,⟨5,1,An oa j oc,j,XO,1,[AN H' q]⟩]:List App);have pB:PL[0]? =AI ⟨56,4,An ca j cc,j,aP (P.take j),1,(encS s).toList⟩:=by rw[vv];rfl
        have xB:PL[1]? =AI ⟨5,1,An oa j oc,j,XO,1,[AN H' q]⟩:=by rw[vv];rfl
        have OK:Dl (ky w6 PL):=AF ⟨fun p hp x e=>by
          rw[vv]at hp;simp only[D_,D0,or_false]at hp;rcases hp with rfl | rfl
          ·exact(TP.lt x e).2
          ·exact(jH.lt x e).2,fun i j p q hi hj mF=>by
          have hl:PL.length=2:=by rw[vv];rfl
          have h1:=(AM.1 hi).1;have h2:=(AM.1 hj).1;rcases(show i=0\/i=1 by omega)with rfl | rfl<;>rcases(show j=0\/j=1 by omega)with rfl | rfl<;>(first | (exact absurd rfl mF) | skip)<;>(first | rw[pB]at hi | rw[xB]at hi)<;>(first | rw[pB]at hj | rw[xB]at hj)<;>cases hi<;>cases hj
          ·exact hct
          ·exact Ld⟩
        clear hct Ld;have hsz:V.heap.size<=w6.heap.size:=GH hVo hw6;have Jm:∀ x,x<V.heap.size->¬ ∃ p∈PL,p.v.ownBlock=AI x:=fun x hx ⟨p,hp,e⟩=>by
         rw[vv]at hp;simp only[D_,D0,or_false]at hp;rcases hp with rfl | rfl
         ·have:=(TP.lt _ e).1;omega
         ·have:=(jH.lt _ e).1;omega
        have Z4:=Jm mb ah6;have HKV:Dl (∀ W',bZ V.heap.size w6 PL w6 W'->ae (fun x=>x<V.heap.size/\x≠mb) V W'):=AF fun W' h=>gF.tr (h.keeps.mono fun x hx=>⟨aD hx.1 hsz,Jm x hx.1⟩)
        have EK:¬ ∃ p∈PL,p.v.ownBlock=AI w5.heap.size:=fun ⟨p,hp,e⟩=>by
         rw[vv]at hp;simp only[D_,D0,or_false]at hp;rcases hp with rfl | rfl
         ·have:=L1.out _ e;omega
         ·have:=L2.out _ e;omega
        clear vv Jm;go_wp2;refine RegG.bL (bZ V.heap.size w6 PL) (bZ.drew) (fun _ _ _ h k=>h.trans k) (by kernel_rfl) 13 [0,0,2,6,14,30,0,64,254,0,0,1024,3584,8191,16383,32767,65535,131071] (fun i=>i==7 || i==8 || i==11 || i==12 || i==16) (by kernel_rfl) (fun _=>As) (fun j hj=>(by first | rfl | (have kX:18<=j:=hj;first | exact if_neg (by omega) | (split<;>first | omega | rfl)))) (by kernel_rfl) (fun i=>if i=7 then RegG.aX.vX V.heap.size w6 PL 1 (encS s) 56 else if i=8 then RegG.aX.app V.heap.size w6 PL ⟨56,4,An ca j cc,j,aP (P.take j),1,(encS s).toList⟩ (aw pB)else if i=11 then RegG.aX.vX V.heap.size w6 PL 1 #[AN H' q] 5 else if i=12 then RegG.aX.app V.heap.size w6 PL ⟨5,1,An oa j oc,j,XO,1,[AN H' q]⟩ (aw xB)else RegG.aX.any _) ?_;intro C hC hne;have HC:=AF hC;have j7:∀ {x:Nat},x<w6.heap.size->(¬ ∃ p∈PL,p.v.ownBlock=AI x)->∀ W: {W//C W},W.1.heap[x]? =w6.heap[x]? :=fun {x} h1 h2 W=>((hC W.1).1 W.2).keeps.keep x ⟨h1,h2⟩
        have f4:∀ W: {W//C W},W.1.cell? ⟨mb,4,As⟩=AI (An ca j cc):=fun W=>((iQ.same (j7 iQ.lt Z4 W)).cell 4)
        have s0:∀ W: {W//C W},W.1.cell? ⟨w5.heap.size,0,As⟩=AI (AN IT (wd s 0).toNat):=fun W=>(S6.same (j7 S6.lt EK W)).LX.1
        have s1:∀ W: {W//C W},W.1.cell? ⟨w5.heap.size,1,As⟩=AI (AN IT (wd s 1).toNat):=fun W=>(S6.same (j7 S6.lt EK W)).LX.2.1
        have s2:∀ W: {W//C W},W.1.cell? ⟨w5.heap.size,2,As⟩=AI (AN IT (wd s 2).toNat):=fun W=>(S6.same (j7 S6.lt EK W)).LX.2.2.1
        have s3:∀ W: {W//C W},W.1.cell? ⟨w5.heap.size,3,As⟩=AI (AN IT (wd s 3).toNat):=fun W=>(S6.same (j7 S6.lt EK W)).LX.2.2.2
        clear hC j7
        repeat (refine RegG.au (fun K hK=>?_);first | (refine RegG.cg rfl ?_;try go_simp;refine hK _ _ ?_;clear hK K) | (refine RegG.bV rfl rfl ?_;unfold aF;go_simp;refine hK _ _ ?_;clear hK K))
        refine RegG.au (fun K hK=>?_);refine RegG.ct rfl rfl (RegG.aX.vX V.heap.size w6 PL 1 (encS s) 56) rfl (fun W hW hN=>?_) (fun v hv=>?_)
        ·have hM:=(HC.out W).1 hW
         clear hW hK K
         (go_simp;exact⟨.below ((Ext.refl _).alloc _).below,⟨_,rfl⟩,fun b hb=>by cases hb;exact⟨ar.new _ _ _,OK.fresh hM.size⟩⟩)
        obtain⟨x3,rfl⟩:=hv;go_simp;refine hK _ _ ?_;clear hK K;refine RegG.au (fun K hK=>?_);refine RegG.ct rfl rfl (RegG.aX.app V.heap.size w6 PL ⟨56,4,An ca j cc,j,aP (P.take j),1,(encS s).toList⟩ (aw pB)) rfl (fun W hW hN=>?_) (fun v hv=>?_)
        ·have hM:=(HC.out W).1 hW
         clear hW hK K;refine dN (w0:=w6) (PL:=PL) (p:=⟨56,4,An ca j cc,j,aP (P.take j),1,(encS s).toList⟩) (.tmp 85) (.tmp 87) 26 rfl iS _ 32 If hiS MZ M7 Na rfl (show(0:Nat)<4 from by decide) OK pB rfl (hM.old _ (aw pB) TP) ⟨x3,0,As⟩ 1 rfl rfl (cO (hN.at 0 rfl (by kernel_rfl) x3 rfl).1) (by intro u hu;simp[encS]at hu;rcases hu with rfl | rfl | rfl | rfl<;>rfl) (by show j+1<=maxLen;unfold maxLen;omega) (by show(j+1)*32<=_;omega) (GH hsz hM.size) (show(0:Nat)<1 from by decide) hM.size (fun v W' g1 g2 g3 _=>⟨g1,g2,g3⟩)
        obtain⟨ca2,cc2,rfl⟩:=hv;go_simp;refine hK _ _ ?_;clear hK K
        repeat (refine RegG.au (fun K hK=>?_);first | (refine RegG.cg rfl ?_;try go_simp;refine hK _ _ ?_;clear hK K) | (refine RegG.bV rfl rfl ?_;unfold aF;go_simp;refine hK _ _ ?_;clear hK K))
        refine RegG.au (fun K hK=>?_);refine RegG.ct rfl rfl (RegG.aX.vX V.heap.size w6 PL 1 #[AN H' q] 5) rfl (fun W hW hN=>?_) (fun v hv=>?_)
        ·have hM:=(HC.out W).1 hW
         clear hW hK K
         (go_simp;exact⟨.below ((Ext.refl _).alloc _).below,⟨_,rfl⟩,fun b hb=>by cases hb;exact⟨ar.new _ _ _,OK.fresh hM.size⟩⟩)
        obtain⟨Xl,rfl⟩:=hv;go_simp;refine hK _ _ ?_;clear hK K;refine RegG.au (fun K hK=>?_);refine RegG.ct rfl rfl (RegG.aX.app V.heap.size w6 PL ⟨5,1,An oa j oc,j,XO,1,[AN H' q]⟩ (aw xB)) rfl (fun W hW hN=>?_) (fun v hv=>?_)
        ·have hM:=(HC.out W).1 hW
         clear hW hK K;refine dN (w0:=w6) (PL:=PL) (p:=⟨5,1,An oa j oc,j,XO,1,[AN H' q]⟩) (.tmp 89) (.tmp 91) 44 rfl iB _ 1 DP YV IP IQ IU rfl (show(0:Nat)<1 from by decide) OK xB rfl (hM.old _ (aw xB) jH) ⟨Xl,0,As⟩ 1 rfl rfl (cO (hN.at 0 rfl (by kernel_rfl) Xl rfl).1) (by intro u hu;simp at hu;rw[hu];rfl) (by show j+1<=maxLen;unfold maxLen;omega) (by show(j+1)*1<=_;omega) (GH hsz hM.size) (show(0:Nat)<1 from by decide) hM.size (fun v W2 g1 g2 g3 _=>⟨g1,g2,g3⟩)
        obtain⟨oa2,oc2,rfl⟩:=hv;go_simp;refine hK _ _ ?_;clear hK K;refine RegG.bM (fun W7 hW hH=>?_);have hM:=(HC.out W7).1 hW;have Q0:Dl (After V.heap.size w6 ⟨56,4,An ca j cc,j,aP (P.take j),1,(encS s).toList⟩ W7 (An ca2 (j+1) cc2)):=AF (hH _ (aw (show _=AI _ from rfl:_[2]? =AI _)));have Q1:Dl (After V.heap.size w6 ⟨5,1,An oa j oc,j,XO,1,[AN H' q]⟩ W7 (An oa2 (j+1) oc2)):=AF (hH _ (aw (show _=AI _ from rfl:_[0]? =AI _)));have K7:=AF (HKV.out _ hM);have B7:=AF (iQ.same (hM.keeps.keep mb ⟨iQ.lt,Z4⟩));have agp:w6.heap.size<=W7.heap.size:=hM.size
        have R0:Dl (W7.ownsRow V.heap.size 56 4 (An ca2 (j+1) cc2) (j+1) (aP (P.take (j+1)))):=AF (by
         have:=Q0.1;rw[HQS.out,gO]
         simpa[aP]using this)
        have R1:Dl (W7.ownsRow V.heap.size 5 1 (An oa2 (j+1) oc2) (j+1) (((A_ (j+1)).map (lb P)).map cU)):=AF (by
         have:=Q1.1;rw[HQL.out, <-HXO.out]
         exact this)
        clear hM hW hH HC f4 s0 s1 s2 s3 pB xB OK Z4 EK HKV gF iQ S6 Y7 CS1 KN Q0 Q1 TP jH L1 L2;obtain⟨p0,p1,p2,p3,p4,p5,p6⟩:=B7.seven;have z4:=B7.frozen 4;go_wp2;go_roundw;case rel=>
         have kg:ae (· ≠mb) W7 (W7.setCell ⟨mb,4,As⟩ (An ca2 (j+1) cc2)):=(ae.refl _ _).setCell (p:=⟨mb,4,As⟩) (fun h=>h rfl) _;refine⟨j+1,_,by omega,by go_num,B7.set 4 _,?_,?_,K7.tr (kg.mono fun x hx=>hx.2)⟩
         ·exact eV R0 kg fun x h1 _ e=>by omega
         ·exact eV R1 kg fun x h1 _ e=>by omega
        case measure=>simp[intOf];omega
       ·obtain rfl:j=K:=by omega
        clear hlt hj;have ku:¬ ((j:Int)<j):=by omega
        have hkP:P.take j=P:=by rw[GU.out];exact GB
        rw[hkP]at Sr;obtain⟨ca,cc,rfl⟩:=ownsRow_form Sr;obtain⟨oa,oc,rfl⟩:=ownsRow_form HO;have hbase:w.heap.size<=w2.heap.size:=X2.size;have ao2:w2.heap.size<=V.heap.size:=XV.size;have XX:Dl (aa w wo):=AF ((X2.trans (XV.mono hbase)).trans (HX.mono fun x (hx:x<w.heap.size)=>⟨by omega,by have:=Jl.out;omega⟩:ae (· <w.heap.size) V wo).below);have Ss:((A_ j).map (lb P)).length=j:=by simp
        have CK:=AF (Sk (fun x=>(An ca j cc).ownBlock≠AI x/\(An oa j oc).ownBlock≠AI x) w2.heap.size mb w2.heap.size F (An pa k pc) (An ca j cc) (An oa j oc) ps ((A_ j).map (lb P))
         ⟨s4,fun x hx=>by
          have h5:=(PT.xz x).1 (GC.1 km x hx)
          exact⟨(eW _).1 h5.1,SM x hx,h5.2.1,h5.2.2⟩⟩ wo
         (fun x hx=>⟨fun e=>by have:=(Sr.lt x e).2;omega,fun e=>by have:=(HO.lt x e).2;omega⟩)
         ⟨_,_,_,_,_,_, {blk:=HB.out,map:=MS.keeps HX ⟨MS.lt,by have:=Jl.out;omega⟩,fm:=⟨fun e=>by have:=(Sr.lt mb e).1;omega,fun e=>by have:=(HO.lt mb e).1;omega⟩,fo:=⟨fun e=>by have:=(Sr.lt _ e).1;have:=Jl.out;omega,fun e=>by have:=(HO.lt _ e).1;have:=Jl.out;omega⟩,bm:=by have:=Jl.out;omega,bo:=aG _,st:=ig.nil _ _ _ _,TR:=fun i u r hu=>by simp at hu,uT:=ig.nil _ _ _ _,OH:=fun i u r hu=>by simp at hu,uu:=ig.nil _ _ _ _,OI:=fun i u r hu=>by simp at hu,far:=.inl rfl}⟩ hF4 (by rw[Ss];exact Xk)
         (fun c hc=>by obtain⟨i,hi,rfl⟩:=J1.1 hc;exact ZU i (by rw[<-GU.out];exact IN.1 hi))
         (fun W hW=>cZ (e:=5) (base:=V.heap.size) (aj HO hW fun x hx=>⟨(HO.lt x hx).2,.inr fun h=>h.2 hx⟩) Ss.symm)
         (fun W hW=>HP.below (XX.trans (hW.mono hbase))) (fun W hW=>HT W (XX.trans (hW.mono hbase))))
        have HST:Dl (xr ps ((A_ j).map (lb P)) F=sU ps F):=AF (VE (by rw[Ss,GU.out,G6.out]) fun i hi=>by
         rw[Ss]at hi
         rw[bu,aO,B' hi, <-G6.out];rfl)
        have B5:=AF ((B2.below XV (by have:=B2.lt;exact this)).keeps HX ⟨by have:=B2.lt;omega,by have:=B2.lt;have:=Jl.out;omega⟩);clear hkP Ss CL CS CM;go_wp2_with fail
        refine CK.mono ?_;rintro e w9 ⟨Z5,hq⟩;have B9:=AF (B5.keeps Z5 ⟨B5.lt,.inl B2.lt⟩);have K9:=AF Z5;have X9:Dl (aa w w9):=AF (XX.trans (Z5.mono fun x (hx:x<w.heap.size)=>⟨aD hx XX.size,.inl (by omega)⟩:ae (· <w.heap.size) wo w9).below);clear Z5;obtain⟨⟨k0,k1,k2⟩,z0,z1,z2⟩:=B9.three;rcases hq with⟨st,hst,rfl,hM⟩ | ⟨hno,rfl⟩
        ·obtain⟨sv9,nv9,kv9,us9,ns9,ks9,M⟩:=hM
         have Uc:=M.uT.1;have EW:=M.uu.1;obtain⟨n9,hn9⟩:=ag ((st.2.map fun r=>r.map JY).length);obtain⟨k9,Z5⟩:=ag st.1.length;rw[<-hn9]at Uc;rw[<-Z5]at EW;obtain⟨na,nc,rfl⟩:=ownsRow_form Uc;obtain⟨ma,mc,rfl⟩:=ownsRow_form EW;have M9:=AF M;obtain⟨y0,y1,y2,y3,y4,y5,y6⟩:=M.blk.seven;have HPZ:=AF (Sq (f:=F) s4 km hF4 (by rw[<-HST.out];exact hst));clear M hst Uc EW hn9 Z5;go_wp2;refine bA ?_;intro W9 gj;have E9:Dl (ar W9 w.heap.size #[An ca j cc,An na n9 nc,An ma k9 mc] 29/\ae (· ≠w.heap.size) w9 W9):=by rw[gj];exact AF ⟨B9.yU,((((ae.refl _ _).setCell (p:=⟨w.heap.size,0,As⟩) (fun h=>h rfl) _).setCell (p:=⟨w.heap.size,1,As⟩) (fun h=>h rfl) _).setCell (p:=⟨w.heap.size,2,As⟩) (fun h=>h rfl) _)⟩
         clear gj z0 z1 z2 k0 k1 k2 y0 y1 y2 y3 y4 y5 y6;obtain⟨⟨m0,m1,m2⟩,_⟩:=E9.1.three;refine AT (v:=B_ #[G' #[An ca j cc,An na n9 nc,An ma k9 mc],AN A' 0]) (by simp[results,Bs,go_sem,m0,m1,m2]) rfl ?_;rw[HPZ.out];have hw2:w.heap.size<w2.heap.size:=B2.lt;refine⟨_,rfl,⟨_,_,_,rfl,?_,?_,?_⟩,X9.trans (E9.2.mono fun x (hx:x<w.heap.size)=>Nat.ne_of_lt hx:ae (· <w.heap.size) w9 W9).below⟩
         ·show W9.ownsRow w.heap.size 56 4 _ (partsOf (cH ps)).length _
          rw[<-G6.out, <-GU.out];refine aH (base:=V.heap.size) ?_ (by omega);refine aj (aj Sr K9 fun x hx=>⟨(Sr.lt x hx).2,.inr fun h=>h.1 hx⟩) E9.2 fun x hx=>by have:=(Sr.lt x hx).1;show x≠w.heap.size;omega
         ·have h5:bw w2.heap.size w9 (An na n9 nc) (st.2.map fun r=>r.map JY):=MX.own ⟨_,M9.uT,M9.OH⟩
          exact(h5.keeps E9.2 fun x h1 _=>by show x≠w.heap.size;omega).base hbase
         ·have h5:bw w2.heap.size w9 (An ma k9 mc) (st.1.map (dP ps)):=MX.own ⟨_,by rw[aQ];exact M9.uu,M9.OI⟩
          exact(h5.keeps E9.2 fun x h1 _=>by show x≠w.heap.size;omega).base hbase
        ·have HPZ:=AF (Sn (f:=F) s4 km hF4 (by rw[<-HST.out];exact hno))
         clear hno;go_wp2;refine bA ?_;intro W9 gj;have E9:Dl (ar W9 w.heap.size #[An As 0 0,An As 0 0,An As 0 0] 29/\aa w W9):=by rw[gj];exact AF ⟨B9.yU,iA X9 (aG _)⟩
         clear gj z0 z1 z2 k0 k1 k2;obtain⟨⟨m0,m1,m2⟩,_⟩:=E9.1.three;refine AT (v:=B_ #[G' #[An As 0 0,An As 0 0,An As 0 0],AN A' 181]) (by simp[results,Bs,go_sem,m0,m1,m2]) rfl (fin W9 181 HPZ E9.1 E9.2)
end
section
open Go Go.RowKit
def sj (d:DF) (s:Nat):List Nat:=(d.nx.getD s []).map Dm
def eG (L:List Nat) (t:Nat):List Nat:=if t∈L then L else L++ [t]
def kT (d:DF):Nat->List Nat
 | 0=>[0]
 | n+1=>match(kT d n)[n]? with
  | none=>kT d n
  | some s=>(sj d s).foldl eG (kT d n)
def ck (d:DF):List Nat:=kT d d.nx.length
structure Le (N:Nat) (L:List Nat):Prop where
 nodup:L.Nodup
 lt:∀ t∈L,t<N
 pos:0<L.length
theorem Le.len {N:Nat} {L:List Nat} (h:Le N L):L.length<=N:=lj _ _ h.nodup h.lt
theorem Le.add {N:Nat} {L:List Nat} (h:Le N L) {t:Nat} (ht:t<N):Le N (eG L t):=by
 unfold eG;split
 ·exact h
 ·rename_i hn
  refine⟨?_,fun x hx=>?_,by simp⟩
  ·rw[List.nodup_append]
   refine⟨h.nodup,by simp,fun a ha b hb=>?_⟩;simp at hb;subst hb;intro e;subst e;exact hn ha
  ·rcases List.mem_append.1 hx with hx | hx
   ·exact h.lt x hx
   ·simp at hx;omega
theorem Le.fold {N:Nat} :∀ (ts:List Nat) {L:List Nat},Le N L->(∀ t∈ts,t<N)->Le N (ts.foldl eG L)
 | [],_,h,_=>h
 | t::ts,L,h,ht=>by
  rw[IF];exact Le.fold ts (h.add (ht t (aY ..))) fun x hx=>ht x (bC _ hx)
theorem NC {l:List Nat} {k t:Nat} (L:List Nat) (h:l[k]? =AI t):(l.take (k+1)).foldl eG L=eG ((l.take k).foldl eG L) t:=by rw[C',h,Option.toList_some,Is];rfl
theorem Su (L:List Nat) (t:Nat):L.length<=(eG L t).length:=by unfold eG;split<;>simp
theorem Fy:∀ (ts L:List Nat),L.length<=(ts.foldl eG L).length
 | [],_=>aG _
 | t::ts,L=>GH (Su L t) (Fy ts _)
theorem Sv (L:List Nat) (t:Nat) {i x:Nat} (h:L[i]? =AI x):(eG L t)[i]? =AI x:=by
 unfold eG;split
 ·exact h
 ·rw[bK (AM.1 h).1];exact h
theorem Fz {i x:Nat} :∀ (ts L:List Nat),L[i]? =AI x->(ts.foldl eG L)[i]? =AI x
 | [],_,h=>h
 | t::ts,L,h=>Fz ts _ (Sv L t h)
theorem Sw {d:DF} (rt:Rt d) {s k:Nat} (hs:s<d.nx.length) (hk:k<d.cl.length):∃ t:Nat,t<d.nx.length/\(d.nx.getD s [])[k]? =AI (t:Int)/\(sj d s)[k]? =AI t:=by have hl:=rt.len s hs;have hz:(d.nx.getD s [])[k]? =AI ((d.nx.getD s [])[k]'(by omega)):=az (by omega);have hr:=rt.iV s hs _ (aw hz);refine⟨((d.nx.getD s [])[k]'(by omega)).toNat,by omega,by rw[hz];congr 1;omega,?_⟩;unfold sj;rw[aO,hz];rfl
theorem vw {d:DF} (rt:Rt d) {s:Nat} (hs:s<d.nx.length):(sj d s).length=d.cl.length:=by unfold sj;rw[aQ,rt.len s hs]
theorem Cz {d:DF} (rt:Rt d) {s:Nat} (hs:s<d.nx.length):∀ t∈sj d s,t<d.nx.length:=fun t ht=>by
 obtain⟨z,hz,rfl⟩:=J1.1 ht;have:=rt.iV s hs z hz;omega
theorem tz {d:DF} (rt:Rt d):∀ n,Le d.nx.length (kT d n)
 | 0=>⟨by simp[kT],fun t ht=>by simp[kT]at ht;have:=rt.pos;omega,by simp[kT]⟩
 | n+1=>by
  have h:=tz rt n;rw[kT];cases e:(kT d n)[n]? with
  | none=>exact h
  | some s=>
   have hs:=h.lt s (aw e);exact h.fold _ (Cz rt hs)
theorem FC {d:DF} {n s:Nat} (h:(kT d n)[n]? =AI s):kT d (n+1)=(sj d s).foldl eG (kT d n):=by rw[kT,h]
theorem xC {d:DF} {n:Nat} (h:(kT d n).length<=n):∀ k,kT d (n+k)=kT d n
 | 0=>rfl
 | k+1=>by
  have ih:=xC h k;rw[<-I_,kT,ih,aS (by omega)]
theorem FD {d:DF} {n:Nat} (h:(kT d n).length<=n) (hn:n<=d.nx.length):ck d=kT d n:=by have:=xC h (d.nx.length-n);rw[show n+(d.nx.length-n)=d.nx.length by omega]at this;exact this
theorem gv {d:DF} (rt:Rt d):Le d.nx.length (ck d):=tz rt _
def nX (N:Nat) (L:List Nat):List Int:=(A_ N).map fun t=>if t∈L then 1 else 0
theorem oT (N:Nat) (L:List Nat):(nX N L).length=N:=by simp[nX]
theorem sq {N t:Nat} (L:List Nat) (h:t<N):(nX N L)[t]? =AI (if t∈L then 1 else 0):=by unfold nX;rw[aO,B' h];rfl
theorem Aw {N t:Nat} (L:List Nat) (h:t<N):(nX N L).set t 1=nX N (L++ [t]):=by
 apply By;intro j;rw[Gz];by_cases hj:j<N
 ·rw[sq _ hj,sq _ hj]
  by_cases e:t=j
  ·subst e;simp[oT,h]
  ·rw[if_neg e]
   have:(j∈L++ [t])↔j∈L:=by simp;intro e2;exact absurd e2.symm e
   simp only[this]
 ·rw[if_neg (by omega),aS (by rw[oT];omega),aS (by rw[oT];omega)]
theorem FE {N:Nat} (h:0<N):(FF N (0:Int)).set 0 1=nX N [0]:=by
 have e:FF N (0:Int)=nX N []:=by
  apply By;intro j;by_cases hj:j<N
  ·rw[sq _ hj,Dn,if_pos hj];simp
  ·rw[aS (by simp;omega),aS (by rw[oT];omega)]
 rw[e,Aw [] h];rfl
theorem Sx (L:List Nat) (t:Nat):t∈eG L t:=by unfold eG;split<;>simp_all
theorem Sy {L:List Nat} {t x:Nat} (h:x∈L):x∈eG L t:=by unfold eG;split<;>simp_all
theorem sub_fold {x:Nat} :∀ (ts:List Nat) {L:List Nat},x∈L->x∈ts.foldl eG L
 | [],_,h=>h
 | _::ts,_,h=>sub_fold ts (Sy h)
theorem FH {x:Nat} :∀ (ts:List Nat) (L:List Nat),x∈ts->x∈ts.foldl eG L
 | t::ts,L,h=>by
  rw[IF];rcases D_.1 h with rfl | h
  ·exact sub_fold ts (Sx _ _)
  ·exact FH ts _ h
theorem sr {d:DF} {n i x:Nat} (h:(kT d n)[i]? =AI x):∀ k,(kT d (n+k))[i]? =AI x
 | 0=>h
 | k+1=>by
  have ih:=sr h k;rw[<-I_,kT];cases (kT d (n+k))[n+k]? with
  | none=>exact ih
  | some s=>exact Fz _ _ ih
theorem mh {d:DF} (rt:Rt d) {s t:Nat} (hs:s∈ck d) (ht:t∈sj d s):t∈ck d:=by
 obtain⟨k,hk⟩:=GW hs;have AZ:=(AM.1 hk).1;have hle:=(gv rt).len;have hkk:k<(kT d k).length:=by
  rcases Nat.lt_or_ge k (kT d k).length with h | h
  ·exact h
  ·have:=FD h (by omega)
   rw[this]at AZ;omega
 obtain⟨s',hs'⟩:∃ s',(kT d k)[k]? =AI s':=⟨_,az hkk⟩;have e:=sr hs' (d.nx.length-k);rw[show k+(d.nx.length-k)=d.nx.length by omega]at e;have e2:s'=s:=by have:(ck d)[k]? =AI s':=e;rw[hk]at this;exact(Option.some.inj this).symm
 subst e2;have hm:t∈kT d (k+1):=by rw[FC hs'];exact FH _ _ ht
 obtain⟨i,hi⟩:=GW hm;have e3:=sr hi (d.nx.length-(k+1));rw[show k+1+(d.nx.length-(k+1))=d.nx.length by omega]at e3;exact aw e3
def qD (d:DF) (s:Nat):List Int:=(sj d s).map fun t=>((ck d).idxOf t:Int)
def bD (d:DF):DF:=⟨d.cl,(ck d).map (qD d),(ck d).map fun s=>d.mr.getD s []⟩
def xD (N:Nat) (L:List Nat) (i:Nat):List Int:=(A_ N).map fun t=>if L.idxOf t<i then(L.idxOf t:Int)else 0
theorem sw (N:Nat) (L:List Nat) (i:Nat):(xD N L i).length=N:=by simp[xD]
theorem vx {N t:Nat} (L:List Nat) (i:Nat) (h:t<N):(xD N L i)[t]? =AI (if L.idxOf t<i then(L.idxOf t:Int)else 0):=by unfold xD;rw[aO,B' h];rfl
theorem ND (N:Nat) (L:List Nat):FF N (0:Int)=xD N L 0:=by
 apply By;intro j;by_cases hj:j<N
 ·rw[vx _ _ hj,Dn,if_pos hj,if_neg (by omega)]
 ·rw[aS (by simp;omega),aS (by rw[sw];omega)]
theorem NG {L:List Nat} (hn:L.Nodup) {i s:Nat} (h:L[i]? =AI s):L.idxOf s=i:=by obtain⟨hi,he⟩:=AM.1 h;subst he;exact hn.idxOf_getElem i hi
theorem Jn {L:List Nat} {t:Nat} (h:t∈L):L[L.idxOf t]? =AI t:=by have:=E_ h;rw[az this,List.getElem_idxOf this]
theorem Sz {N i s:Nat} {L:List Nat} (hn:L.Nodup) (h:L[i]? =AI s) (hs:s<N):(xD N L i).set s (i:Int)=xD N L (i+1):=by
 apply By;intro j;rw[Gz];by_cases hj:j<N
 ·rw[vx _ _ hj,vx _ _ hj]
  by_cases e:s=j
  ·subst e
   rw[if_pos rfl,sw,if_pos hs,NG hn h,if_pos (by omega)]
  ·rw[if_neg e]
   have hne:L.idxOf j≠i:=fun e2=>by
    have hi:=(AM.1 h).1;have hm:j∈L:=List.idxOf_lt_length_iff.1 (by omega);have:=Jn hm;rw[e2,h]at this;exact e (Option.some.inj this)
   by_cases e3:L.idxOf j<i
   ·rw[if_pos e3,if_pos (by omega)]
   ·rw[if_neg e3,if_neg (by omega)]
 ·rw[if_neg (by omega),aS (by rw[sw];omega),aS (by rw[sw];omega)]
theorem SD {N t:Nat} {L:List Nat} (h:t∈L) (hs:t<N):(xD N L L.length)[t]? =AI (L.idxOf t:Int):=by rw[vx _ _ hs,if_pos (E_ h)]
end
section
open Go Go.RowKit Go.Shelf Go.Maps
theorem CD (v:Value) (d:DF) (rt:Rt d) (w:Cd) (h:dr w v d): ah 82 #[v] w fun e w'=>e=AS (G' (dc d.cl))/\aa w w':=by
 obtain⟨v0,v1,v2,rfl,h0,h1,h2⟩:=h;obtain⟨a0,c0,rfl⟩:=h0.1.form;obtain⟨a1,c1,rfl⟩:=h1.form;obtain⟨a2,c2,rfl⟩:=h2.form;have H0:=AF h0.1;have CO:Dl (∀ W,cY W (An a0 d.cl.length c0) d.cl->ah 110 #[An a0 d.cl.length c0] W fun e w'=>∃ b,e=AS (Bm (AI ⟨b,0,As⟩))/\cQ w' W.heap.size (Bm (AI ⟨b,0,As⟩)) d.cl/\aa W w'):=fun W h=>by
  have:=jJ d.cl _ W h (by have:=rt.Bk;omega);rwa[rt.cl]at this
 have CT:Dl (∀ b base W,cQ W base (Bm (AI ⟨b,0,As⟩)) d.cl->ah 143 #[Bm (AI ⟨b,0,As⟩)] W fun e w'=>e=AS (G' (dc d.cl))/\Ext W w'):=fun b base W h=>Mi _ base d.cl W h
 clear h0 h1 h2;have hsz:=jK;have hz:=lQ;generalize d.cl.length=n0 at*;go_enter Tryz.func82,Tryz.ntmps82;go_wp2_with fail
 refine aI ?_;intro V hV;have B2:Dl (ar V (w.heap.size+1) (dc []) 149):=by rw[hV];exact(ar.new (w.alloc _) _ _).at (by simp)
 have X1:Dl (aa w V):=by rw[hV];exact(((Ext.refl w).alloc _).alloc _).below
 clear hV;refine(CO _ (H0.below X1)).mono ?_;rintro e w2 ⟨b,rfl,ha,hx⟩;have B3:=AF (B2.below hx B2.lt);have X2:=AF (X1.trans (hx.mono X1.size));have A2:=AF ha;clear ha hx B2 X1;go_wp2_with fail
 refine(CT _ _ _ A2).mono ?_;rintro e w3 ⟨rfl,hx⟩;have B4:=AF (B3.ext hx);have X3:=AF (X2.trans (hx.below.mono X2.size));clear hx B3 X2;go_wp2_with (refine wpList_store_row rfl 149 (.tmp 2) (.tmp 6) rfl (w.heap.size+1) (dc d.cl) rfl rfl 149 (dc []) B4 (by rw[bO];exact hsz) (by rw[bO,bO]) (lR _) ?_);refine AT (results_cell_row rfl _ _ (w.heap.size+1) 149 (dc d.cl) (0,0) _ rfl B4.setRow Tryz.underlying149 rfl (by rw[bO];exact jK)) rfl ⟨rfl,Below.UB X3 (by omega) _⟩
def ew {α:Type} (enc:α->Value) (w:Cd) (v:Value) (l:List α):Prop:=bQ enc w v l\/(l=[]/\∃ a c,v=An a 0 c)
theorem ew.below {α:Type} {enc:α->Value} {w w':Cd} {v:Value} {l:List α} (h:ew enc w v l) (hk:aa w w'):ew enc w' v l:=h.imp (fun h=>h.below hk) id
theorem ew.form {α:Type} {enc:α->Value} {w:Cd} {v:Value} {l:List α} (h:ew enc w v l):∃ a cap,v=An a l.length cap:=by
 rcases h with h | ⟨rfl,a,c,rfl⟩
 ·exact h.form
 ·exact⟨a,c,rfl⟩
theorem ew.sl {α:Type} {enc:α->Value} {w:Cd} {v:Value} {l:List α} (h:ew enc w v l) {k:Nat} {x:α} (hx:l[k]? =AI x):bQ enc w v l:=by
 rcases h with h | ⟨rfl,_⟩
 ·exact h
 ·cases hx
def bG (d:DF) (s:Nat) (b:List Nat):Nat:=b.foldl (fun s c=>en d s (cls d.cl c)) s
theorem NH {d:DF} {s:Nat} {b:List Nat} {k c:Nat} (h:b[k]? =AI c):bG d s (b.take (k+1))=en d (bG d s (b.take k)) (cls d.cl c):=by unfold bG;rw[C',h,Is];rfl
theorem fD {d:DF} (rt:Rt d) {s:Nat} (hs:s<d.nx.length):∀ (b:List Nat),(∀ c∈b,c<256)->bG d s b<d.nx.length:=by
 intro b;induction b generalizing s with
 | nil=>intro _;exact hs
 | cons c r ih=>intro h;exact ih (rt.iY hs (rt.part.dB (h c (by simp)))) (fun x hx=>h x (by simp[hx]))
theorem FJ (v bv:Value) (d:DF) (rt:Rt d) (sm:Sm d) (s:Nat) (hs:s<d.nx.length) (b:List Nat) (hb:∀ c∈b,c<256) (NI:b.length<=1000000) (w:Cd) (h:dr w v d) (OQ:ew cU w bv b): ah 41 #[v,AN A' s,bv] w fun e w'=>e=AS (B_ #[AN A' (bG d s b),AN A' 0])/\aa w w':=by
 have CR:Dl (∀ W,aa w W->ah 16 #[v] W fun e w'=>e=AS (GG true)/\aa W w'):=fun W hW=>by
  have:=oD v d W (h.below hW) sm;rwa[(dF d).2 rt]at this
 have CT:Dl (∀ W,aa w W->ah 82 #[v] W fun e w'=>e=AS (G' (dc d.cl))/\aa W w'):=fun W hW=>CD v d rt W (h.below hW)
 obtain⟨v0,v1,v2,rfl,h0,h1,h2⟩:=h;obtain⟨a0,c0,rfl⟩:=h0.1.form;obtain⟨a1,c1,rfl⟩:=h1.form;obtain⟨a2,c2,rfl⟩:=h2.form;obtain⟨ab,cb,rfl⟩:=OQ.form;obtain⟨n1,fH⟩:=ag d.nx.length;obtain⟨nb,pZ⟩:=ag b.length;have sH:=AF fH;have GR:=AF pZ;have hs1:s<n1:=by omega
 have RA:n1<=4000:=by rw[fH];exact rt.le
 rw[<-fH]at h1 CR CT ⊢;rw[<-pZ]at OQ NI ⊢;have H1:=AF h1;have HBV:=AF OQ;have HB:=AF hb;have RT:=AF rt;have e1:decide ((s:Int)<0)=false:=decide_eq_false (by omega);have e2:decide ((n1:Int)<=s)=false:=decide_eq_false (by omega);have e3:decide (n1<=s)=false:=decide_eq_false (by omega);have hsz:=jK;have hz:=lQ;clear h0 h1 h2 OQ fH pZ hb;go_enter Tryz.func41,Tryz.ntmps41;go_wp2_with fail
 refine aI ?_;intro V hV;have B1:Dl (ar V w.heap.size #[An a0 d.cl.length c0,An a1 n1 c1,An a2 d.mr.length c2] 29):=by rw[hV];exact ar.new w _ _
 have X1:Dl (aa w V):=by rw[hV];exact((Ext.refl w).alloc _).below
 clear hV;refine(CR _ X1).mono ?_;rintro e w2 ⟨rfl,hx⟩;have B2:=AF (B1.below hx B1.lt);have X2:=AF (X1.trans (hx.mono X1.size));clear hx B1 X1;obtain⟨⟨k0,k1,k2⟩,_⟩:=B2.three;go_wp2_with fail
 refine(CT _ X2).mono ?_;rintro e w3 ⟨rfl,hx⟩;have B3:=AF (B2.below hx B2.lt);have X3:=AF (X2.trans (hx.mono X2.size));clear hx B2 X2 k0 k1 k2 e1 e2 e3 CR CT;have hst:=run_storeCells_new (P:=Ft) w3 149 (dc []) (dc d.cl) (by rw[bO];exact hsz) (by rw[bO,bO]) (lR _);have hs0:=bO d.cl;go_wp2;refine aA ?_;intro V2 hV2;have B4:Dl (ar V2 w.heap.size #[An a0 d.cl.length c0,An a1 n1 c1,An a2 d.mr.length c2] 29):=by rw[hV2];exact B3.alloc _
 have T4:Dl (ar V2 w3.heap.size (dc d.cl) 149):=by rw[hV2];exact ar.new _ _ _
 have X4:Dl (aa w V2):=by rw[hV2];exact X3.alloc X3.size _
 clear hV2 hst hs0 hz hsz B3 X3;go_loopw [29,1] (fun i sv wr=>∃ k:Nat,k<=nb/\i=AN A' k/\sv=AN A' (bG d s (b.take k))/\aa V2 wr) (fun i _ _=>nb-(intOf i).toNat);case atStart=>exact⟨0,by omega,rfl,rfl,Below.refl _ _⟩
 case round=>
  obtain⟨k,hk,rfl,rfl,hx⟩:=hrel;obtain⟨wo,rfl⟩:=ag (wr:Cd);have HX:=AF hx;have B5:=AF (B4.below hx B4.lt);have T5:=AF (T4.below hx T4.lt);have X5:=AF (X4.trans (hx.mono X4.size));clear hx;by_cases hlt:k<nb
  ·obtain⟨c,hc⟩:∃ c,b[k]? =AI c:=⟨_,az (by have:=GR.out;omega)⟩
   have jf:=HB.out c (aw hc);have HT:=AF (NH (d:=d) (s:=s) hc);have j8:=fD RT (s:=s) (by rw[<-sH.out];exact hs1) (b.take k) (fun x hx=>HB x (List.mem_of_mem_take hx));obtain⟨g0,o0,rfl,hg0,x0⟩:=((HBV.sl hc).below X5).elem hc;replace x0:wo.cell? ⟨g0,o0+k,As⟩=AI (AN H' c):=x0;generalize bG d s (b.take k)=sv at HT j8 ⊢;obtain⟨l,hl⟩:∃ l,d.nx[sv]? =AI l:=⟨_,az j8⟩;obtain⟨g1,o1,e1,k1,rfl,hg1,x1,y1⟩:=(H1.below X5).elem hl;obtain⟨q,hq⟩:=ag (cls d.cl c);have hql:q<d.cl.length:=by rw[hq];exact RT.part.dB jf
   have hll:l.length=d.cl.length:=by have:=RT.len sv j8;rwa[getD_some hl]at this
   obtain⟨r,hr⟩:=ag (en d sv q);have hlr:l[q]? =AI (r:Int):=by have:=RT.Qf j8 hql;rwa[getD_some hl, <-hr]at this
   obtain⟨g2,o2,rfl,hg2,x2⟩:=y1.elem hlr;replace x2:wo.cell? ⟨g2,o2+q,As⟩=AI (AN A' r):=x2;have x3:wo.cell? ⟨w3.heap.size,c,As⟩=AI (AN H' q):=by rw[hq];exact(T5.cell c).trans (vS _ jf)
   have b1:=B5.cell 1;simp only[DQ,DE,DH]at b1;have kS:sv<n1:=by rw[sH.out];exact j8
   have hci:(c:Int)<256:=by omega
   have GI:(sv:Int)<n1:=by omega
   obtain⟨j,hj⟩:=ag l.length;have hqj:q<j:=by omega
   have hqi:(q:Int)<j:=by omega
   rw[<-hj]at x1;have eE:(k:Int)<nb:=by omega
   have HRQ:=AF hr;have HQ:=AF hq;clear hc hl y1 hlr hll hql hq hr hj j8;go_wp2;refine aL false (fun _=>False) (by kernel_rfl) 11 [0,1,0,7,15,0,32,96,255,511,1023] (fun i=>false) (by kernel_rfl) (fun i=>aX.any _) ?_;intro C hC hne;have HC:=AF hC;have f0:=aC hC (p:=⟨w.heap.size,1,As⟩) (by have:=B5.lt;exact this) (fun h=>h) b1;have f1:=aC hC (p:=⟨g1,o1+sv,As⟩) hg1 (fun h=>h) x1;have f2:=aC hC (p:=⟨g2,o2+q,As⟩) hg2 (fun h=>h) x2;have f3:=aC hC (p:=⟨w3.heap.size,c,As⟩) (by have:=T5.lt;exact this) (fun h=>h) x3;clear hC b1 x1 x2 x3 x0
   repeat (refine au (fun K hK=>?_);first | (refine cg rfl ?_;try go_simp;refine hK _ _ ?_;clear hK K) | (refine bV rfl rfl ?_;unfold aF;go_simp;refine hK _ _ ?_;clear hK K))
   refine bM (fun W hW hH=>?_);have hM:=(HC.out W).1 hW;have XX:=AF (HX.trans (hM.below.mono HX.size));clear hM hW hH HC HX f0 f1 f2 f3;go_wp2;go_roundw;case rel=>exact⟨k+1,by omega,by go_num,by rw[HT.out, <-HQ.out, <-HRQ.out],XX⟩
   case measure=>simp[intOf];omega
  ·obtain rfl:k=nb:=by omega
   have eT:b.take k=b:=by rw[GR.out];exact GB
   rw[eT];clear eT;go_wp2
   go_ret2
   exact⟨rfl,X5⟩
theorem zg (v bv:Value) (d:DF) (rt:Rt d) (sm:Sm d) (b:List Nat) (hb:∀ c∈b,c<256) (NI:b.length<=1000000) (w:Cd) (h:dr w v d) (OQ:ew cU w bv b): ah 78 #[v,bv] w fun e w'=>∃ u,e=AS (B_ #[u,AN A' 0])/\w'.ownsRow w.heap.size 3 1 u (d.mr.getD (bG d 0 b) []).length ((d.mr.getD (bG d 0 b) []).map aM)/\aa w w':=by
 have CR:Dl (∀ W,aa w W->ah 41 #[v,AN A' 0,bv] W fun e w'=>e=AS (B_ #[AN A' (bG d 0 b),AN A' 0])/\aa W w'):=fun W hW=>FJ v bv d rt sm 0 rt.pos b hb NI W (h.below hW) (OQ.below hW)
 obtain⟨v0,v1,v2,rfl,h0,h1,h2⟩:=h;obtain⟨a0,c0,rfl⟩:=h0.1.form;obtain⟨a1,c1,rfl⟩:=h1.form;obtain⟨a2,c2,rfl⟩:=h2.form;obtain⟨ab,cb,rfl⟩:=OQ.form;have j8:=fD rt rt.pos b hb;rw[<-rt.mr]at j8;generalize bG d 0 b=sv at CR j8 ⊢;obtain⟨m,hm⟩:∃ m,d.mr[sv]? =AI m:=⟨_,az j8⟩;rw[getD_some hm];obtain⟨g1,o1,e1,k1,rfl,hg1,x1,y1⟩:=h2.elem hm;have lm:=sm.Yw m (aw hm);have GI:(sv:Int)<(d.mr.length:Nat):=by omega
 obtain⟨n2,jg⟩:=ag d.mr.length;rw[<-jg]at j8 GI CR ⊢;have Y1:=AF y1;obtain⟨j,hj⟩:=ag m.length;rw[<-hj]at x1 Y1;have HJ:=AF hj;have LM:=AF lm;have X0:=AF x1;clear h0 h1 h2 hm y1 OQ hb NI rt sm jg hj lm x1;go_enter Tryz.func78,Tryz.ntmps78;go_wp2_with fail
 refine aI ?_;intro V hV;have B1:Dl (ar V w.heap.size #[An a0 d.cl.length c0,An a1 d.nx.length c1,An (AI ⟨g1,o1,As⟩) n2 c2] 29):=by rw[hV];exact ar.new w _ _
 have X1:Dl (aa w V):=by rw[hV];exact((Ext.refl w).alloc _).below
 clear hV;refine(CR _ X1).mono ?_;rintro e w2 ⟨rfl,hx⟩;have B2:=AF (B1.below hx B1.lt);have X2:=AF (X1.trans (hx.mono X1.size));clear hx B1 X1 CR;have b2:=B2.cell 2;simp only[DQ,DE,DH]at b2;have x2:w2.cell? ⟨g1,o1+sv,As⟩=AI (An e1 j k1):=(Ha X2).1 g1 (o1+sv) hg1▸X0.out;go_wp2_with fail
 refine(kO _ m _ (Y1.below X2) LM).mono ?_;rintro e w3 ⟨ur,rfl,ho,hx⟩;have O3:=AF (aH ho X2.size);have X3:=AF (X2.trans (hx.mono X2.size));clear ho hx b2 x2;go_wp2
 go_ret2
 exact⟨_,rfl,O3,X3⟩
end
section
open Go Go.RowKit
theorem VF {α:Type} {P:List α->Prop} (h0:P []) (h1:∀ l x,P l->P (l++ [x])) (l:List α):P l:=by
 have key:∀ r:List α,P r.reverse:=fun r=>by
  induction r with
  | nil=>exact h0
  | cons x r ih=>rw[List.reverse_cons];exact h1 _ _ ih
 have:=key l.reverse;rwa[List.reverse_reverse]at this
def aid (ps:List PT) (st:List (List (List Int))×List (List Nat)):DF:=⟨partsOf (cH ps),st.2.map fun r=>r.map JY,st.1.map (dP ps)⟩
end
section
open Go Go.RowKit Go.Shelf Go.Maps
structure Ps (ps:List PT):Prop where
 len:ps.length<=64
 ok:∀ x∈ps,Nt x.nf/\Qs x.nf/\0<=x.mark/\x.mark<=255
theorem Ps.all {ps:List PT} (h:Ps ps):ps.all PT.ok=true:=by rw[GC];intro x hx;obtain⟨h1,_,h3,h4⟩:=h.ok x hx;unfold PT.ok;rw[(eW _).2 h1,decide_eq_true h3,decide_eq_true h4];rfl
theorem VG {w:Cd} {b:Nat} {v0 v1 v2 v3:Value} {x:PT} {t:GO} (h:ar w b #[v0,v1,v2,v3,GG x.nf.emp,GG x.zQ,AN A' x.mark] t) (hn:lx w (G' #[v0,v1,v2,v3,GG x.nf.emp]) x.nf):ji w (An (AI ⟨b,0,As⟩) 1 1) [x]:=by
 obtain⟨h0,h1,h2,h3,h4,h5,h6⟩:=h.seven;refine .inr ⟨b,0,1,rfl,h.lt,fun i y hy=>?_⟩;cases i with
 | zero=>cases hy;exact⟨v0,v1,v2,v3,hn,h0,h1,h2,h3,h4,h5,h6⟩
 | succ i=>simp at hy
theorem VH {ps:List PT} (h:Ps ps) {f:Int} (h0:0<=f) (h1:f<=4000):(lp ps f).2=0\/(lp ps f).2=181:=by
 unfold lp;rw[if_neg (by have:=h.len;omega),if_neg (by rw[h.all];simp),if_neg (by omega)];split
 ·exact .inr rfl
 ·exact .inl rfl
theorem SF {ps:List PT} {f:Int} {d:DF} (h:lp ps f=(d,0)):∃ st,f<=4000/\0<=f/\sU ps f.toNat=AI st/\d=aid ps st:=by obtain⟨_,_,h0,h1,st,h2,h3⟩:=Nu (ps:=ps) (f:=f) (by rw[h]);rw[h]at h3;exact⟨st,h1,h0,h2,h3⟩
theorem FK {P:List PT} (h:Ps P) {f:Int} {d:DF} {code:Int} (he:lp P f=(d,code)) {n0 n1 n2:Nat} (h0:n0=d.cl.length) (h1:n1=d.nx.length) (h2:n2=d.mr.length) (W:Cd) (u:Value) (hu:ji W u P) (hT:∀ V,aa W V->nN V): ah 61 #[u,AN A' f] W (qB n0 n1 n2 code d W):=(NB u P f W hu (fun x hx=>(h.ok x hx).2.1) hT).mono fun e w' ⟨r,hr,hd,hx⟩=>by
 rw[he]at hr hd;subst h0 h1 h2;obtain⟨a0,c0,a1,c1,a2,c2,rfl⟩:=hd.form;exact⟨a0,c0,a1,c1,a2,c2,hr,hd,hx⟩
def T1 (l:List (Nat×Nat×Nat)) (zQ:Bool):List PT:=Vt [(l,zQ,0)]
theorem SG {ps:List PT} {f:Int} (h:(lp ps f).2=181):(lp ps f).1=⟨[],[],[]⟩:=by
 unfold lp at h ⊢;split
 ·rfl
 ·split
  ·rfl
  ·split
   ·rfl
   ·split
    ·rfl
    ·rename_i h1 h2 h3 _ st hs
     rw[if_neg h1,if_neg h2,if_neg h3,hs]at h;cases h
def qE (fl i:Nat) (s:List (Nat×Nat×Nat)):PT:=⟨(gY (s.take 12)).nf,fl/2^i%2==1,((i*(fl/64):Nat):Int)⟩
def di (l:List (List (Nat×Nat×Nat))) (fl:Nat):List PT:=(l.take 3).mapIdx (qE fl)
theorem uD (l:List (List (Nat×Nat×Nat))) (fl:Nat):(di l fl).length=min 3 l.length:=by unfold di;rw[List.length_mapIdx,GF]
theorem FM {l:List (List (Nat×Nat×Nat))} {fl k:Nat} {s:List (Nat×Nat×Nat)} (h:l[k]? =AI s) (hk:k<3):(di l fl)[k]? =AI (qE fl k s):=by unfold di;rw[G_,List.getElem?_take_of_lt hk,h];rfl
theorem CG {l:List (List (Nat×Nat×Nat))} {fl k:Nat} {s:List (Nat×Nat×Nat)} (h:l[k]? =AI s) (hk:k<3):(di l fl).take (k+1)=(di l fl).take k++ [qE fl k s]:=by rw[C',FM h hk];rfl
theorem xE (l:List (List (Nat×Nat×Nat))) (fl:Nat) (hf:fl<256):Ps (di l fl):=⟨by rw[uD];omega,fun x hx=>by
 obtain⟨i,hi⟩:=List.mem_iff_getElem?.1 hx;unfold di at hi;rw[G_]at hi;obtain⟨s,hs,rfl⟩:=Option.map_eq_some_iff.1 hi;have hi3:=(AM.1 hs).1;rw[GF]at hi3;have ht:Nt (gY (s.take 12)).nf:=ES (nR _).clean (nR _).cI;have h1:i*(fl/64)<=2*3:=Nat.mul_le_mul (by omega) (by omega)
 exact⟨ht,ht.smn,by unfold qE;dsimp only;omega,by unfold qE;dsimp only;omega⟩⟩
theorem NJ (l:List (List (Nat×Nat×Nat))) (fl:Nat) (hf:fl<256):(∃ d,lp (di l fl) 60=(d,0)/\Rt d/\d.nx.length<=60)\/lp (di l fl) 60=(⟨[],[],[]⟩,181):=by
 rcases VH (xE l fl hf) (f:=60) (by decide) (by decide)with h | h
 ·refine .inl ⟨(lp (di l fl) 60).1,Prod.ext rfl h,Ns (Prod.ext rfl h),?_⟩
  obtain⟨st,_,_,h2,h3⟩:=SF (ps:=di l fl) (f:=60) (d:=(lp (di l fl) 60).1) (Prod.ext rfl h);have I:=La h2;rw[h3];show(st.2.map _).length<=60;rw[aQ,I.len];exact Nat.min_le_left _ _
 ·exact .inr (Prod.ext (SG h) h)
theorem Z8 {t:RX} (tf:t.fine) (ts:t.size<=120) (tp:t.cI<=400) (zQ:Bool):Ps [⟨t.nf,zQ,0⟩]:=⟨by show 1<=64;omega,fun x hx=>by
 obtain rfl:=List.mem_singleton.1 hx
 have hn:Nt t.nf:=ES (by
  unfold RX.clean;rw[Bool.and_eq_true,GC]
  exact⟨decide_eq_true (by omega),tf⟩) tp
 exact⟨hn,hn.smn,Int.le_refl _,by show(0:Int)<=255;decide⟩⟩
theorem kD (v:Value) (t:RX) (tf:t.fine) (ts:t.size<=120) (tp:t.cI<=400) (zQ:Bool) (f:Int) {d:DF} {code:Int} (he:lp [⟨t.nf,zQ,0⟩] f=(d,code)) {m0 m1 m2:Nat} (h0:m0=d.cl.length) (h1:m1=d.nx.length) (h2:m2=d.mr.length) (w:Cd) (h:aK (· <w.heap.size) w v t) (hT:∀ W,aa w W->nN W): ah 53 #[v,GG zQ,AN A' f] w (qB m0 m1 m2 code d w):=by
 have CN:Dl (∀ W,aa w W->ah 59 #[v] W fun e w'=>∃ u,e=AS (B_ #[u,AN A' 0])/\ik W.heap.size w' u t.nf/\aa W w'):=AF fun W hW=>(Al v t W ((h.mV hW).mono fun b hb=>aD hb hW.size) tf ts tp)
 have CO:Dl (∀ W u,aa w W->ji W u [⟨t.nf,zQ,0⟩]->ah 61 #[u,AN A' f] W (qB m0 m1 m2 code d W)):=AF fun W u hW hu=>FK (Z8 tf ts tp zQ) he h0 h1 h2 W u hu fun V hV=>hT V (hW.trans (hV.mono hW.size))
 obtain⟨ta,tc,rfl⟩:=h.form;clear h hT he h0 h1 h2;generalize t.kind=nk at*;generalize t.set=ns at*;generalize t.mn=ni at*;generalize t.mx=nx at*;generalize t.subs.length=nl at*;unfold aq at*;go_enter Tryz.func53,Tryz.ntmps53;go_upto_region 1 with fail
 refine aA ?_;intro V0 hV;have BR:Dl (ar V0 w.heap.size #[AN H' nk,AN IT (wd ns 0).toNat,AN IT (wd ns 1).toNat,AN IT (wd ns 2).toNat,AN IT (wd ns 3).toNat,AN A' ni,AN A' nx,An ta nl tc] 97):=AF (by rw[hV];exact(ar.new w _ _).alloc _);have BZ:Dl (ar V0 (w.heap.size+1) #[An As 0 0,An As 0 0,An As 0 0] 29):=AF (by rw[hV];exact(ar.new (w.alloc _) _ _).at (by simp));have X0:Dl (aa w V0):=AF (by rw[hV];exact(((Ext.refl w).alloc _).alloc _).below);clear hV;have r0:=BR.cell 0;have r1:=BR.cell 1;have r2:=BR.cell 2;have r3:=BR.cell 3;have r4:=BR.cell 4;have r5:=BR.cell 5;have r6:=BR.cell 6;have r7:=BR.cell 7;simp only[DQ,DE,DH]at r0 r1 r2 r3 r4 r5 r6 r7;go_wp2_with fail
 refine(CN V0 X0).mono ?_;rintro e w1 ⟨u,rfl,ho,hx⟩;obtain⟨a0,n0,c0,a1,n1,c1,a2,n2,c2,a3,n3,c3,rfl⟩:=ho.form;have HO:=AF ho;have X1:=AF (X0.trans (hx.mono X0.size));have XA:Dl (aa V0 w1):=AF hx;clear ho hx CN r0 r1 r2 r3 r4 r5 r6 r7 X0 BR;go_upto_region 2 with fail
 refine aA ?_;intro V hV;have BN:Dl (ar V w1.heap.size #[An a0 n0 c0,An a1 n1 c1,An a2 n2 c2,An a3 n3 c3,GG t.nf.emp] 118):=AF (by rw[hV];exact ar.new w1 _ _);have XV:Dl (aa w1 V):=AF (by rw[hV];exact((Ext.refl w1).alloc _).below);clear hV;have jH:=AF (HO.below XV);have X2:=AF (X1.trans (XV.mono X1.size));have f0:V.cell? ⟨w1.heap.size,0,As⟩=AI (An a0 n0 c0):=BN.cell 0;have f1:V.cell? ⟨w1.heap.size,1,As⟩=AI (An a1 n1 c1):=BN.cell 1;have f2:V.cell? ⟨w1.heap.size,2,As⟩=AI (An a2 n2 c2):=BN.cell 2;have f3:V.cell? ⟨w1.heap.size,3,As⟩=AI (An a3 n3 c3):=BN.cell 3;have f4:V.cell? ⟨w1.heap.size,4,As⟩=AI (GG t.nf.emp):=BN.cell 4;have qR:Dl (V0.heap.size<=V.heap.size):=AF (XA.trans (XV.mono XA.size)).size;have Y1:=AF (XA.trans (XV.mono XA.size));clear XV BN HO X1 XA;go_wp2_with fail
 refine(CO _ _ (X2.trans (((Ext.refl V).alloc _).below.mono X2.size)) (VG (x:=⟨t.nf,zQ,0⟩) (ar.new V _ _) (jH.nf.below ((Ext.refl V).alloc _).below))).mono ?_;rintro e w2 ⟨x0,y0,x1,y1,x2,y2,rfl,ho,hx⟩;have hx2:aa V w2:=((Ext.refl V).alloc _).below.trans (hx.mono (by simp));have X3:=AF (X2.trans (hx2.mono X2.size));have BZ2:=AF (BZ.below (Y1.trans (hx2.mono Y1.size)) BZ.lt);have HD:=AF ho;clear ho hx hx2 CO f0 f1 f2 f3 f4 jH X2 Y1;obtain⟨z0,z1,z2⟩:=bN.qC BZ2;have z3:=BZ2.frozen 0;have z4:=BZ2.frozen 1;have z5:=BZ2.frozen 2;go_wp2;generalize hW:((w2.setCell ⟨w.heap.size+1,0,As⟩ (An x0 m0 y0)).setCell ⟨w.heap.size+1,1,As⟩ (An x1 m1 y1)).setCell ⟨w.heap.size+1,2,As⟩ (An x2 m2 y2)=W3;have BF:Dl (ar W3 (w.heap.size+1) #[An x0 m0 y0,An x1 m1 y1,An x2 m2 y2] 29):=AF (by rw[<-hW];exact((BZ2.set 0 _).set 1 _).set 2 _);have KF:ae (· ≠w.heap.size+1) w2 W3:=by
  rw[<-hW];exact(((ae.refl _ _).setCell (p:=⟨w.heap.size+1,0,As⟩) (fun h=>h rfl) _).setCell (p:=⟨w.heap.size+1,1,As⟩) (fun h=>h rfl) _).setCell (p:=⟨w.heap.size+1,2,As⟩) (fun h=>h rfl) _
 have HKF:=AF KF;clear hW z0 z1 z2 z3 z4 z5 KF;obtain⟨z0,z1,z2⟩:=bN.qC BF;have hVw:w.heap.size+1<V.heap.size:=aD BZ.lt qR;refine AT (v:=B_ #[G' #[An x0 m0 y0,An x1 m1 y1,An x2 m2 y2],AN A' code]) (by simp[results,Tryz.results53,go_sem,z0,z1,z2]) rfl ⟨x0,y0,x1,y1,x2,y2,rfl,(HD.keeps HKF fun b hb _=>?_).base ?_,?_⟩
 ·have:V.heap.size+1<=b:=by simpa using hb
  show b≠w.heap.size+1;omega
 ·simp;omega
 ·exact X3.trans (HKF.mono fun x (hx:x<w.heap.size)=>by show x≠w.heap.size+1;omega:ae (· <w.heap.size) w2 W3).below
structure iU (b:Nat) (t:GO) (x:Array Value) (W W':Cd):Prop where
 mv:Move false (· =b) W W'
 old:(∃ c,ar W b c t/\c.size=x.size)->∃ c,ar W' b c t/\c.size=x.size
 new:ar W b x t->ar W' b x t
theorem iU.trans {b:Nat} {t:GO} {x:Array Value} {A B C:Cd} (h:iU b t x A B) (k:iU b t x B C):iU b t x A C:=⟨h.mv.trans k.mv,fun hb=>k.old (h.old hb),fun hb=>k.new (h.new hb)⟩
theorem iU.below {b:Nat} {t:GO} {x:Array Value} {W W':Cd} (h:aa W W'):iU b t x W W':=
 ⟨((Move.ai h:Move false (fun _=>False) W W').mono fun _ h=>False.elim h),fun ⟨d,hc,hs⟩=>⟨d,hc.below h hc.lt,hs⟩,fun hc=>hc.below h hc.lt⟩
theorem iU.drew (b:Nat) (t:GO) (x:Array Value) (w:Cd):iU b t x w w.drew:=.below (Ext.refl w).drew.below
theorem iU.store {b:Nat} {t:GO} {x:Array Value} {W W':Cd} (h:Move false (· =b) W W') (hn:ar W' b x t):iU b t x W W':=⟨h,fun _=>⟨x,hn,rfl⟩,fun _=>hn⟩
theorem iU.keeps {b:Nat} {t:GO} {x:Array Value} {W W':Cd} (h:iU b t x W W'):ae (fun k=>k<W.heap.size/\¬k=b) W W':=h.mv.keeps
def aX.wrote (b:Nat) (t:GO) (x:Array Value):aX (iU b t x):=⟨fun _=>True,fun _ W=>ar W b x t,undef,trivial,fun _ _ _ hm _ h=>hm.new h⟩
def aX.rowOf (n:Nat) (cs:Array Value) (t:GO):aX (Move false (fun _=>False)) where
 P:=fun v=>∃ b,v=An (AI ⟨b,0,As⟩) n n
 H:=fun v W=>∀ b,v=An (AI ⟨b,0,As⟩) n n->ar W b cs t
 ot:=An (AI ⟨0,0,As⟩) n n
 pw:=⟨0,rfl⟩
 st:=fun _ _ _ hm _ h b hb=>(h b hb).below hm.below (h b hb).lt
end
section
open Go Go.RowKit
set_option maxRecDepth 100000
def mi (l:List Nat):List Nat:=l.flatMap fun x=>[x%256,x/256%256,x/65536%256,x/16777216%256]
theorem FN:∀ {l m:List Nat},(∀ x∈l,x<4294967296)->(∀ x∈m,x<4294967296)->mi l=mi m->l=m
 | [],[],_,_,_=>rfl
 | [],y::m,_,_,h=>by simp[mi]at h
 | x::l,[],_,_,h=>by simp[mi]at h
 | x::l,y::m,hl,hm,h=>by
  have hx:=hl x aY;have hy:=hm y aY;unfold mi at h;rw[GA,GA]at h;injection h with h0 h
  injection h with h1 h
  injection h with h2 h
  injection h with h3 h
  rw[FN (l:=l) (m:=m) (fun z hz=>hl z (bC _ hz)) (fun z hz=>hm z (bC _ hz)) h,show x=y by omega]
theorem FP (l:List Nat):(mi l).length=4*l.length:=by
 induction l with
 | nil=>rfl
 | cons x l ih=>
  unfold mi at ih ⊢;rw[GA,aJ,ih];simp only[List.length_cons,List.length_nil];omega
theorem CU (l:List Nat):∀ c∈mi l,c<256:=fun c hc=>by
 unfold mi at hc;obtain⟨x,_,hx⟩:=List.mem_flatMap.1 hc;simp only[D_,D0,or_false]at hx;rcases hx with rfl | rfl | rfl | rfl<;>exact Nat.mod_lt _ (by decide)
end
section
open Go Go.RowKit Go.Shelf Go.Maps
def G7 (l:List Nat):List UInt8:=l.map J3
theorem Lf:∀ {a b:List Nat},(∀ c∈a,c<256)->(∀ c∈b,c<256)->G7 a=G7 b->a=b
 | [],[],_,_,_=>rfl
 | [],y::b,_,_,h=>by simp[G7]at h
 | x::a,[],_,_,h=>by simp[G7]at h
 | x::a,y::b,ha,hb,h=>by
  unfold G7 at h;rw[I',I']at h;injection h with h0 h1
  have hx:=ha x aY;have hy:=hb y aY;have h2:=congrArg UInt8.toNat h0;rw[FG,FG]at h2;rw[Lf (fun c hc=>ha c (bC _ hc)) (fun c hc=>hb c (bC _ hc)) h1,show x=y by omega]
def kU (l:List Nat):List UInt8:=G7 (mi l)
theorem xF (l:List Nat):(kU l).length=4*l.length:=by unfold kU G7;rw[aQ,FP]
theorem xG {l m:List Nat} (hl:∀ x∈l,x<4294967296) (hm:∀ x∈m,x<4294967296) (h:kU l=kU m):l=m:=FN hl hm (Lf (CU l) (CU m) h)
theorem VI {W:Cd} {base n:Nat} {a:Option Addr} {c:Nat} {bs:List Nat} (hn:n=bs.length) (hb:∀ c∈bs,c<256) (h:W.ownsRow base 5 1 (An a n c) n (bs.map cU)):(convert 44 9 (An a n c)).run Ft W=.ok (ja (G7 bs)) W:=by
 rcases h.2 with⟨e1,e2⟩ | ⟨g,cap,cur,e1,_,_,_⟩
 ·cases e1
  obtain rfl:=List.eq_nil_of_length_eq_zero hn.symm;exact Lib.run_convert_nil_bytes W _ _ _ 0 DP It Iv
 ·cases e1
  subst hn;have hsz:(⟨(G7 bs).toArray⟩:ByteArray).size=bs.length:=by show(G7 bs).toArray.size=_;rw[List.size_toArray];exact aQ _
  have hc:Lib.Bytes W g 0 ⟨(G7 bs).toArray⟩:=fun i hi=>by
   rw[hsz]at hi;have h5:=h.cells (g:=g) rfl i (cU bs[i]) (by rw[aO,az hi];rfl);rw[Addr.add_mid]at h5;rw[h5];have h6:=hb bs[i] (List.getElem_mem hi);have h7:((⟨(G7 bs).toArray⟩:ByteArray)[i]'(by rw[hsz];exact hi))=J3 bs[i]:=by show(G7 bs).toArray[i]'_=_;simp[G7]
   rw[h7,FG,show bs[i]%2^8=bs[i] by omega];rfl
  have h8:=Lib.run_convert_whole (P:=Ft) W 44 5 9 DP It Iv g 0 ⟨(G7 bs).toArray⟩ hc c;rw[hsz]at h8;exact h8
theorem NK (l:List Nat) (x:Nat):mi (l++ [x])=mi l++ [x%256,x/256%256,x/65536%256,x/16777216%256]:=by unfold mi;rw[List.flatMap_append];simp
theorem NL (w:Cd) (x y z u:Value) (t:GO):∀ j v,[x,y,z,u][j]? =AI v->(w.alloc (.cells #[x,y,z,u] t)).cell? ((⟨w.heap.size,0,As⟩:Addr).add j)=AI v:=by
 intro j v hj;match j,hj with
 | 0,hj=>simp at hj;subst hj;simp[Addr.add]
 | 1,hj=>simp at hj;subst hj;simp[Addr.add]
 | 2,hj=>simp at hj;subst hj;simp[Addr.add]
 | 3,hj=>simp at hj;subst hj;simp[Addr.add]
theorem Tryz.SH:(Ft.info? 5).map (fun i=>(i.zero,i.size,i.bytes))=AI (AI (AN H' 0),1,1):=by kernel_rfl
theorem qF (v:Value) (l:List Int) (hl:∀ x∈l,0<=x/\x<4294967296) (hn:l.length<=100000) (w:Cd) (h:bQ aM w v l): ah 139 #[v] w fun e w'=>e=AS (ja (kU (l.map Dm)))/\aa w w':=by
 obtain⟨iB,YV,IP,IQ,IU⟩:=H_ Tryz.SH;obtain⟨a,c,rfl⟩:=h.form;obtain⟨n,jB⟩:=ag l.length;rw[<-jB]at h hn ⊢;have H:=AF h;have HN:=AF jB;have HL:=AF hl;obtain⟨R,hR⟩:=ag (ja (kU (l.map Dm)));have HR:=AF hR;rw[<-hR];clear h jB hl hR;go_enter Tryz.func139,Tryz.ntmps139;go_wp2;go_loopw [3,8] (fun ov iv wr=>∃ k:Nat,k<=n/\iv=AN A' k/\wr.ownsRow w.heap.size 5 1 ov (4*k) ((mi ((l.take k).map Dm)).map cU)/\aa w wr) (fun _ iv _=>n-(intOf iv).toNat);case atStart=>exact⟨0,F_ _,rfl,C_ _ _ _ _,Below.refl _ _⟩
 case round=>
  obtain⟨k,hk,rfl,ho,hx⟩:=hrel;obtain⟨wo,rfl⟩:=ag (wr:Cd);have HO:=AF ho;have HX:=AF hx;obtain⟨oa,oc,rfl⟩:=ownsRow_form ho;clear ho hx;by_cases hlt:k<n
  ·have eE:(k:Int)<n:=by omega
   obtain⟨x,VJ⟩:∃ x,l[k]? =AI x:=⟨_,az (by have:=HN.out;omega)⟩;obtain⟨hx0,hx1⟩:=HL.out x (aw VJ);obtain⟨z,rfl⟩:∃ z:Nat,x=(z:Int):=⟨x.toNat,by omega⟩;obtain⟨b,o,e1,hb,hcell⟩:=(H.below HX).elem VJ;cases e1;have hc2:wo.cell? ⟨b,o+k,As⟩=AI (AN A' z):=hcell
   have HZ:Dl (mi ((l.take (k+1)).map Dm)=mi ((l.take k).map Dm)++ [z%256,z/256%256,z/65536%256,z/16777216%256]):=AF (by
    rw[C',VJ];show mi ((l.take k++ [(z:Int)]).map Dm)=_;rw[D', <-NK]
    rfl)
   have q0:H'.wrap (z:Int)=((z%256:Nat):Int):=by rw[EV];omega
   have q1:H'.wrap ((z:Int)/256)=((z/256%256:Nat):Int):=by rw[EV];omega
   have q2:H'.wrap ((z:Int)/65536)=((z/65536%256:Nat):Int):=by rw[EV];omega
   have q3:H'.wrap ((z:Int)/16777216)=((z/16777216%256:Nat):Int):=by rw[EV];omega
   have Bd:w.heap.size<=wo.heap.size:=HX.size;clear hcell VJ hx0 hx1;go_wp2_with (at_builtin;refine Hid.out ?_);refine AF ?_;refine wpList_append_own_at _ rfl (.tmp 12) (.tmp 24) 44 rfl w.heap.size 5 iB (AN H' 0) 1 1 DP YV IP IQ IU rfl (by decide) (An oa (4*k) oc) (4*k) _ rfl (HO.alloc _) ⟨wo.heap.size,0,As⟩ 4 4 [AN H' (z%256:Nat),AN H' (z/256%256:Nat),AN H' (z/65536%256:Nat),AN H' (z/16777216%256:Nat)] rfl rfl (NL _ _ _ _ _ _) (by simp[Value.oneCell']) (by unfold maxLen;omega) (by omega) (by simp;omega) ?_;intro v' w5 hown' hgrow hh hat;have Jk:=AF hown';have lJ:=AF hgrow;clear hown' hgrow hh hat;go_wp2;go_roundw;case rel=>
    refine⟨k+1,by omega,by go_num,?_,?_⟩
    ·rw[HZ.out,D',show 4*(k+1)=4*k+4 by omega]
     exact Jk
    ·exact(HX.trans (((Ext.refl wo).alloc _).below.mono Bd)).trans (((Below.refl _ _).grown lJ (by simp;omega) fun x e=>(HO.lt x e).1))
   case measure=>simp[intOf];omega
  ·obtain rfl:k=n:=by omega
   have eE:¬ ((k:Int)<k):=by omega
   have hcv:=VI (bs:=mi ((l.take k).map Dm)) (by rw[FP,aQ,GF, <-HN.out];omega) (CU _) HO;have HV:Dl (ja (G7 (mi ((l.take k).map Dm)))=R):=AF (by rw[HR.out,List.take_of_length_le (by rw[<-HN.out];exact aG _)];rfl);rw[HV.out]at hcv;go_wp2;go_ret;exact⟨rfl,HX⟩
def xH (f:Nat->Nat) (n k:Nat):List Value:=(A_ n).map fun s=>if s<k then cV (f s)else AN A' 0
theorem Jo (f:Nat->Nat) (n:Nat):xH f n 0=(FF n (0:Int)).map aM:=by
 unfold xH;rw[List.map_replicate];refine By fun i=>?_
 rw[aO,Dn];by_cases h:i<n
 ·rw[B' h,if_pos h];rfl
 ·rw[aS (by simpa using h),if_neg h];rfl
theorem Ax (f:Nat->Nat) {n k:Nat} (hk:k<n):(xH f n k).set k (AN A' (f k))=xH f n (k+1):=by
 unfold xH;refine By fun i=>?_
 rw[Gz];by_cases h:i<n
 ·rw[aO,aO,B' h]
  by_cases e:k=i
  ·subst e
   rw[if_pos rfl,if_pos (by simpa using hk)];show _=AI (if k<k+1 then cV (f k)else _);rw[if_pos (Nat.lt_succ_self k)];rfl
  ·rw[if_neg e]
   show AI (if i<k then _ else _)=AI (if i<k+1 then _ else _);by_cases h2:i<k
   ·rw[if_pos h2,if_pos (by omega)]
   ·rw[if_neg h2,if_neg (by omega)]
 ·rw[aS (by simpa using h),aS (by simpa using h),if_neg (by omega)]
theorem NM (f:Nat->Nat) (n:Nat):xH f n n=(A_ n).map fun s=>cV (f s):=List.map_congr_left fun _ hs=>if_pos (IN.1 hs)
theorem qG (g:Nat) (lb:Array Value) (key:Nat->List UInt8) (n:Nat) (hn:n<=4000) (w:Cd) (hl:∀ s,s<n->(key s).length<=1000000000) (eg:∀ args w,(callFunc g args).run Ft w=.ok (.enter g args) w) (hf:∀ s W,s<n->aa w W->ah g (#[AN A' s]++lb) W fun e w'=>e=AS (ja (key s))/\aa W w'): ah 137 #[AN A' n,.func (.func g) #[] lb] w fun e w'=>∃ u,e=AS (B_ #[u,AN A' (dR key n)])/\w'.ownsRow w.heap.size 3 1 u n ((A_ n).map fun s=>cV (dL key n s))/\aa w w':=by
 obtain⟨iI,y8,kP,kQ,kR⟩:=H_ Tryz.mH;have HF:=AF hf;have KI:Dl (∀ k,k<=n->∀ p∈bU key k,yZ p):=AF fun k hk p hp=>by
  obtain⟨s,hs,rfl⟩:=mem_keys.1 hp;unfold yZ maxLen;have:=hl s (by omega);omega
 have KS:Dl (∀ s,s<n->yZ (key s)):=AF fun s hs=>by
  unfold yZ maxLen;have:=hl s hs;omega
 clear hf hl;have qQ:= @run_makeMap Ft;go_enter Tryz.func137,Tryz.ntmps137;go_upto_region 2 with fail
 refine aA ?_;intro V hV;have M0:Dl (lW V w.heap.size []):=AF (by rw[hV];exact GS w _);have X0:Dl (aa w V):=AF (by rw[hV];exact((Ext.refl w).alloc _).below);have HV1:Dl (V.heap.size=w.heap.size+1):=AF (by rw[hV];exact World.size_alloc _ _);clear hV;go_wp2_with (at_make;refine wpList_make_full _ rfl (.tmp 13) (.tmp 13) 39 rfl V.heap.size 3 iI (AN A' 0) 1 Tryz.underlying39 y8 kP kQ A' A' _ _ n rfl rfl rfl rfl (by rw[kR];omega) (by unfold maxLen;omega) (aG _) ?_;intro w3 hr hg;refine Hid.out ?_);refine AF ?_;have II:V.heap.size<w3.heap.size:=by
  rcases hr.2 with⟨h5,_⟩ | ⟨g,c,cur,h5,_,h6,_⟩
  ·cases h5
  ·cases h5;exact(Array.getElem?_eq_some_iff.1 h6).1
 have hb3:aa V w3:=(ae.bB hg fun x hx=>⟨hx,fun e=>by cases e⟩:ae (· <V.heap.size) V w3).below;rw[sS]at hr;have N3:=AF hr;have M3:=AF (M0.below hb3);have X3:=AF (X0.trans (hb3.mono X0.size));clear hr hg hb3 M0 X0;obtain⟨g5,SI⟩:=ag V.heap.size;obtain⟨mb,oH⟩:=ag w.heap.size;have hV1:=HV1.out;rw[<-SI]at N3 II hV1 ⊢;have hgm:g5≠mb:=by omega
 have hgw:w.heap.size<=g5:=by omega
 have hmw:w.heap.size<=mb:=by omega
 rw[<-oH]at M3 ⊢;clear SI oH hV1 HV1;go_wp2;go_loopw [17] (fun iv wr=>∃ k:Nat,k<=n/\iv=AN A' k/\lW wr mb (bU key k)/\wr.ownsRow g5 3 1 (An (AI ⟨g5,0,As⟩) n n) n (xH (dL key n) n k)/\aa w wr) (fun iv _=>n-(intOf iv).toNat);case atStart=>exact⟨0,F_ _,rfl,M3,by rw[Jo];exact N3,X3⟩
 case round=>
  obtain⟨k,hk,rfl,hm,hr,hx⟩:=hrel;obtain⟨wo,rfl⟩:=ag (wr:Cd);have HM:=AF hm;have HR:=AF hr;have HX:=AF hx;clear hm hr hx M3 N3 X3;by_cases hlt:k<n
  ·have eE:(k:Int)<n:=by omega
   have TN:=AF (HF.out k wo hlt HX);go_wp2_with fail
   refine TN.mono ?_;rintro e w2 ⟨rfl,hx2⟩;have M2:=AF (HM.below hx2);have R2:=AF (ak HR hx2);have X2:=AF (HX.trans (hx2.mono HX.size));clear hx2 TN HM HR HX;have pF:=Kz M2 (mf key k) (KI k hk) (key k) (KS k hlt);obtain⟨K0,zB⟩:=ag (ja (key k));rw[<-zB]at pF ⊢;have OD:=AF zB;clear zB;rcases pF with⟨hq,hlk⟩ | ⟨hq,hlk⟩
   ·have lM:bU key (k+1)=bU key k++ [key k]:=by rw[bU,if_neg hq]
    have Du:dL key n k=(bU key k).length:=by rw[lK hlt,if_neg hq]
    obtain⟨w4,hput,uw,hk4,hsz⟩:=QE M2 (KI k hk) (key k) (KS k hlt) hq;rw[<-OD.out]at hput;obtain⟨m,qQ⟩:=ag ((bU key k).length);rw[<-qQ]at hput Du;have HMM:=AF qQ;have L8:=AF lM;have GX:=AF Du;have M4:=AF uw
    have R4:=AF (aj R2 hk4 fun x e=>by
     have e':g5=x:=by simpa[Value.ownBlock]using e
     rw[<-e'];exact hgm)
    have X4:Dl (aa w w4):=AF ((ae.ai X2 fun _ h=>h:ae (· <w.heap.size) w w2).tr (hk4.mono fun x (hx:x<w.heap.size)=>by show x≠mb;omega)).below;clear hq lM Du qQ uw hk4 hsz R2 X2;obtain⟨sg,su,se,_,hsg,hsu,hsc,hsf⟩:=fB R4 hlt;cases se;go_wp2_with (at_len;refine pO rfl _ rfl mb _ rfl M2 ?_;rw[<-HMM.out]);go_roundw;case rel=>
     refine⟨k+1,by omega,by go_num,?_,?_,?_⟩
     ·rw[L8.out]
      exact M4.keeps ((ae.refl (· ≠g5) _).setCell (p:=⟨g5,k,As⟩) (fun h=>h rfl) _) (Ne.symm hgm)
     ·rw[<-Ax _ hlt,GX.out]
      exact(R4.stored k _).1
     ·exact((ae.ai X4 fun _ h=>h:ae (· <w.heap.size) w w4).setCell (p:=⟨g5,k,As⟩) (fun h=>by have:g5<w.heap.size:=h;omega) _).below
    case measure=>simp[intOf];omega
   ·have lM:bU key (k+1)=bU key k:=by rw[bU,if_pos hq]
    have Du:dL key n k=ixU (bU key k) (key k):=by rw[lK hlt,if_pos hq];unfold ixU;congr 1
    obtain⟨m,qQ⟩:=ag (ixU (bU key k) (key k));rw[<-qQ]at hlk Du;have L8:=AF lM;have GX:=AF Du;clear lM Du qQ hq;obtain⟨sg,su,se,_,hsg,hsu,hsc,hsf⟩:=fB R2 hlt;cases se;go_wp2;go_roundw;case rel=>
     refine⟨k+1,by omega,by go_num,?_,?_,?_⟩
     ·rw[L8.out]
      exact M2.keeps ((ae.refl (· ≠g5) _).setCell (p:=⟨g5,k,As⟩) (fun h=>h rfl) _) (Ne.symm hgm)
     ·rw[<-Ax _ hlt,GX.out]
      exact(R2.stored k _).1
     ·exact((ae.ai X2 fun _ h=>h:ae (· <w.heap.size) w w2).setCell (p:=⟨g5,k,As⟩) (fun h=>by have:g5<w.heap.size:=h;omega) _).below
    case measure=>simp[intOf];omega
  ·obtain rfl:k=n:=by omega
   have eE:¬ ((k:Int)<k):=by omega
   have hrr:=HR.out;rw[NM]at hrr;have iH:=AF (aH hrr hgw);clear hrr;go_wp2_with (at_len;refine pO rfl _ rfl mb _ rfl HM ?_);exact AT (v:=B_ #[An (AI ⟨g5,0,As⟩) k k,AN A' (dR key k)]) (by simp[results,Tryz.results137,go_sem,dR]) rfl ⟨_,rfl,iH,HX⟩
end
end Go.Proofs.YtjgccapbphadjaaGreatDoor
