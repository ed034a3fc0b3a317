/- dfa.Of. -/
import Derived.Test.YtalombmiochpmaaGreatDoorOR31
set_option maxRecDepth 100000
set_option maxHeartbeats 16000000
open Go.Lib (hid)
namespace Go.Proofs.YtalombmiochpmaaGreatDoor
open Go Go.RowKit Go.Shelf Go.Maps
attribute [local go_sem] encS
theorem PD (v:Value) (ps:List PT) (f:Int) (w:World) (h:lT w v ps) (sm:∀ x∈ps,Qs x.nf) (hT:∀ W,Below w.heap.size w W->gL W): Calls Tryz.prog 47 #[v,.int .i64 f] w fun e w'=>∃ u,e=.returned (.tuple #[u,.int .i64 (jO ps f).2])/\ay w.heap.size w' u (jO ps f).1/\Below w.heap.size w w':=by
 obtain⟨iS,hiS,NT,NU,NV⟩:=info_parts Tryz.BU;obtain⟨iB,Qp,wY,tJ,yK⟩:=info_parts Tryz.Eh;obtain⟨pa,pc,rfl⟩:=h.form;obtain⟨n,ER⟩:∃ z,z=ps.length:=⟨_,rfl⟩;rw[<-ER]at h ⊢;have Uh:=hid ER;have HP:=hid h;have SM:=hid sm;have HT:=hid hT;have fin:Hid (∀ (W:World) (code:Int),jO ps f=(⟨[],[],[]⟩,code)->ah W w.heap.size #[.slice none 0 0,.slice none 0 0,.slice none 0 0] 28->Below w.heap.size w W->∃ u,Ending.returned (.tuple #[.agg #[.slice none 0 0,.slice none 0 0,.slice none 0 0],.int .i64 code])=.returned (.tuple #[u,.int .i64 (jO ps f).2])/\ay w.heap.size W u (jO ps f).1/\Below w.heap.size w W):=hid fun W code h1 _ h3=>by
  rw[h1];exact⟨_,rfl,⟨_,_,_,rfl,World.ownsRow_nil _ _ _ _,aW.nil _ _,aW.nil _ _⟩,h3⟩
 clear h sm hT ER;by_cases afT:64<n
 ·have hmi:(64:Int)<n:=by omega
  have Sa:=hid (Uk (f:=f) (show 64<ps.length by rw[<-Uh.out];exact afT));go_enter Tryz.func47,Tryz.ntmps47;go_wp2;refine bB ?_;intro W9 dK;have E9:Hid (ah W9 w.heap.size #[.slice none 0 0,.slice none 0 0,.slice none 0 0] 28/\Below w.heap.size w W9):=by rw[dK];exact hid ⟨ah.new _ _ _,((Ext.refl w).alloc _).below⟩
  clear dK;obtain⟨⟨m0,m1,m2⟩,_⟩:=E9.out.1.three;refine bodyPost_ret (v:=.tuple #[.agg #[.slice none 0 0,.slice none 0 0,.slice none 0 0],.int .i64 5]) (by simp[results,Tryz.results47,go_sem,m0,m1,m2]) rfl (fin.out W9 5 Sa.out E9.out.1 E9.out.2)
 ·have hmi:¬ ((64:Int)<n):=by omega
  have tQ:ps.length<=64:=by rw[<-Uh.out];omega
  have Rq:= @run_makeMap Tryz.prog;go_enter Tryz.func47,Tryz.ntmps47;go_wp2;go_loopw [6,24] (fun av iv wr=>∃ k:Nat,k<=n/\iv=.int .i64 k/\wr.ownsRow (w.heap.size+1) 59 4 av (cQ (ps.take k)).length (aN (cQ (ps.take k)))/\(cQ (ps.take k)).length<=400*k/\(∀ (i:Nat) (x:PT),i<k->ps[i]? =some x->x.ok=true)/\ah wr w.heap.size #[.slice none 0 0,.slice none 0 0,.slice none 0 0] 28/\Below w.heap.size w wr) (fun _ iv _=>n-(intOf iv).toNat);case atStart=>exact⟨0,Nat.zero_le _,rfl,World.ownsRow_nil _ _ _ _,Nat.zero_le _,fun i x h=>absurd h (Nat.not_lt_zero _),ah.new _ _ _,((Ext.refl w).alloc _).below⟩
  case round=>
   obtain⟨k,hk,rfl,ho,qL,hall,hb,hx⟩:=hrel;obtain⟨wo,rfl⟩:∃ wo:World,wo=wr:=⟨_,rfl⟩;have HO:=hid ho;have wX:=hid hall;have HB:=hid hb;have HX:=hid hx;have HPO:=hid (HP.out.below hx);have WO:w.heap.size<wo.heap.size:=hb.lt;obtain⟨A,hA⟩:∃ z,z=(cQ (ps.take k)).length:=⟨_,rfl⟩;rw[<-hA]at HO qL;have HAn:=hid hA;clear ho hall hb hx hA;by_cases hlt:k<n
   ·have gz:(k:Int)<n:=by omega
    obtain⟨x,hx⟩:∃ x,ps[k]? =some x:=⟨_,List.getElem?_eq_getElem (by have:=Uh.out;omega)⟩;obtain⟨b,off,v0,v1,v2,v3,rfl,hb,xh,q0,q1,q2,q3,q4,q5,q6⟩:=HPO.out.elem hx;obtain⟨x0,n0,c0,x1,n1,c1,x2,n2,c2,x3,n3,c3,rfl,rfl,rfl,rfl⟩:=xh.SR;have MR:=hid xh;have Sn:=hid hx;have SX:Hid (Qs x.nf):=hid (SM.out x (List.mem_of_getElem? hx));clear hx xh;go_wp2_with fail
    refine az ?_;intro V hV;have BX:Hid (ah V wo.heap.size #[.slice x0 n0 c0,.slice x1 n1 c1,.slice x2 n2 c2,.slice x3 n3 c3,.bool x.nf.emp,.bool x.cG,.int .i64 x.mark] 102):=hid (by rw[hV];exact ah.new wo _ _);have XV:Hid (Below wo.heap.size wo V):=hid (by rw[hV];exact((Ext.refl wo).alloc _).below);clear hV q0 q1 q2 q3 q4 q5 q6;refine(yP (.agg #[.slice x0 n0 c0,.slice x1 n1 c1,.slice x2 n2 c2,.slice x3 n3 c3,.bool x.nf.emp]) x.nf V (MR.out.below XV.out) SX.out).mono ?_;rintro e w2 ⟨rfl,hx2⟩;have B2:=hid (BX.out.below hx2 BX.out.lt);have X2:=hid (XV.out.trans (hx2.mono XV.out.size));clear hx2 BX XV;have C8:=hid (HB.out.below X2.out WO);have X9:=hid (HX.out.trans (X2.out.mono HX.out.size));have O2:=hid (aq HO.out X2.out)
    have S2:Hid (dm w2 (.slice x0 n0 c0) x.nf.aM/\n0=x.nf.aM.length):=hid (by
     obtain⟨u0,u1,u2,u3,e,h0,h1,h2,h3⟩:=MR.out;cases e;obtain⟨a9,c9,e9⟩:=h0.1.form;refine⟨h0.1.below X2.out,?_⟩
     cases e9;rfl)
    have ajZ:wo.heap.size<=w2.heap.size:=X2.out.size;obtain⟨r0,r1,r2,r3,r4,r5,r6⟩:=B2.out.seven;obtain⟨⟨k0,k1,k2⟩,z0,z1,z2⟩:=C8.out.three;by_cases hr:x.nf.right=true
    ·have Ntx:=(fE _).1 hr
     rw[hr];by_cases oU:x.mark<0
     ·have d1:decide (x.mark<0)=true:=decide_eq_true oU
      have AZ:=hid (Fw (f:=f) tQ Sn.out (by rw[PT.zG];omega));go_wp2;refine bB ?_;intro W9 dK;have E9:Hid (ah W9 w.heap.size #[.slice none 0 0,.slice none 0 0,.slice none 0 0] 28/\Below w.heap.size w W9):=by rw[dK];exact hid ⟨C8.out.rW,dZ X9.out (Nat.le_refl _)⟩
      clear dK z0 z1 z2 k0 k1 k2;obtain⟨⟨m0,m1,m2⟩,_⟩:=E9.out.1.three;refine bodyPost_ret (v:=.tuple #[.agg #[.slice none 0 0,.slice none 0 0,.slice none 0 0],.int .i64 180]) (by simp[results,Tryz.results47,go_sem,m0,m1,m2]) rfl (fin.out W9 180 AZ.out E9.out.1 E9.out.2)
     ·have d1:decide (x.mark<0)=false:=decide_eq_false oU
      by_cases oQ:255<x.mark
      ·have d2:decide (255<x.mark)=true:=decide_eq_true oQ
       have AZ:=hid (Fw (f:=f) tQ Sn.out (by rw[PT.zG];omega));go_wp2;refine bB ?_;intro W9 dK;have E9:Hid (ah W9 w.heap.size #[.slice none 0 0,.slice none 0 0,.slice none 0 0] 28/\Below w.heap.size w W9):=by rw[dK];exact hid ⟨C8.out.rW,dZ X9.out (Nat.le_refl _)⟩
       clear dK z0 z1 z2 k0 k1 k2;obtain⟨⟨m0,m1,m2⟩,_⟩:=E9.out.1.three;refine bodyPost_ret (v:=.tuple #[.agg #[.slice none 0 0,.slice none 0 0,.slice none 0 0],.int .i64 180]) (by simp[results,Tryz.results47,go_sem,m0,m1,m2]) rfl (fin.out W9 180 AZ.out E9.out.1 E9.out.2)
      ·have d2:decide (255<x.mark)=false:=decide_eq_false oQ
       have hle:=Ntx.le;go_wp2_with (at_builtin;refine Hid.out ?_);refine hid ?_;refine kA rfl (.tmp 43) (.tmp 46) 25 rfl (w.heap.size+1) 59 iS (.agg #[.int .u64 0,.int .u64 0,.int .u64 0,.int .u64 0]) 4 32 Tryz.underlying25 hiS NT NU NV rfl (by decide) u6 A _ rfl O2.out (.slice x0 n0 c0) x.nf.aM.length (aN x.nf.aM) rfl S2.out.1.src (cT _) (iJ _) (by unfold maxLen;omega) (by omega) (by omega) ?_;intro v' w5 hown hgrow;have O5:=hid hown;have X5:Hid (Below (w.heap.size+1) w2 w5):=hid ((Below.refl _ w2).grown hgrow (by omega) (fun c e=>(O2.out.lt c e).1));clear hown hgrow r0 r1 r2 r3 r4 r5 r6;go_wp2;go_roundw;case rel=>
        refine⟨k+1,by omega,by go_num,?_,?_,fun i y hi hy=>?_,C8.out.below X5.out (by omega),X9.out.trans (X5.out.mono (by omega))⟩
        ·rw[tW Sn.out,List.length_append,fS, <-HAn.out]
         exact O5.out
        ·rw[tW Sn.out,List.length_append, <-HAn.out]
         omega
        ·by_cases e:i<k
         ·exact wX.out i y e hy
         ·obtain rfl:i=k:=by omega
          rw[Sn.out]at hy;cases hy;exact(PT.zG _).2 ⟨hr,by omega,by omega⟩
       case measure=>simp[intOf];omega
    ·rw[Bool.not_eq_true]at hr
     rw[hr];have AZ:=hid (Fw (f:=f) tQ Sn.out (by rw[PT.zG];rw[hr];simp));go_wp2;refine bB ?_;intro W9 dK;have E9:Hid (ah W9 w.heap.size #[.slice none 0 0,.slice none 0 0,.slice none 0 0] 28/\Below w.heap.size w W9):=by rw[dK];exact hid ⟨C8.out.rW,dZ X9.out (Nat.le_refl _)⟩
     clear dK z0 z1 z2 k0 k1 k2;obtain⟨⟨m0,m1,m2⟩,_⟩:=E9.out.1.three;refine bodyPost_ret (v:=.tuple #[.agg #[.slice none 0 0,.slice none 0 0,.slice none 0 0],.int .i64 180]) (by simp[results,Tryz.results47,go_sem,m0,m1,m2]) rfl (fin.out W9 180 AZ.out E9.out.1 E9.out.2)
   ·obtain rfl:k=n:=by omega
    clear hlt hk;have gz:¬ ((k:Int)<k):=by omega
    have eH:ps.take k=ps:=by rw[Uh.out];exact List.take_length
    have oD:Hid (ps.all PT.ok=true):=hid (abY fun i x hx=>wX.out i x (by have:=(List.getElem?_eq_some_iff.1 hx).1;have:=Uh.out;omega) hx);rw[eH]at HO HAn;clear eH wX;by_cases hf0:f<0
    ·have d1:decide (f<0)=true:=decide_eq_true hf0
     obtain⟨⟨k0,k1,k2⟩,z0,z1,z2⟩:=HB.out.three;have AZ:=hid (I0 (f:=f) tQ oD.out (.inl hf0));go_wp2;refine bB ?_;intro W9 dK;have E9:Hid (ah W9 w.heap.size #[.slice none 0 0,.slice none 0 0,.slice none 0 0] 28/\Below w.heap.size w W9):=by rw[dK];exact hid ⟨HB.out.rW,dZ HX.out (Nat.le_refl _)⟩
     clear dK z0 z1 z2 k0 k1 k2;obtain⟨⟨m0,m1,m2⟩,_⟩:=E9.out.1.three;refine bodyPost_ret (v:=.tuple #[.agg #[.slice none 0 0,.slice none 0 0,.slice none 0 0],.int .i64 2]) (by simp[results,Tryz.results47,go_sem,m0,m1,m2]) rfl (fin.out W9 2 AZ.out E9.out.1 E9.out.2)
    ·have d1:decide (f<0)=false:=decide_eq_false hf0
     by_cases Yu:4000<f
     ·have d2:decide (4000<f)=true:=decide_eq_true Yu
      obtain⟨⟨k0,k1,k2⟩,z0,z1,z2⟩:=HB.out.three;have AZ:=hid (I0 (f:=f) tQ oD.out (.inr Yu));go_wp2;refine bB ?_;intro W9 dK;have E9:Hid (ah W9 w.heap.size #[.slice none 0 0,.slice none 0 0,.slice none 0 0] 28/\Below w.heap.size w W9):=by rw[dK];exact hid ⟨HB.out.rW,dZ HX.out (Nat.le_refl _)⟩
      clear dK z0 z1 z2 k0 k1 k2;obtain⟨⟨m0,m1,m2⟩,_⟩:=E9.out.1.three;refine bodyPost_ret (v:=.tuple #[.agg #[.slice none 0 0,.slice none 0 0,.slice none 0 0],.int .i64 2]) (by simp[results,Tryz.results47,go_sem,m0,m1,m2]) rfl (fin.out W9 2 AZ.out E9.out.1 E9.out.2)
     ·have d2:decide (4000<f)=false:=decide_eq_false Yu
      obtain⟨P,hP⟩:∃ z,z=partsOf (cQ ps):=⟨_,rfl⟩;obtain⟨K,hK⟩:∃ z,z=P.length:=⟨_,rfl⟩;have RH:K<=256:=by rw[hK,hP,(dX _).length_eq];exact dW _
      have AZ:=hid hP;have Ep:=hid hK;have CA:Hid (∀ W v,dm W v (cQ ps)->Calls Tryz.prog 60 #[v] W fun e w'=>∃ b,e=.returned (.pointer (some ⟨b,0,none⟩))/\cZ w' W.heap.size (.pointer (some ⟨b,0,none⟩)) P/\Below W.heap.size W w'):=hid fun W v h=>by
       have:=kr (cQ ps) v W h (by have:=HAn.out;omega);rwa[<-hP]at this
      have CL:Hid (∀ W x bx,cZ W bx (.pointer (some ⟨x,0,none⟩)) P->Calls Tryz.prog 62 #[.pointer (some ⟨x,0,none⟩)] W fun e w'=>e=.returned (.int .i64 K)/\w'=W):=hid fun W x bx h=>by rw[hK];exact Mq _ _ _ _ h
      have CS:Hid (∀ W x bx (k:Nat) s,P[k]? =some s->cZ W bx (.pointer (some ⟨x,0,none⟩)) P->Calls Tryz.prog 63 #[.pointer (some ⟨x,0,none⟩),.int .i64 k] W fun e w'=>e=.returned (.tuple #[.agg (encS s),.bool true])/\Ext W w'):=hid fun W x bx k s hs h=>by
       have:=En _ bx P k W h;rw[qN,hs]at this;exact this
      have CM:Hid (∀ W x bx (k:Nat),k<P.length->cZ W bx (.pointer (some ⟨x,0,none⟩)) P->Calls Tryz.prog 64 #[.pointer (some ⟨x,0,none⟩),.int .i64 k] W fun e w'=>e=.returned (.tuple #[.int .u8 (lb P k),.bool true])/\Ext W w'):=hid fun W x bx k hk h=>by
       have:=Cc _ bx P k W h;rw[hP,yB (by rw[<-hP];exact hk), <-hP]at this;exact this
      have HLB:Hid (∀ k,k<P.length->lb P k<256):=hid fun k hk=>by rw[hP];exact Ch (by rw[<-hP];exact hk)
      clear hP hK;have HS:=hid (jT (by rw[<-HAn.out];exact HO.out:wo.ownsRow (w.heap.size+1) 59 4 u6 (cQ ps).length (aN (cQ ps))));go_wp2_with fail
      refine(CA.out wo u6 HS.out).mono ?_;rintro e w2 ⟨ba,rfl,ha,hx⟩;obtain⟨bal,afV⟩:∃ z,z=wo.heap.size:=⟨_,rfl⟩;rw[<-afV]at ha;have AL:=hid ha;clear afV;have B2:=hid (HB.out.below hx WO);have X2:=hid (HX.out.trans (hx.mono HX.out.size));clear ha hx CA HB HX HPO HO HS;obtain⟨F,rfl⟩:∃ F:Nat,f=F:=⟨f.toNat,by omega⟩;have hF4:F<=4000:=by omega
      go_wp2_with fail
      refine az ?_;intro V hV;have BM0:ah V (w2.heap.size+1) #[.slice pa k pc,.int .i64 F,.slice none 0 0,.map (some w2.heap.size),.slice none 0 0,.slice none 0 0,.slice none 0 0] 147:=by rw[hV];exact(ah.new (w2.alloc _) _ _).at (by simp)
      have MS0:nL V w2.heap.size []:=by have h5:nL (w2.alloc (.map #[] 0)) w2.heap.size []:=World.alloc_heap_new w2 _;rw[hV];exact h5.below ((Ext.refl _).alloc _).below
      have XV0:Below w2.heap.size w2 V:=by rw[hV];exact(((Ext.refl w2).alloc _).alloc _).below
      clear hV;obtain⟨mb,xg⟩:∃ z,z=w2.heap.size+1:=⟨_,rfl⟩;rw[<-xg]at BM0 ⊢;have BM:=hid BM0;have MS:=hid MS0;have XV:=hid XV0;have HMB:=hid xg;have AV:=hid (AL.out.below XV0);have A4:Hid (∀ W',aa (fun x=>x<V.heap.size/\x≠mb) V W'->cZ W' bal (.pointer (some ⟨ba,0,none⟩)) P):=hid fun W' h=>AL.out.keeps ((aa.ag XV.out fun _ h=>h:aa (· <w2.heap.size) w2 V).tr (h.mono fun x hx=>⟨Nat.lt_of_lt_of_le hx XV.out.size,by have h5:x<w2.heap.size:=hx;have:=HMB.out;omega⟩)) fun _ _ h=>h
      clear BM0 MS0 XV0 xg AL;refine(CL.out _ _ _ AV.out).mono ?_;rintro e w' ⟨rfl,hw⟩;replace hw:=hw.symm;subst hw;go_wp2;go_loopw [11,65] (fun lv iv wr=>∃ (j:Nat) (cv:Value),j<=K/\iv=.int .i64 j/\ah wr mb #[.slice pa k pc,.int .i64 F,.slice none 0 0,.map (some w2.heap.size),cv,.slice none 0 0,.slice none 0 0] 147/\wr.ownsRow V.heap.size 59 4 cv j (aN (P.take j))/\wr.ownsRow V.heap.size 5 1 lv j (((List.range j).map (lb P)).map bu)/\aa (fun x=>x<V.heap.size/\x≠mb) V wr) (fun _ iv _=>K-(intOf iv).toNat);case atStart=>exact⟨0,_,Nat.zero_le _,rfl,BM.out,World.ownsRow_nil _ _ _ _,World.ownsRow_nil _ _ _ _,aa.refl _ _⟩
      case round=>
       obtain⟨j,c,hj,rfl,hb,hc,ho,hx⟩:=hrel;obtain⟨wo,rfl⟩:∃ wo:World,wo=wr:=⟨_,rfl⟩;have hVo:V.heap.size<=wo.heap.size:=hx.size;have ak5:mb<V.heap.size:=BM.out.lt;have HB:=hid hb;have Kn:=hid hc;have HO:=hid ho;have HX:=hid hx;have AJ:=hid (A4.out wo hx);clear hb hc ho hx;by_cases hlt:j<K
       ·obtain⟨s,hs⟩:∃ s,P[j]? =some s:=⟨_,List.getElem?_eq_getElem (by have:=Ep.out;omega)⟩
        have hjp:j<P.length:=by rw[<-Ep.out];exact hlt
        have Gf:=HLB.out j hjp;obtain⟨q,hq⟩:∃ q,q=lb P j:=⟨_,rfl⟩;rw[<-hq]at Gf;have HSs:=hid hs;have nz:(j:Int)<K:=by omega
        clear hs;have CS1:Hid (∀ W',cZ W' bal (.pointer (some ⟨ba,0,none⟩)) P->Calls Tryz.prog 63 #[.pointer (some ⟨ba,0,none⟩),.int .i64 j] W' fun e w'=>e=.returned (.tuple #[.agg (encS s),.bool true])/\Ext W' w'):=hid fun W' h=>CS.out W' ba _ j s HSs.out h
        have Mx:Hid (∀ W',cZ W' bal (.pointer (some ⟨ba,0,none⟩)) P->Calls Tryz.prog 64 #[.pointer (some ⟨ba,0,none⟩),.int .i64 j] W' fun e w'=>e=.returned (.tuple #[.int .u8 q,.bool true])/\Ext W' w'):=hid fun W' h=>by rw[hq];exact CM.out W' ba _ j hjp h
        have HQS:Hid (P.take (j+1)=P.take j++ [s]):=hid (by rw[List.take_add_one,HSs.out];rfl);have HQL:Hid (((List.range (j+1)).map (lb P)).map bu=((List.range j).map (lb P)).map bu++ [.int .u8 q]):=hid (by rw[List.range_succ,List.map_append,List.map_append,hq];rfl);clear hq Gf hjp HSs;go_wp2_with fail
        refine(CS1.out _ AJ.out).mono ?_;rintro e w5 ⟨rfl,hx⟩;have Y5:=hid hx;have hw5:wo.heap.size<=w5.heap.size:=hx.size;clear hx;go_wp2_with fail
        refine az ?_;intro V3 di;have S3:Hid (ah V3 w5.heap.size (encS s) 59):=by rw[di];exact ah.new _ _ _
        have Y6:Hid (Ext wo V3):=by rw[di];exact Y5.out.alloc _
        clear di Y5;refine(Mx.out _ (AJ.out.below Y6.out.below)).mono ?_;rintro e w6 ⟨rfl,hx⟩;have S6:=hid (S3.out.ext hx);have Y7:=hid (Y6.out.trans hx);clear hx S3 Y6;have Ck:=hid (aq Kn.out Y7.out.below);have j8:=hid (aq HO.out Y7.out.below);have eT:=hid (HB.out.ext Y7.out);have hw6:wo.heap.size<=w6.heap.size:=Y7.out.size;have gP:=hid (HX.out.tr (aa.ag Y7.out.below fun x hx=>Nat.lt_of_lt_of_le hx.1 hVo));have L1:=hid fun x e=>(Kn.out.lt x e).2
        have L2:=hid fun x e=>(HO.out.lt x e).2
        clear Kn HO HB HX;obtain⟨ca,cc,rfl⟩:=ownsRow_form Ck.out;obtain⟨oa,oc,rfl⟩:=ownsRow_form j8.out;have Wn:Hid ((Value.slice ca j cc).ownBlock=none\/(Value.slice ca j cc).ownBlock≠(Value.slice oa j oc).ownBlock):=ownBlock_ne (by decide) Ck.out j8.out;have hoc:Hid ((Value.slice oa j oc).ownBlock=none\/(Value.slice oa j oc).ownBlock≠(Value.slice ca j cc).ownBlock):=ownBlock_ne (by decide) j8.out Ck.out;obtain⟨XO,hXO⟩:∃ x,x=((List.range j).map (lb P)).map bu:=⟨_,rfl⟩;rw[<-hXO]at j8;have HXO:=hid hXO;clear hXO;obtain⟨PL,qR⟩:∃ PL:List App,PL=[⟨59,4,.slice ca j cc,j,aN (P.take j),1,(encS s).toList⟩,⟨5,1,.slice oa j oc,j,XO,1,[.int .u8 q]⟩]:=⟨_,rfl⟩;have jH:PL[0]? =some ⟨59,4,.slice ca j cc,j,aN (P.take j),1,(encS s).toList⟩:=by rw[qR];rfl
        have mq:PL[1]? =some ⟨5,1,.slice oa j oc,j,XO,1,[.int .u8 q]⟩:=by rw[qR];rfl
        have OK:Hid (kB w6 PL):=hid ⟨fun p hp x e=>by
          rw[qR]at hp;simp only[List.mem_cons,List.not_mem_nil,or_false]at hp;rcases hp with rfl | rfl
          ·exact(Ck.out.lt x e).2
          ·exact(j8.out.lt x e).2,fun i j p q hi hj oZ=>by
          have hl:PL.length=2:=by rw[qR];rfl
          have h1:=(List.getElem?_eq_some_iff.1 hi).1;have h2:=(List.getElem?_eq_some_iff.1 hj).1;rcases(show i=0\/i=1 by omega)with rfl | rfl<;>rcases(show j=0\/j=1 by omega)with rfl | rfl<;>(first | (exact absurd rfl oZ) | skip)<;>(first | rw[jH]at hi | rw[mq]at hi)<;>(first | rw[jH]at hj | rw[mq]at hj)<;>cases hi<;>cases hj
          ·exact Wn.out
          ·exact hoc.out⟩
        clear Wn hoc;have hsz:V.heap.size<=w6.heap.size:=Nat.le_trans hVo hw6;have yC:∀ x,x<V.heap.size->¬ ∃ p∈PL,p.v.ownBlock=some x:=fun x hx ⟨p,hp,e⟩=>by
         rw[qR]at hp;simp only[List.mem_cons,List.not_mem_nil,or_false]at hp;rcases hp with rfl | rfl
         ·have:=(Ck.out.lt _ e).1;omega
         ·have:=(j8.out.lt _ e).1;omega
        have Ex:=yC mb ak5;have Wo:Hid (∀ W',bT V.heap.size w6 PL w6 W'->aa (fun x=>x<V.heap.size/\x≠mb) V W'):=hid fun W' h=>gP.out.tr (h.keeps.mono fun x hx=>⟨Nat.lt_of_lt_of_le hx.1 hsz,yC x hx.1⟩)
        have Gj:¬ ∃ p∈PL,p.v.ownBlock=some w5.heap.size:=fun ⟨p,hp,e⟩=>by
         rw[qR]at hp;simp only[List.mem_cons,List.not_mem_nil,or_false]at hp;rcases hp with rfl | rfl
         ·have:=L1.out _ e;omega
         ·have:=L2.out _ e;omega
        clear qR yC;go_wp2;refine RegG.aY (bT V.heap.size w6 PL) (bT.drew) (fun _ _ _ h k=>h.trans k) (by kernel_rfl) 13 [0,0,2,6,14,30,0,64,254,0,0,1024,3584,8191,16383,32767,65535,131071] (fun i=>i==7 || i==8 || i==11 || i==12 || i==16) (by kernel_rfl) (fun _=>none) (fun j hj=>(by first | rfl | (have eE:18<=j:=hj;first | exact if_neg (by omega) | (split<;>first | omega | rfl)))) (by kernel_rfl) (fun i=>if i=7 then RegG.aH.pK V.heap.size w6 PL 1 (encS s) 59 else if i=8 then RegG.aH.app V.heap.size w6 PL ⟨59,4,.slice ca j cc,j,aN (P.take j),1,(encS s).toList⟩ (List.mem_of_getElem? jH)else if i=11 then RegG.aH.pK V.heap.size w6 PL 1 #[.int .u8 q] 5 else if i=12 then RegG.aH.app V.heap.size w6 PL ⟨5,1,.slice oa j oc,j,XO,1,[.int .u8 q]⟩ (List.mem_of_getElem? mq)else RegG.aH.any _) ?_;intro C hC hne;have HC:=hid hC;have lB:∀ {x:Nat},x<w6.heap.size->(¬ ∃ p∈PL,p.v.ownBlock=some x)->∀ W: {W//C W},W.1.heap[x]? =w6.heap[x]? :=fun {x} h1 h2 W=>((hC W.1).1 W.2).keeps.keep x ⟨h1,h2⟩
        have f4:∀ W: {W//C W},W.1.cell? ⟨mb,4,none⟩=some (.slice ca j cc):=fun W=>((eT.out.same (lB eT.out.lt Ex W)).cell 4)
        have s0:∀ W: {W//C W},W.1.cell? ⟨w5.heap.size,0,none⟩=some (.int .u64 (wd s 0).toNat):=fun W=>(S6.out.same (lB S6.out.lt Gj W)).wT.1
        have s1:∀ W: {W//C W},W.1.cell? ⟨w5.heap.size,1,none⟩=some (.int .u64 (wd s 1).toNat):=fun W=>(S6.out.same (lB S6.out.lt Gj W)).wT.2.1
        have s2:∀ W: {W//C W},W.1.cell? ⟨w5.heap.size,2,none⟩=some (.int .u64 (wd s 2).toNat):=fun W=>(S6.out.same (lB S6.out.lt Gj W)).wT.2.2.1
        have s3:∀ W: {W//C W},W.1.cell? ⟨w5.heap.size,3,none⟩=some (.int .u64 (wd s 3).toNat):=fun W=>(S6.out.same (lB S6.out.lt Gj W)).wT.2.2.2
        clear hC lB
        repeat (refine RegG.ae (fun K hK=>?_);first | (refine RegG.aR rfl ?_;try go_simp;refine hK _ _ ?_;clear hK K) | (refine RegG.aO rfl rfl ?_;unfold ai;go_simp;refine hK _ _ ?_;clear hK K))
        refine RegG.ae (fun K hK=>?_);refine RegG.bg rfl rfl (RegG.aH.pK V.heap.size w6 PL 1 (encS s) 59) rfl (fun W hW hN=>?_) (fun v hv=>?_)
        ·have hM:=(HC.out W).1 hW
         clear hW hK K
         (go_simp;exact⟨.below ((Ext.refl _).alloc _).below,⟨_,rfl⟩,fun b hb=>by cases hb;exact⟨ah.new _ _ _,OK.out.fresh hM.size⟩⟩)
        obtain⟨x3,rfl⟩:=hv;go_simp;refine hK _ _ ?_;clear hK K;refine RegG.ae (fun K hK=>?_);refine RegG.bg rfl rfl (RegG.aH.app V.heap.size w6 PL ⟨59,4,.slice ca j cc,j,aN (P.take j),1,(encS s).toList⟩ (List.mem_of_getElem? jH)) rfl (fun W hW hN=>?_) (fun v hv=>?_)
        ·have hM:=(HC.out W).1 hW
         clear hW hK K;refine cI (w0:=w6) (PL:=PL) (p:=⟨59,4,.slice ca j cc,j,aN (P.take j),1,(encS s).toList⟩) (.tmp 85) (.tmp 87) 25 rfl iS _ 32 Tryz.underlying25 hiS NT NU NV rfl (show(0:Nat)<4 from by decide) OK.out jH rfl (hM.old _ (List.mem_of_getElem? jH) Ck.out) ⟨x3,0,none⟩ 1 rfl rfl (bU (hN.at 0 rfl (by kernel_rfl) x3 rfl).1) (by intro u hu;simp[encS]at hu;rcases hu with rfl | rfl | rfl | rfl<;>rfl) (by show j+1<=maxLen;unfold maxLen;omega) (by show(j+1)*32<=_;omega) (Nat.le_trans hsz hM.size) (show(0:Nat)<1 from by decide) hM.size (fun v W' g1 g2 g3 _=>⟨g1,g2,g3⟩)
        obtain⟨ca2,cc2,rfl⟩:=hv;go_simp;refine hK _ _ ?_;clear hK K
        repeat (refine RegG.ae (fun K hK=>?_);first | (refine RegG.aR rfl ?_;try go_simp;refine hK _ _ ?_;clear hK K) | (refine RegG.aO rfl rfl ?_;unfold ai;go_simp;refine hK _ _ ?_;clear hK K))
        refine RegG.ae (fun K hK=>?_);refine RegG.bg rfl rfl (RegG.aH.pK V.heap.size w6 PL 1 #[.int .u8 q] 5) rfl (fun W hW hN=>?_) (fun v hv=>?_)
        ·have hM:=(HC.out W).1 hW
         clear hW hK K
         (go_simp;exact⟨.below ((Ext.refl _).alloc _).below,⟨_,rfl⟩,fun b hb=>by cases hb;exact⟨ah.new _ _ _,OK.out.fresh hM.size⟩⟩)
        obtain⟨RI,rfl⟩:=hv;go_simp;refine hK _ _ ?_;clear hK K;refine RegG.ae (fun K hK=>?_);refine RegG.bg rfl rfl (RegG.aH.app V.heap.size w6 PL ⟨5,1,.slice oa j oc,j,XO,1,[.int .u8 q]⟩ (List.mem_of_getElem? mq)) rfl (fun W hW hN=>?_) (fun v hv=>?_)
        ·have hM:=(HC.out W).1 hW
         clear hW hK K;refine cI (w0:=w6) (PL:=PL) (p:=⟨5,1,.slice oa j oc,j,XO,1,[.int .u8 q]⟩) (.tmp 89) (.tmp 91) 23 rfl iB _ 1 Tryz.underlying23 Qp wY tJ yK rfl (show(0:Nat)<1 from by decide) OK.out mq rfl (hM.old _ (List.mem_of_getElem? mq) j8.out) ⟨RI,0,none⟩ 1 rfl rfl (bU (hN.at 0 rfl (by kernel_rfl) RI rfl).1) (by intro u hu;simp at hu;rw[hu];rfl) (by show j+1<=maxLen;unfold maxLen;omega) (by show(j+1)*1<=_;omega) (Nat.le_trans hsz hM.size) (show(0:Nat)<1 from by decide) hM.size (fun v W2 g1 g2 g3 _=>⟨g1,g2,g3⟩)
        obtain⟨Qk,U8,rfl⟩:=hv;go_simp;refine hK _ _ ?_;clear hK K;refine RegG.bh (fun W7 hW hH=>?_);have hM:=(HC.out W7).1 hW;have Q0:Hid (After V.heap.size w6 ⟨59,4,.slice ca j cc,j,aN (P.take j),1,(encS s).toList⟩ W7 (.slice ca2 (j+1) cc2)):=hid (hH _ (List.mem_of_getElem? (show _=some _ from rfl:_[2]? =some _)));have Q1:Hid (After V.heap.size w6 ⟨5,1,.slice oa j oc,j,XO,1,[.int .u8 q]⟩ W7 (.slice Qk (j+1) U8)):=hid (hH _ (List.mem_of_getElem? (show _=some _ from rfl:_[0]? =some _)));have K7:=hid (Wo.out _ hM);have B7:=hid (eT.out.same (hM.keeps.keep mb ⟨eT.out.lt,Ex⟩));have Rh:w6.heap.size<=W7.heap.size:=hM.size
        have R0:Hid (W7.ownsRow V.heap.size 59 4 (.slice ca2 (j+1) cc2) (j+1) (aN (P.take (j+1)))):=hid (by
         have:=Q0.out.1;rw[HQS.out,fS]
         simpa[aN]using this)
        have R1:Hid (W7.ownsRow V.heap.size 5 1 (.slice Qk (j+1) U8) (j+1) (((List.range (j+1)).map (lb P)).map bu)):=hid (by
         have:=Q1.out.1;rw[HQL.out, <-HXO.out]
         exact this)
        clear hM hW hH HC f4 s0 s1 s2 s3 jH mq OK Ex Gj Wo gP eT S6 Y7 CS1 Mx Q0 Q1 Ck j8 L1 L2;obtain⟨p0,p1,p2,p3,p4,p5,p6⟩:=B7.out.seven;have z4:=B7.out.frozen 4;go_wp2;go_roundw;case rel=>
         have kg:aa (· ≠mb) W7 (W7.setCell ⟨mb,4,none⟩ (.slice ca2 (j+1) cc2)):=(aa.refl _ _).setCell (p:=⟨mb,4,none⟩) (fun h=>h rfl) _;refine⟨j+1,_,by omega,by go_num,B7.out.set 4 _,?_,?_,K7.out.tr (kg.mono fun x hx=>hx.2)⟩
         ·exact aQ R0.out kg fun x h1 _ e=>by omega
         ·exact aQ R1.out kg fun x h1 _ e=>by omega
        case measure=>simp[intOf];omega
       ·obtain rfl:j=K:=by omega
        clear hlt hj;have nz:¬ ((j:Int)<j):=by omega
        have hkP:P.take j=P:=by rw[Ep.out];exact List.take_length
        rw[hkP]at Kn;obtain⟨ca,cc,rfl⟩:=ownsRow_form Kn.out;obtain⟨oa,oc,rfl⟩:=ownsRow_form HO.out;have hbase:w.heap.size<=w2.heap.size:=X2.out.size;have ath:w2.heap.size<=V.heap.size:=XV.out.size;have XX:Hid (Below w.heap.size w wo):=hid ((X2.out.trans (XV.out.mono hbase)).trans (HX.out.mono fun x (hx:x<w.heap.size)=>⟨by omega,by have:=HMB.out;omega⟩:aa (· <w.heap.size) V wo).below);have Un:((List.range j).map (lb P)).length=j:=by simp
        have CK:=hid (Uj (fun x=>(Value.slice ca j cc).ownBlock≠some x/\(Value.slice oa j oc).ownBlock≠some x) w2.heap.size mb w2.heap.size F (.slice pa k pc) (.slice ca j cc) (.slice oa j oc) ps ((List.range j).map (lb P))
         ⟨tQ,fun x hx=>by
          have h5:=(PT.zG x).1 (List.all_eq_true.1 oD.out x hx)
          exact⟨(fE _).1 h5.1,SM.out x hx,h5.2.1,h5.2.2⟩⟩ wo
         (fun x hx=>⟨fun e=>by have:=(Kn.out.lt x e).2;omega,fun e=>by have:=(HO.out.lt x e).2;omega⟩)
         ⟨_,_,_,_,_,_, {blk:=HB.out,map:=MS.out.keeps HX.out ⟨MS.out.lt,by have:=HMB.out;omega⟩,fm:=⟨fun e=>by have:=(Kn.out.lt mb e).1;omega,fun e=>by have:=(HO.out.lt mb e).1;omega⟩,fo:=⟨fun e=>by have:=(Kn.out.lt _ e).1;have:=HMB.out;omega,fun e=>by have:=(HO.out.lt _ e).1;have:=HMB.out;omega⟩,bm:=by have:=HMB.out;omega,bo:=Nat.le_refl _,st:=jd.nil _ _ _ _,Ve:=fun i u r hu=>by simp at hu,xj:=jd.nil _ _ _ _,Qt:=fun i u r hu=>by simp at hu,wE:=jd.nil _ _ _ _,Qu:=fun i u r hu=>by simp at hu,far:=.inl rfl}⟩ hF4 (by rw[Un];exact RH)
         (fun c hc=>by obtain⟨i,hi,rfl⟩:=List.mem_map.1 hc;exact HLB.out i (by rw[<-Ep.out];exact List.mem_range.1 hi))
         (fun W hW=>dp (e:=5) (base:=V.heap.size) (aj HO.out hW fun x hx=>⟨(HO.out.lt x hx).2,.inr fun h=>h.2 hx⟩) Un.symm)
         (fun W hW=>HP.out.below (XX.out.trans (hW.mono hbase))) (fun W hW=>HT.out W (XX.out.trans (hW.mono hbase))))
        have HST:Hid (zD ps ((List.range j).map (lb P)) F=xd ps F):=hid (Xt (by rw[Un,Ep.out,AZ.out]) fun i hi=>by
         rw[Un]at hi
         rw[List.getD_eq_getElem?_getD,List.getElem?_map,List.getElem?_range hi, <-AZ.out];rfl)
        have B5:=hid ((B2.out.below XV.out (by have:=B2.out.lt;exact this)).keeps HX.out ⟨by have:=B2.out.lt;omega,by have:=B2.out.lt;have:=HMB.out;omega⟩);clear hkP Un CL CS CM;go_wp2_with fail
        refine CK.out.mono ?_;rintro e w9 ⟨hk9,hq⟩;have B9:=hid (B5.out.keeps hk9 ⟨B5.out.lt,.inl B2.out.lt⟩);have K9:=hid hk9;have X9:Hid (Below w.heap.size w w9):=hid (XX.out.trans (hk9.mono fun x (hx:x<w.heap.size)=>⟨Nat.lt_of_lt_of_le hx XX.out.size,.inl (by omega)⟩:aa (· <w.heap.size) wo w9).below);clear hk9;obtain⟨⟨k0,k1,k2⟩,z0,z1,z2⟩:=B9.out.three;rcases hq with⟨st,hst,rfl,hM⟩ | ⟨hno,rfl⟩
        ·obtain⟨sv9,nv9,kv9,us9,ns9,ks9,M⟩:=hM
         have Vl:=M.xj.1;have Ip:=M.wE.1;obtain⟨n9,hn9⟩:∃ z,z=(st.2.map fun r=>r.map Int.ofNat).length:=⟨_,rfl⟩;obtain⟨k9,hk9⟩:∃ z,z=st.1.length:=⟨_,rfl⟩;rw[<-hn9]at Vl;rw[<-hk9]at Ip;obtain⟨na,nc,rfl⟩:=ownsRow_form Vl;obtain⟨ma,mc,rfl⟩:=ownsRow_form Ip;have M9:=hid M;obtain⟨y0,y1,y2,y3,y4,y5,y6⟩:=M.blk.seven;have HPZ:=hid (Um (f:=F) tQ oD.out hF4 (by rw[<-HST.out];exact hst));clear M hst Vl Ip hn9 hk9;go_wp2;refine bB ?_;intro W9 dK;have E9:Hid (ah W9 w.heap.size #[.slice ca j cc,.slice na n9 nc,.slice ma k9 mc] 28/\aa (· ≠w.heap.size) w9 W9):=by rw[dK];exact hid ⟨B9.out.rW,((((aa.refl _ _).setCell (p:=⟨w.heap.size,0,none⟩) (fun h=>h rfl) _).setCell (p:=⟨w.heap.size,1,none⟩) (fun h=>h rfl) _).setCell (p:=⟨w.heap.size,2,none⟩) (fun h=>h rfl) _)⟩
         clear dK z0 z1 z2 k0 k1 k2 y0 y1 y2 y3 y4 y5 y6;obtain⟨⟨m0,m1,m2⟩,_⟩:=E9.out.1.three;refine bodyPost_ret (v:=.tuple #[.agg #[.slice ca j cc,.slice na n9 nc,.slice ma k9 mc],.int .i64 0]) (by simp[results,Tryz.results47,go_sem,m0,m1,m2]) rfl ?_;rw[HPZ.out];have hw2:w.heap.size<w2.heap.size:=B2.out.lt;refine⟨_,rfl,⟨_,_,_,rfl,?_,?_,?_⟩,X9.out.trans (E9.out.2.mono fun x (hx:x<w.heap.size)=>Nat.ne_of_lt hx:aa (· <w.heap.size) w9 W9).below⟩
         ·show W9.ownsRow w.heap.size 59 4 _ (partsOf (cQ ps)).length _
          rw[<-AZ.out, <-Ep.out];refine aA (base:=V.heap.size) ?_ (by omega);refine aj (aj Kn.out K9.out fun x hx=>⟨(Kn.out.lt x hx).2,.inr fun h=>h.1 hx⟩) E9.out.2 fun x hx=>by have:=(Kn.out.lt x hx).1;show x≠w.heap.size;omega
         ·have h5:aW w2.heap.size w9 (.slice na n9 nc) (st.2.map fun r=>r.map Int.ofNat):=OY.own ⟨_,M9.out.xj,M9.out.Qt⟩
          exact(h5.keeps E9.out.2 fun x h1 _=>by show x≠w.heap.size;omega).base hbase
         ·have h5:aW w2.heap.size w9 (.slice ma k9 mc) (st.1.map (ej ps)):=OY.own ⟨_,by rw[List.length_map];exact M9.out.wE,M9.out.Qu⟩
          exact(h5.keeps E9.out.2 fun x h1 _=>by show x≠w.heap.size;omega).base hbase
        ·have HPZ:=hid (Ul (f:=F) tQ oD.out hF4 (by rw[<-HST.out];exact hno))
         clear hno;go_wp2;refine bB ?_;intro W9 dK;have E9:Hid (ah W9 w.heap.size #[.slice none 0 0,.slice none 0 0,.slice none 0 0] 28/\Below w.heap.size w W9):=by rw[dK];exact hid ⟨B9.out.rW,dZ X9.out (Nat.le_refl _)⟩
         clear dK z0 z1 z2 k0 k1 k2;obtain⟨⟨m0,m1,m2⟩,_⟩:=E9.out.1.three;refine bodyPost_ret (v:=.tuple #[.agg #[.slice none 0 0,.slice none 0 0,.slice none 0 0],.int .i64 181]) (by simp[results,Tryz.results47,go_sem,m0,m1,m2]) rfl (fin.out W9 181 HPZ.out E9.out.1 E9.out.2)
end Go.Proofs.YtalombmiochpmaaGreatDoor
