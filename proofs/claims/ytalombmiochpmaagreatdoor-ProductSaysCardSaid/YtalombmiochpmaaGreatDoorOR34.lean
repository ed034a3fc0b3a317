/- The law's rounds. -/
import Derived.Test.YtalombmiochpmaaGreatDoorOR33
set_option maxRecDepth 100000
set_option maxHeartbeats 16000000
open Go.Lib (hid)
namespace Go.Proofs.YtalombmiochpmaaGreatDoor
open Go Go.RowKit Go.Shelf Go.Maps
attribute [local go_sem] encS
def jr (n k:Nat):List (List Int):=(List.range k).map fun s=>[(n:Int),(((s+1)%n:Nat):Int)]
theorem I7 (n k:Nat):jr n (k+1)=jr n k++ [[(n:Int),(((k+1)%n:Nat):Int)]]:=by unfold jr;rw[List.range_succ,List.map_append];rfl
def I8 (l:List Nat):BS:=oJ fun c=>l.contains c
def bN (n:Nat):DF:=⟨[~~~(I8 [97]),I8 [97]],jr n n++ [[(n:Int),(n:Int)]],[0]::List.replicate n []⟩
theorem zL (n:Nat) (gR:1<=n) (hn:n<=1000) (w:World): Calls Tryz.prog 27 #[.int .i64 n] w fun e w'=>∃ u,e=.returned u/\aT w' u (bN n)/\Below w.heap.size w w':=by
 obtain⟨iL,Gk,oM,oN,oO⟩:=info_parts Tryz.vU;obtain⟨sa,Kf⟩:∃ s,s=I8 [97]:=⟨_,rfl⟩;obtain⟨so,hso⟩:∃ s,s= ~~~sa:=⟨_,rfl⟩;have CO:Hid (∀ W,Calls Tryz.prog 30 #[.string ⟨#[97]⟩] W fun e w'=>e=.returned (.agg (encS so))/\Below W.heap.size W w'):=hid fun W=>by rw[hso,Kf];exact zK ⟨#[97]⟩ [97] rfl (by decide) W
 have CL:Hid (∀ W,Calls Tryz.prog 31 #[.string ⟨#[97]⟩] W fun e w'=>e=.returned (.agg (encS sa))/\Below W.heap.size W w'):=hid fun W=>by rw[Kf];exact sF ⟨#[97]⟩ [97] rfl (by decide) W
 have hD:bN n=⟨[so,sa],jr n n++ [[(n:Int),(n:Int)]],[0]::List.replicate n []⟩:=by unfold bN;rw[<-Kf, <-hso]
 rw[hD];clear hD hso Kf;go_enter Tryz.func27,Tryz.ntmps27;go_wp2_with fail
 refine az ?_;intro V hV;have R0:Hid (ah V w.heap.size #[.slice none 0 0,.slice none 0 0,.slice none 0 0] 28):=hid (by rw[hV];exact ah.new _ _ _);have X0:Hid (Below w.heap.size w V):=hid (by rw[hV];exact((Ext.refl w).alloc _).below);clear hV;refine(CO.out V).mono ?_;rintro e w1 ⟨rfl,hx⟩;have R1:=hid (R0.out.below hx R0.out.lt);have X1:=hid (X0.out.trans (hx.mono X0.out.size));clear hx R0 X0 CO;go_wp2_with fail
 refine(CL.out w1).mono ?_;rintro e w2 ⟨rfl,hx⟩;have R2:=hid (R1.out.below hx R1.out.lt);have X2:=hid (X1.out.trans (hx.mono X1.out.size));clear hx R1 X1 CL;have rB:w.heap.size<w2.heap.size:=R2.out.lt;go_wp2;obtain⟨cls,ab1⟩:∃ c:Array Value,c= #[.int .u64 (wd so 0).toNat,.int .u64 (wd so 1).toNat,.int .u64 (wd so 2).toNat,.int .u64 (wd so 3).toNat,.int .u64 (wd sa 0).toNat,.int .u64 (wd sa 1).toNat,.int .u64 (wd sa 2).toNat,.int .u64 (wd sa 3).toNat]:=⟨_,rfl⟩;have HCS:Hid (cls.toList=aN [so,sa]):=hid (by rw[ab1];rfl);have HCQ:=hid ab1;clear ab1;go_loopw [10] (fun iv wr=>∃ (k:Nat) (nx mk:Value),k<=n/\iv=.int .i64 k/\ah wr (w2.heap.size+1) #[.slice (some ⟨w2.heap.size,0,none⟩) 2 2,nx,mk] 28/\aW (w2.heap.size+2) wr nx (jr n k)/\aW (w2.heap.size+2) wr mk (List.replicate k [])/\mH nx mk/\ah wr w2.heap.size cls 59/\ah wr w.heap.size #[.slice none 0 0,.slice none 0 0,.slice none 0 0] 28/\Below w.heap.size w wr/\w2.heap.size+2<=wr.heap.size) (fun iv _=>n-(intOf iv).toNat);case atStart=>
  refine⟨0,_,_,Nat.zero_le _,rfl,(ah.new _ _ _).at (by simp),aW.nil _ _,aW.nil _ _,.inl rfl,?_,(R2.out.alloc _).alloc _,(X2.out.alloc X2.out.size _).alloc (by have:=X2.out.size;simp;omega) _,by simp⟩;rw[HCQ.out];exact(ah.new _ _ _).alloc _
 case round=>
  obtain⟨k,nx,mk,hk,rfl,hb,Va,oA,hfar,jV,ZT,hx,hszl⟩:=hrel;obtain⟨wo,rfl⟩:∃ wo:World,wo=wr:=⟨_,rfl⟩;have JG:=hid hb;have Ql:=hid Va;have Ws:=hid oA;have Qm:=hid hfar;have WZ:=hid jV;have Zd:=hid ZT;have HX:=hid hx;clear hb Va oA hfar jV ZT hx;by_cases hlt:k<n
  ·have gz:(k:Int)<n:=by omega
   obtain⟨q,hq⟩:∃ q,q=(k+1)%n:=⟨_,rfl⟩;have MC:q<n:=by rw[hq];exact Nat.mod_lt _ (by omega)
   have HQ:=hid hq;have atn:Int.tmod ((k:Int)+1) n=(q:Int):=by rw[hq,Int.tmod_eq_emod_of_nonneg (by omega),Int.natCast_emod,Int.natCast_add];rfl
   have hw1:IntKind.i64.wrap ((k:Int)+1)=(k:Int)+1:=IntWalk.i64_in _ (by omega);have hw2:IntKind.i64.wrap (q:Int)=q:=IntWalk.i64_in _ (by omega);have hnz:((n:Int)==0)=false:=by rw[beq_eq_false_iff_ne];omega
   have ato:¬ ((n:Int)=0):=by omega
   have atp:¬ (n=0):=by omega
   clear hq;obtain⟨us,u1,u2,u3⟩:=Ql.out;obtain⟨ms,m1,m2,m3⟩:=Ws.out;have Kp:us.length=k:=by rw[u1];simp[jr]
   have Cr:ms.length=k:=by rw[m1];simp
   rw[Kp]at u2;rw[Cr]at m2;obtain⟨na,nc,rfl⟩:=ownsRow_form u2;obtain⟨ma,mc,rfl⟩:=ownsRow_form m2;obtain⟨mx,hmx⟩:∃ x:List Value,x=[.int .i64 n,.int .i64 (q:Int)]:=⟨_,rfl⟩;have U1:=hid u1;have U2:=hid u2;have U3:=hid u3;have M1:=hid m1;have M2:=hid m2;have M3:=hid m3;have Yw:=hid Kp;have Qo:=hid Cr;have L1:Hid (∀ x,(Value.slice na k nc).ownBlock=some x->x<wo.heap.size/\w2.heap.size+2<=x):=hid fun x e=>⟨(u2.lt x e).2,(u2.lt x e).1⟩
   have L2:Hid (∀ x,(Value.slice ma k mc).ownBlock=some x->x<wo.heap.size/\w2.heap.size+2<=x):=hid fun x e=>⟨(m2.lt x e).2,(m2.lt x e).1⟩
   clear u1 u2 u3 m1 m2 m3 Kp Cr Ql Ws;obtain⟨PL,qR⟩:∃ PL:List gS.App,PL=[mkApp wo.heap.size (.slice na k nc) k us 2 mx,gg wo.heap.size (.slice ma k mc) k ms (.slice none 0 0)]:=⟨_,rfl⟩;have jH:PL[0]? =some (mkApp wo.heap.size (.slice na k nc) k us 2 mx):=by rw[qR];rfl
   have mq:PL[1]? =some (gg wo.heap.size (.slice ma k mc) k ms (.slice none 0 0)):=by rw[qR];rfl
   have hall:∀ q∈PL,q=mkApp wo.heap.size (.slice na k nc) k us 2 mx\/q=gg wo.heap.size (.slice ma k mc) k ms (.slice none 0 0):=fun q hq=>by rw[qR]at hq;simpa using hq
   have yE:Hid (gS.kB wo PL):=hid ⟨fun q hq=>by rcases hall q hq with rfl | rfl<;>exact Nat.le_refl _,fun q hq x e=>by
    rcases hall q hq with rfl | rfl
    ·have:=L1.out x e;omega
    ·have:=L2.out x e;omega,fun i j q q' hi hj oZ=>by
    have hl:PL.length=2:=by rw[qR];rfl
    have h1:=(List.getElem?_eq_some_iff.1 hi).1;have h2:=(List.getElem?_eq_some_iff.1 hj).1;rcases(show i=0\/i=1 by omega)with rfl | rfl<;>rcases(show j=0\/j=1 by omega)with rfl | rfl<;>(first | (exact absurd rfl oZ) | skip)<;>(first | rw[jH]at hi | rw[mq]at hi)<;>(first | rw[jH]at hj | rw[mq]at hj)<;>cases hi<;>cases hj
    ·exact Qm.out
    ·exact Qm.out.symm⟩
   have yC:∀ x,(x<w2.heap.size+2\/wo.heap.size<=x)->¬ ∃ q∈PL,q.v.ownBlock=some x:=fun x hx ⟨q,hq,e⟩=>by
    rcases hall q hq with rfl | rfl
    ·have:=L1.out x e;omega
    ·have:=L2.out x e;omega
   have wX:=hid hall;have sM:=hid yC;have Gg:w2.heap.size+2<=wo.heap.size:=hszl;clear qR hall yC;have MH:=hid hmx;clear hmx;have HST:Hid (∀ W W' u,gS.bT (w2.heap.size+2) wo PL W W'->(u.oneCell'=true/\W.ownsRow wo.heap.size 3 1 u 2 mx)->(u.oneCell'=true/\W'.ownsRow wo.heap.size 3 1 u 2 mx)):=hid fun W W' u hm h=>⟨h.1,aj h.2 hm.keeps fun x hx=>⟨(h.2.lt x hx).2,sM.out x (.inr (by have:=(h.2.lt x hx).1;omega))⟩⟩
   go_wp2;refine RegG.aY (gS.bT (w2.heap.size+2) wo PL) (gS.bT.drew) (fun _ _ _ h k=>h.trans k) (by kernel_rfl) 15 [0,1,0,0,8,0,56,124,252,511,0,1024,0,8191,4095,32767,65535,131071] (fun i=>i==7 || i==8 || i==9 || i==12 || i==13) (by kernel_rfl) (fun j=>if j=13 then some 22 else none) (fun j hj=>(by first | rfl | (have eE:18<=j:=hj;first | exact if_neg (by omega) | (split<;>first | omega | rfl)))) (by kernel_rfl) (fun i=>if i=7 then gS.fU.row (w2.heap.size+2) wo PL yE.out wo.heap.size (Nat.le_refl _) 3 1 2 mx else if i=8 then gS.fU.N9 (w2.heap.size+2) wo PL 47 (fun W u=>u.oneCell'=true/\W.ownsRow wo.heap.size 3 1 u 2 mx) HST.out else if i=9 then gS.fU.app (w2.heap.size+2) wo PL (mkApp wo.heap.size (.slice na k nc) k us 2 mx) (List.mem_of_getElem? jH)else if i=12 then gS.fU.pK (w2.heap.size+2) wo PL 1 #[.slice none 0 0] 47 else if i=13 then gS.fU.nH (w2.heap.size+2) wo PL (gg wo.heap.size (.slice ma k mc) k ms (.slice none 0 0)) (List.mem_of_getElem? mq)else RegG.aH.any _) ?_;intro C hC hne;have HC:=hid hC;have lB:∀ {x:Nat},x<wo.heap.size->(¬ ∃ q∈PL,q.v.ownBlock=some x)->∀ W: {W//C W},W.1.heap[x]? =wo.heap[x]? :=fun {x} h1 h2 W=>((hC W.1).1 W.2).keeps.keep x ⟨h1,h2⟩
   have o1:∀ W: {W//C W},W.1.cell? ⟨w2.heap.size+1,1,none⟩=some (.slice na k nc):=fun W=>(JG.out.same (lB JG.out.lt (sM.out _ (by omega)) W)).cell 1
   have o2:∀ W: {W//C W},W.1.cell? ⟨w2.heap.size+1,2,none⟩=some (.slice ma k mc):=fun W=>(JG.out.same (lB JG.out.lt (sM.out _ (by omega)) W)).cell 2
   clear hC lB
   repeat (refine RegG.ae (fun K hK=>?_);first | (refine RegG.aR rfl ?_;try go_simp;refine hK _ _ ?_;clear hK K) | (refine RegG.aO rfl rfl ?_;unfold ai;go_simp;refine hK _ _ ?_;clear hK K))
   refine RegG.ae (fun K hK=>?_);refine RegG.bg rfl rfl (gS.fU.row (w2.heap.size+2) wo PL yE.out wo.heap.size (Nat.le_refl _) 3 1 2 mx) rfl (fun W hW hN=>?_) (fun v hv=>?_)
   ·have hM:=(HC.out W).1 hW
    clear hW hK K
    (go_simp;exact⟨.below ((Ext.refl _).alloc _).below,⟨_,_,rfl⟩,by rw[MH.out];exact rfl,.inr ⟨_,2, #[.int .i64 n,.int .i64 (q:Int)],rfl,hM.size,ah.new _ _ _,Nat.le_refl _,by unfold maxLen;omega,rfl,by rw[MH.out];rfl⟩⟩)
   obtain⟨a7,c7,rfl⟩:=hv;go_simp;refine hK _ _ ?_;clear hK K
   repeat (refine RegG.ae (fun K hK=>?_);first | (refine RegG.aR rfl ?_;try go_simp;refine hK _ _ ?_;clear hK K) | (refine RegG.aO rfl rfl ?_;unfold ai;go_simp;refine hK _ _ ?_;clear hK K))
   refine RegG.ae (fun K hK=>?_);refine RegG.bg rfl rfl (gS.fU.N9 (w2.heap.size+2) wo PL 47 (fun W u=>u.oneCell'=true/\W.ownsRow wo.heap.size 3 1 u 2 mx) HST.out) rfl (fun W hW hN=>?_) (fun v hv=>?_)
   ·have hM:=(HC.out W).1 hW
    clear hW hK K
    (go_simp;exact⟨.below ((Ext.refl _).alloc _).below,⟨_,rfl⟩,fun b hb=>by cases hb;exact⟨⟨_,ah.new _ _ _,rfl,(show W.ownsRow wo.heap.size 3 1 (.slice a7 2 c7) 2 mx from hN.at 0 rfl (by kernel_rfl)).alloc _⟩,yE.out.fresh hM.size⟩⟩)
   obtain⟨x8,rfl⟩:=hv;go_simp;refine hK _ _ ?_;clear hK K
   repeat (refine RegG.ae (fun K hK=>?_);first | (refine RegG.aR rfl ?_;try go_simp;refine hK _ _ ?_;clear hK K) | (refine RegG.aO rfl rfl ?_;unfold ai;go_simp;refine hK _ _ ?_;clear hK K))
   refine RegG.ae (fun K hK=>?_);refine RegG.bg rfl rfl (gS.fU.app (w2.heap.size+2) wo PL (mkApp wo.heap.size (.slice na k nc) k us 2 mx) (List.mem_of_getElem? jH)) rfl (fun W hW hN=>?_) (fun v hv=>?_)
   ·have hM:=(HC.out W).1 hW
    obtain⟨⟨ub,hb1,hb2,hb3⟩,_⟩:=hN.at 0 rfl (by kernel_rfl) x8 rfl;clear hW hK K;exact gS.cI (w0:=wo) (PL:=PL) (p:=(mkApp wo.heap.size (.slice na k nc) k us 2 mx)) (.tmp 14) (.tmp 21) 26 rfl iL (.slice none 0 0) 24 Tryz.underlying26 Gk oM oN oO rfl (show(0:Nat)<1 from by decide) yE.out jH rfl (hM.old _ (List.mem_of_getElem? jH) U2.out) ⟨x8,0,none⟩ 1 rfl [ub] ⟨ub,rfl,hb2,hb3⟩ rfl (bU hb1) (by intro u hu;simp at hu;rw[hu];exact hb2) (by show k+1<=maxLen;unfold maxLen;omega) (by show(k+1)*24<=_;omega) (Nat.le_trans (by omega) hM.size) (show(0:Nat)<1 from by decide) hM.size (fun v W2 g1 g2 g3 _=>⟨g1,g2,g3⟩)
   obtain⟨rC,rD,hv2⟩:=hv;replace hv2:v=.slice rC (k+1) rD:=hv2;subst hv2;go_simp;refine hK _ _ ?_;clear hK K
   repeat (refine RegG.ae (fun K hK=>?_);first | (refine RegG.aR rfl ?_;try go_simp;refine hK _ _ ?_;clear hK K) | (refine RegG.aO rfl rfl ?_;unfold ai;go_simp;refine hK _ _ ?_;clear hK K))
   refine RegG.ae (fun K hK=>?_);refine RegG.bg rfl rfl (gS.fU.pK (w2.heap.size+2) wo PL 1 #[.slice none 0 0] 47) rfl (fun W hW hN=>?_) (fun v hv=>?_)
   ·have hM:=(HC.out W).1 hW
    clear hW hK K
    (go_simp;exact⟨.below ((Ext.refl _).alloc _).below,⟨_,rfl⟩,fun b hb=>by cases hb;exact⟨ah.new _ _ _,yE.out.fresh hM.size⟩⟩)
   obtain⟨Ze,rfl⟩:=hv;go_simp;refine hK _ _ ?_;clear hK K
   repeat (refine RegG.ae (fun K hK=>?_);first | (refine RegG.aR rfl ?_;try go_simp;refine hK _ _ ?_;clear hK K) | (refine RegG.aO rfl rfl ?_;unfold ai;go_simp;refine hK _ _ ?_;clear hK K))
   refine RegG.ae (fun K hK=>?_);refine RegG.bg rfl rfl (gS.fU.nH (w2.heap.size+2) wo PL (gg wo.heap.size (.slice ma k mc) k ms (.slice none 0 0)) (List.mem_of_getElem? mq)) rfl (fun W hW hN=>?_) (fun v hv=>?_)
   ·have hM:=(HC.out W).1 hW
    have hq:gS.After (w2.heap.size+2) wo (mkApp wo.heap.size (.slice na k nc) k us 2 mx) W (.slice rC (k+1) rD):=hN.at 1 rfl (by kernel_rfl);have uD:=hN.at 0 rfl (by kernel_rfl) Ze rfl;clear hW hK K;refine gS.cI (w0:=wo) (PL:=PL) (p:=(gg wo.heap.size (.slice ma k mc) k ms (.slice none 0 0))) (.tmp 24) (.tmp 25) 26 rfl iL (.slice none 0 0) 24 Tryz.underlying26 Gk oM oN oO rfl (show(0:Nat)<1 from by decide) yE.out mq rfl (hM.old _ (List.mem_of_getElem? mq) M2.out) ⟨Ze,0,none⟩ 1 rfl [.slice none 0 0] rfl rfl (bU uD.1) (by intro u hu;simp at hu;rw[hu];rfl) (by show k+1<=maxLen;unfold maxLen;omega) (by show(k+1)*24<=_;omega) (Nat.le_trans (by omega) hM.size) (show(0:Nat)<1 from by decide) hM.size (fun v W2 g1 g2 g3 g4=>⟨g1,g2,g3,?_⟩);rcases g4 with g4 | g4
    ·exact .inl g4
    ·refine .inr (.inr fun e=>?_)
     rw[g4]at e;obtain⟨⟨ns,h5,_⟩,_⟩:=hq;have:=(h5.lt _ e.symm).2;omega
   obtain⟨Ao,sO,hv2⟩:=hv;replace hv2:v=.slice Ao (k+1) sO:=hv2;subst hv2;go_simp;refine hK _ _ ?_;clear hK K
   repeat (refine RegG.ae (fun K hK=>?_);first | (refine RegG.aR rfl ?_;try go_simp;refine hK _ _ ?_;clear hK K) | (refine RegG.aO rfl rfl ?_;unfold ai;go_simp;refine hK _ _ ?_;clear hK K))
   refine RegG.bh (fun W7 hW hH=>?_);have hM:=(HC.out W7).1 hW;have Q0:Hid (gS.After (w2.heap.size+2) wo (mkApp wo.heap.size (.slice na k nc) k us 2 mx) W7 (.slice rC (k+1) rD)):=hid (hH _ (List.mem_of_getElem? (show _=some _ from rfl:_[2]? =some _)));have Q1:Hid (gS.After (w2.heap.size+2) wo (gg wo.heap.size (.slice ma k mc) k ms (.slice none 0 0)) W7 (.slice Ao (k+1) sO)/\((Value.slice Ao (k+1) sO).ownBlock=(Value.slice ma k mc).ownBlock\/mH (.slice Ao (k+1) sO) (.slice rC (k+1) rD))):=hid (hH _ (List.mem_of_getElem? (show _=some _ from rfl:_[0]? =some _)));have K7:Hid (aa (fun x=>x<wo.heap.size/\¬ ∃ q∈PL,q.v.ownBlock=some x) wo W7):=hid hM.keeps
   have KR:Hid (∀ (e:TypeId) (bs sz m:Nat) (u:Value) (ys:List Value),e≠47->wo.ownsRow bs e sz u m ys->W7.ownsRow bs e sz u m ys):=hid (by
    intro e bs sz m u ys he ho;refine aj ho K7.out fun x hx=>⟨(ho.lt x hx).2,?_⟩
    rintro⟨q,hq,Am⟩;rcases wX.out q hq with rfl | rfl
    ·rcases ownBlock_ne he ho U2.out with h5 | h5
     ·rw[h5]at hx;cases hx
     ·exact h5 (hx.trans Am.symm)
    ·rcases ownBlock_ne he ho M2.out with h5 | h5
     ·rw[h5]at hx;cases hx
     ·exact h5 (hx.trans Am.symm))
   have B7:=hid (JG.out.keeps K7.out ⟨JG.out.lt,sM.out _ (.inl (by omega))⟩);have C7:=hid (WZ.out.keeps K7.out ⟨WZ.out.lt,sM.out _ (.inl (by omega))⟩);have R7:=hid (Zd.out.keeps K7.out ⟨Zd.out.lt,sM.out _ (.inl (by omega))⟩);have X7:Hid (Below w.heap.size w W7):=hid (HX.out.trans (K7.out.mono fun x hx=>⟨by have:x<w.heap.size:=hx;omega,sM.out x (by have:x<w.heap.size:=hx;omega)⟩:aa (· <w.heap.size) wo W7).below)
   have O7:Hid (aW (w2.heap.size+2) W7 (.slice rC (k+1) rD) (jr n k++ [[(n:Int),(q:Int)]])):=hid (by
    obtain⟨⟨ns,h5,u,h6,_,h7⟩,_⟩:=Q0.out;have h6:ns=[u]:=h6;subst h6;refine aW.more U1.out Yw.out h5 (fun i u l hu hl=>KR.out _ _ _ _ _ _ (by decide) (U3.out i u l hu hl)) ?_;rw[MH.out]at h7
    exact aA h7 (by omega))
   have P7:Hid (aW (w2.heap.size+2) W7 (.slice Ao (k+1) sO) (List.replicate (k+1) [])):=hid (by
    obtain⟨⟨⟨ns,h5,h6⟩,_⟩,_⟩:=Q1.out;have h6:ns=[.slice none 0 0]:=h6;subst h6;rw[show List.replicate (k+1) ([]:List Int)=List.replicate k []++ [[]] from List.replicate_succ']
    exact aW.more M1.out Qo.out h5 (fun i u l hu hl=>KR.out _ _ _ _ _ _ (by decide) (M3.out i u l hu hl)) (World.ownsRow_nil _ _ _ _))
   have FR:Hid (mH (.slice rC (k+1) rD) (.slice Ao (k+1) sO)):=hid (by
    rcases Q1.out.2 with h | h
    ·rcases Q0.out.2 with h' | h'
     ·rcases Qm.out with h3 | h3
      ·exact .inl (h'.trans h3)
      ·exact .inr (by rw[h',h];exact h3)
     ·by_cases e:(Value.slice rC (k+1) rD).ownBlock=none
      ·exact .inl e
      ·right
       intro e2;rw[h]at e2;cases e3:(Value.slice ma k mc).ownBlock with
       | none=>rw[e3]at e2;exact e e2
       | some x=>rw[e3]at e2;have:=h' x e2;have:=(L2.out x e3).1;omega
    ·exact h.symm)
   have hs7:wo.heap.size<=W7.heap.size:=K7.out.size;clear hM hW hH HC o1 o2 jH mq yE wX sM HST K7 KR JG WZ Zd HX Q0 Q1 L1 L2 U1 U2 U3 M1 M2 M3 Yw Qo MH Qm;obtain⟨⟨k0,k1,k2⟩,z0,z1,z2⟩:=B7.out.three;go_wp2;go_roundw;case rel=>
    have kg:aa (· ≠w2.heap.size+1) W7 ((W7.setCell ⟨w2.heap.size+1,1,none⟩ (.slice rC (k+1) rD)).setCell ⟨w2.heap.size+1,2,none⟩ (.slice Ao (k+1) sO)):=
     ((aa.refl _ _).setCell (p:=⟨w2.heap.size+1,1,none⟩) (fun h=>h rfl) _).setCell (p:=⟨w2.heap.size+1,2,none⟩) (fun h=>h rfl) _
    refine⟨k+1,_,_,by omega,by go_num,(B7.out.set 1 _).set 2 _,?_,P7.out.keeps kg (fun x h1 _ e=>by omega),FR.out,C7.out.keeps kg (by omega),R7.out.keeps kg (by omega),X7.out.trans (kg.mono fun x hx e=>by have:x<w.heap.size:=hx;omega:aa (· <w.heap.size) W7 _).below,by simp;omega⟩;rw[I7, <-HQ.out];exact O7.out.keeps kg (fun x h1 _ e=>by omega)
   case measure=>simp[intOf];omega
  ·obtain rfl:k=n:=by omega
   obtain⟨us,u1,u2,u3⟩:=Ql.out;obtain⟨ms,m1,m2,m3⟩:=Ws.out;have Kp:us.length=k:=by rw[u1];simp[jr]
   have Cr:ms.length=k:=by rw[m1];simp
   rw[Kp]at u2;rw[Cr]at m2;obtain⟨na,nc,rfl⟩:=ownsRow_form u2;obtain⟨ma,mc,rfl⟩:=ownsRow_form m2;obtain⟨mx,hmx⟩:∃ x:List Value,x=[.int .i64 k,.int .i64 (k:Int)]:=⟨_,rfl⟩;have U1:=hid u1;have U2:=hid u2;have U3:=hid u3;have M1:=hid m1;have M2:=hid m2;have M3:=hid m3;have Yw:=hid Kp;have Qo:=hid Cr;have L1:Hid (∀ x,(Value.slice na k nc).ownBlock=some x->x<wo.heap.size/\w2.heap.size+2<=x):=hid fun x e=>⟨(u2.lt x e).2,(u2.lt x e).1⟩
   have L2:Hid (∀ x,(Value.slice ma k mc).ownBlock=some x->x<wo.heap.size/\w2.heap.size+2<=x):=hid fun x e=>⟨(m2.lt x e).2,(m2.lt x e).1⟩
   clear u1 u2 u3 m1 m2 m3 Kp Cr Ql Ws;obtain⟨PL,qR⟩:∃ PL:List gS.App,PL=[mkApp wo.heap.size (.slice na k nc) k us 2 mx,gg wo.heap.size (.slice ma k mc) k ms (.slice none 0 0)]:=⟨_,rfl⟩;have jH:PL[0]? =some (mkApp wo.heap.size (.slice na k nc) k us 2 mx):=by rw[qR];rfl
   have mq:PL[1]? =some (gg wo.heap.size (.slice ma k mc) k ms (.slice none 0 0)):=by rw[qR];rfl
   have hall:∀ q∈PL,q=mkApp wo.heap.size (.slice na k nc) k us 2 mx\/q=gg wo.heap.size (.slice ma k mc) k ms (.slice none 0 0):=fun q hq=>by rw[qR]at hq;simpa using hq
   have yE:Hid (gS.kB wo PL):=hid ⟨fun q hq=>by rcases hall q hq with rfl | rfl<;>exact Nat.le_refl _,fun q hq x e=>by
    rcases hall q hq with rfl | rfl
    ·have:=L1.out x e;omega
    ·have:=L2.out x e;omega,fun i j q q' hi hj oZ=>by
    have hl:PL.length=2:=by rw[qR];rfl
    have h1:=(List.getElem?_eq_some_iff.1 hi).1;have h2:=(List.getElem?_eq_some_iff.1 hj).1;rcases(show i=0\/i=1 by omega)with rfl | rfl<;>rcases(show j=0\/j=1 by omega)with rfl | rfl<;>(first | (exact absurd rfl oZ) | skip)<;>(first | rw[jH]at hi | rw[mq]at hi)<;>(first | rw[jH]at hj | rw[mq]at hj)<;>cases hi<;>cases hj
    ·exact Qm.out
    ·exact Qm.out.symm⟩
   have yC:∀ x,(x<w2.heap.size+2\/wo.heap.size<=x)->¬ ∃ q∈PL,q.v.ownBlock=some x:=fun x hx ⟨q,hq,e⟩=>by
    rcases hall q hq with rfl | rfl
    ·have:=L1.out x e;omega
    ·have:=L2.out x e;omega
   have wX:=hid hall;have sM:=hid yC;have Gg:w2.heap.size+2<=wo.heap.size:=hszl;clear qR hall yC;have MH:=hid hmx;clear hmx;have HST:Hid (∀ W W' u,gS.bT (w2.heap.size+2) wo PL W W'->(u.oneCell'=true/\W.ownsRow wo.heap.size 3 1 u 2 mx)->(u.oneCell'=true/\W'.ownsRow wo.heap.size 3 1 u 2 mx)):=hid fun W W' u hm h=>⟨h.1,aj h.2 hm.keeps fun x hx=>⟨(h.2.lt x hx).2,sM.out x (.inr (by have:=(h.2.lt x hx).1;omega))⟩⟩
   go_wp2;refine RegG.aY (gS.bT (w2.heap.size+2) wo PL) (gS.bT.drew) (fun _ _ _ h k=>h.trans k) (by kernel_rfl) 12 [0,1,0,0,12,28,63,0,128,0,1023,511,4095,8191,16383] (fun i=>i==4 || i==5 || i==6 || i==9 || i==10) (by kernel_rfl) (fun j=>if j=10 then some 36 else none) (fun j hj=>(by first | rfl | (have eE:15<=j:=hj;first | exact if_neg (by omega) | (split<;>first | omega | rfl)))) (by kernel_rfl) (fun i=>if i=4 then gS.fU.row (w2.heap.size+2) wo PL yE.out wo.heap.size (Nat.le_refl _) 3 1 2 mx else if i=5 then gS.fU.N9 (w2.heap.size+2) wo PL 47 (fun W u=>u.oneCell'=true/\W.ownsRow wo.heap.size 3 1 u 2 mx) HST.out else if i=6 then gS.fU.app (w2.heap.size+2) wo PL (mkApp wo.heap.size (.slice na k nc) k us 2 mx) (List.mem_of_getElem? jH)else if i=9 then gS.fU.pK (w2.heap.size+2) wo PL 1 #[.slice none 0 0] 47 else if i=10 then gS.fU.nH (w2.heap.size+2) wo PL (gg wo.heap.size (.slice ma k mc) k ms (.slice none 0 0)) (List.mem_of_getElem? mq)else RegG.aH.any _) ?_;intro C hC hne;have HC:=hid hC;have lB:∀ {x:Nat},x<wo.heap.size->(¬ ∃ q∈PL,q.v.ownBlock=some x)->∀ W: {W//C W},W.1.heap[x]? =wo.heap[x]? :=fun {x} h1 h2 W=>((hC W.1).1 W.2).keeps.keep x ⟨h1,h2⟩
   have o1:∀ W: {W//C W},W.1.cell? ⟨w2.heap.size+1,1,none⟩=some (.slice na k nc):=fun W=>(JG.out.same (lB JG.out.lt (sM.out _ (by omega)) W)).cell 1
   have o2:∀ W: {W//C W},W.1.cell? ⟨w2.heap.size+1,2,none⟩=some (.slice ma k mc):=fun W=>(JG.out.same (lB JG.out.lt (sM.out _ (by omega)) W)).cell 2
   clear hC lB
   repeat (refine RegG.ae (fun K hK=>?_);first | (refine RegG.aR rfl ?_;try go_simp;refine hK _ _ ?_;clear hK K) | (refine RegG.aO rfl rfl ?_;unfold ai;go_simp;refine hK _ _ ?_;clear hK K))
   refine RegG.ae (fun K hK=>?_);refine RegG.bg rfl rfl (gS.fU.row (w2.heap.size+2) wo PL yE.out wo.heap.size (Nat.le_refl _) 3 1 2 mx) rfl (fun W hW hN=>?_) (fun v hv=>?_)
   ·have hM:=(HC.out W).1 hW
    clear hW hK K
    (go_simp;exact⟨.below ((Ext.refl _).alloc _).below,⟨_,_,rfl⟩,by rw[MH.out];exact rfl,.inr ⟨_,2, #[.int .i64 k,.int .i64 (k:Int)],rfl,hM.size,ah.new _ _ _,Nat.le_refl _,by unfold maxLen;omega,rfl,by rw[MH.out];rfl⟩⟩)
   obtain⟨a7,c7,rfl⟩:=hv;go_simp;refine hK _ _ ?_;clear hK K
   repeat (refine RegG.ae (fun K hK=>?_);first | (refine RegG.aR rfl ?_;try go_simp;refine hK _ _ ?_;clear hK K) | (refine RegG.aO rfl rfl ?_;unfold ai;go_simp;refine hK _ _ ?_;clear hK K))
   refine RegG.ae (fun K hK=>?_);refine RegG.bg rfl rfl (gS.fU.N9 (w2.heap.size+2) wo PL 47 (fun W u=>u.oneCell'=true/\W.ownsRow wo.heap.size 3 1 u 2 mx) HST.out) rfl (fun W hW hN=>?_) (fun v hv=>?_)
   ·have hM:=(HC.out W).1 hW
    clear hW hK K
    (go_simp;exact⟨.below ((Ext.refl _).alloc _).below,⟨_,rfl⟩,fun b hb=>by cases hb;exact⟨⟨_,ah.new _ _ _,rfl,(show W.ownsRow wo.heap.size 3 1 (.slice a7 2 c7) 2 mx from hN.at 0 rfl (by kernel_rfl)).alloc _⟩,yE.out.fresh hM.size⟩⟩)
   obtain⟨x8,rfl⟩:=hv;go_simp;refine hK _ _ ?_;clear hK K
   repeat (refine RegG.ae (fun K hK=>?_);first | (refine RegG.aR rfl ?_;try go_simp;refine hK _ _ ?_;clear hK K) | (refine RegG.aO rfl rfl ?_;unfold ai;go_simp;refine hK _ _ ?_;clear hK K))
   refine RegG.ae (fun K hK=>?_);refine RegG.bg rfl rfl (gS.fU.app (w2.heap.size+2) wo PL (mkApp wo.heap.size (.slice na k nc) k us 2 mx) (List.mem_of_getElem? jH)) rfl (fun W hW hN=>?_) (fun v hv=>?_)
   ·have hM:=(HC.out W).1 hW
    obtain⟨⟨ub,hb1,hb2,hb3⟩,_⟩:=hN.at 0 rfl (by kernel_rfl) x8 rfl;clear hW hK K;exact gS.cI (w0:=wo) (PL:=PL) (p:=(mkApp wo.heap.size (.slice na k nc) k us 2 mx)) (.tmp 31) (.tmp 35) 26 rfl iL (.slice none 0 0) 24 Tryz.underlying26 Gk oM oN oO rfl (show(0:Nat)<1 from by decide) yE.out jH rfl (hM.old _ (List.mem_of_getElem? jH) U2.out) ⟨x8,0,none⟩ 1 rfl [ub] ⟨ub,rfl,hb2,hb3⟩ rfl (bU hb1) (by intro u hu;simp at hu;rw[hu];exact hb2) (by show k+1<=maxLen;unfold maxLen;omega) (by show(k+1)*24<=_;omega) (Nat.le_trans (by omega) hM.size) (show(0:Nat)<1 from by decide) hM.size (fun v W2 g1 g2 g3 _=>⟨g1,g2,g3⟩)
   obtain⟨rC,rD,hv2⟩:=hv;replace hv2:v=.slice rC (k+1) rD:=hv2;subst hv2;go_simp;refine hK _ _ ?_;clear hK K
   repeat (refine RegG.ae (fun K hK=>?_);first | (refine RegG.aR rfl ?_;try go_simp;refine hK _ _ ?_;clear hK K) | (refine RegG.aO rfl rfl ?_;unfold ai;go_simp;refine hK _ _ ?_;clear hK K))
   refine RegG.ae (fun K hK=>?_);refine RegG.bg rfl rfl (gS.fU.pK (w2.heap.size+2) wo PL 1 #[.slice none 0 0] 47) rfl (fun W hW hN=>?_) (fun v hv=>?_)
   ·have hM:=(HC.out W).1 hW
    clear hW hK K
    (go_simp;exact⟨.below ((Ext.refl _).alloc _).below,⟨_,rfl⟩,fun b hb=>by cases hb;exact⟨ah.new _ _ _,yE.out.fresh hM.size⟩⟩)
   obtain⟨Ze,rfl⟩:=hv;go_simp;refine hK _ _ ?_;clear hK K
   repeat (refine RegG.ae (fun K hK=>?_);first | (refine RegG.aR rfl ?_;try go_simp;refine hK _ _ ?_;clear hK K) | (refine RegG.aO rfl rfl ?_;unfold ai;go_simp;refine hK _ _ ?_;clear hK K))
   refine RegG.ae (fun K hK=>?_);refine RegG.bg rfl rfl (gS.fU.nH (w2.heap.size+2) wo PL (gg wo.heap.size (.slice ma k mc) k ms (.slice none 0 0)) (List.mem_of_getElem? mq)) rfl (fun W hW hN=>?_) (fun v hv=>?_)
   ·have hM:=(HC.out W).1 hW
    have hq:gS.After (w2.heap.size+2) wo (mkApp wo.heap.size (.slice na k nc) k us 2 mx) W (.slice rC (k+1) rD):=hN.at 1 rfl (by kernel_rfl);have uD:=hN.at 0 rfl (by kernel_rfl) Ze rfl;clear hW hK K;refine gS.cI (w0:=wo) (PL:=PL) (p:=(gg wo.heap.size (.slice ma k mc) k ms (.slice none 0 0))) (.tmp 38) (.tmp 39) 26 rfl iL (.slice none 0 0) 24 Tryz.underlying26 Gk oM oN oO rfl (show(0:Nat)<1 from by decide) yE.out mq rfl (hM.old _ (List.mem_of_getElem? mq) M2.out) ⟨Ze,0,none⟩ 1 rfl [.slice none 0 0] rfl rfl (bU uD.1) (by intro u hu;simp at hu;rw[hu];rfl) (by show k+1<=maxLen;unfold maxLen;omega) (by show(k+1)*24<=_;omega) (Nat.le_trans (by omega) hM.size) (show(0:Nat)<1 from by decide) hM.size (fun v W2 g1 g2 g3 g4=>⟨g1,g2,g3,?_⟩);rcases g4 with g4 | g4
    ·exact .inl g4
    ·refine .inr (.inr fun e=>?_)
     rw[g4]at e;obtain⟨⟨ns,h5,_⟩,_⟩:=hq;have:=(h5.lt _ e.symm).2;omega
   obtain⟨Ao,sO,hv2⟩:=hv;replace hv2:v=.slice Ao (k+1) sO:=hv2;subst hv2;go_simp;refine hK _ _ ?_;clear hK K
   repeat (refine RegG.ae (fun K hK=>?_);first | (refine RegG.aR rfl ?_;try go_simp;refine hK _ _ ?_;clear hK K) | (refine RegG.aO rfl rfl ?_;unfold ai;go_simp;refine hK _ _ ?_;clear hK K))
   refine RegG.bh (fun W7 hW hH=>?_);have hM:=(HC.out W7).1 hW;have Q0:Hid (gS.After (w2.heap.size+2) wo (mkApp wo.heap.size (.slice na k nc) k us 2 mx) W7 (.slice rC (k+1) rD)):=hid (hH _ (List.mem_of_getElem? (show _=some _ from rfl:_[2]? =some _)));have Q1:Hid (gS.After (w2.heap.size+2) wo (gg wo.heap.size (.slice ma k mc) k ms (.slice none 0 0)) W7 (.slice Ao (k+1) sO)/\((Value.slice Ao (k+1) sO).ownBlock=(Value.slice ma k mc).ownBlock\/mH (.slice Ao (k+1) sO) (.slice rC (k+1) rD))):=hid (hH _ (List.mem_of_getElem? (show _=some _ from rfl:_[0]? =some _)));have K7:Hid (aa (fun x=>x<wo.heap.size/\¬ ∃ q∈PL,q.v.ownBlock=some x) wo W7):=hid hM.keeps
   have KR:Hid (∀ (e:TypeId) (bs sz m:Nat) (u:Value) (ys:List Value),e≠47->wo.ownsRow bs e sz u m ys->W7.ownsRow bs e sz u m ys):=hid (by
    intro e bs sz m u ys he ho;refine aj ho K7.out fun x hx=>⟨(ho.lt x hx).2,?_⟩
    rintro⟨q,hq,Am⟩;rcases wX.out q hq with rfl | rfl
    ·rcases ownBlock_ne he ho U2.out with h5 | h5
     ·rw[h5]at hx;cases hx
     ·exact h5 (hx.trans Am.symm)
    ·rcases ownBlock_ne he ho M2.out with h5 | h5
     ·rw[h5]at hx;cases hx
     ·exact h5 (hx.trans Am.symm))
   have B7:=hid (JG.out.keeps K7.out ⟨JG.out.lt,sM.out _ (.inl (by omega))⟩);have C7:=hid (WZ.out.keeps K7.out ⟨WZ.out.lt,sM.out _ (.inl (by omega))⟩);have R7:=hid (Zd.out.keeps K7.out ⟨Zd.out.lt,sM.out _ (.inl (by omega))⟩);have X7:Hid (Below w.heap.size w W7):=hid (HX.out.trans (K7.out.mono fun x hx=>⟨by have:x<w.heap.size:=hx;omega,sM.out x (by have:x<w.heap.size:=hx;omega)⟩:aa (· <w.heap.size) wo W7).below)
   have O7:Hid (aW (w2.heap.size+2) W7 (.slice rC (k+1) rD) (jr k k++ [[(k:Int),(k:Int)]])):=hid (by
    obtain⟨⟨ns,h5,u,h6,_,h7⟩,_⟩:=Q0.out;have h6:ns=[u]:=h6;subst h6;refine aW.more U1.out Yw.out h5 (fun i u l hu hl=>KR.out _ _ _ _ _ _ (by decide) (U3.out i u l hu hl)) ?_;rw[MH.out]at h7
    exact aA h7 (by omega))
   have P7:Hid (aW (w2.heap.size+2) W7 (.slice Ao (k+1) sO) (List.replicate (k+1) [])):=hid (by
    obtain⟨⟨⟨ns,h5,h6⟩,_⟩,_⟩:=Q1.out;have h6:ns=[.slice none 0 0]:=h6;subst h6;rw[show List.replicate (k+1) ([]:List Int)=List.replicate k []++ [[]] from List.replicate_succ']
    exact aW.more M1.out Qo.out h5 (fun i u l hu hl=>KR.out _ _ _ _ _ _ (by decide) (M3.out i u l hu hl)) (World.ownsRow_nil _ _ _ _))
   have FR:Hid (mH (.slice rC (k+1) rD) (.slice Ao (k+1) sO)):=hid (by
    rcases Q1.out.2 with h | h
    ·rcases Q0.out.2 with h' | h'
     ·rcases Qm.out with h3 | h3
      ·exact .inl (h'.trans h3)
      ·exact .inr (by rw[h',h];exact h3)
     ·by_cases e:(Value.slice rC (k+1) rD).ownBlock=none
      ·exact .inl e
      ·right
       intro e2;rw[h]at e2;cases e3:(Value.slice ma k mc).ownBlock with
       | none=>rw[e3]at e2;exact e e2
       | some x=>rw[e3]at e2;have:=h' x e2;have:=(L2.out x e3).1;omega
    ·exact h.symm)
   have hs7:wo.heap.size<=W7.heap.size:=K7.out.size;clear hM hW hH HC o1 o2 jH mq yE wX sM HST K7 KR JG WZ Zd HX Q0 Q1 L1 L2 U1 U2 U3 M1 M2 M3 Yw Qo MH Qm;obtain⟨⟨k0,k1,k2⟩,z0,z1,z2⟩:=B7.out.three
   -- the first mark
   obtain⟨ms,m1,m2,m3⟩:=P7.out;have Cr:ms.length=k+1:=by rw[m1];simp
   rw[Cr]at m2;obtain⟨g,ug,rfl,hg1,hg2,hgu,gc,gf⟩:=fj m2 (show 0<k+1 by omega);have M2:=hid m2;have M3:=hid m3;have Qo:=hid Cr;clear m1 m2 m3 Cr;have hli:(0:Int)<(k:Int)+1:=by omega
   have BW:Hid (ah ((((W7.setCell ⟨w2.heap.size+1,1,none⟩ (.slice rC (k+1) rD)).setCell ⟨w2.heap.size+1,2,none⟩ (.slice (some ⟨g,0,none⟩) (k+1) sO)).setCell ⟨g,0,none⟩ (.slice (some ⟨W7.heap.size,0,none⟩) 1 1)).alloc (.cells #[.int .i64 0] 3)) (w2.heap.size+1) #[.slice (some ⟨w2.heap.size,0,none⟩) 2 2,.slice rC (k+1) rD,.slice (some ⟨g,0,none⟩) (k+1) sO] 28):=hid ((((B7.out.set 1 _).set 2 _).other (by simp;omega) _).alloc _);have RW:Hid (ah ((((W7.setCell ⟨w2.heap.size+1,1,none⟩ (.slice rC (k+1) rD)).setCell ⟨w2.heap.size+1,2,none⟩ (.slice (some ⟨g,0,none⟩) (k+1) sO)).setCell ⟨g,0,none⟩ (.slice (some ⟨W7.heap.size,0,none⟩) 1 1)).alloc (.cells #[.int .i64 0] 3)) w.heap.size #[.slice none 0 0,.slice none 0 0,.slice none 0 0] 28):=hid ((((R7.out.other (by simp;omega) _).other (by simp;omega) _).other (by simp;omega) _).alloc _);obtain⟨⟨e0,e1,e2⟩,_⟩:=BW.out.three;obtain⟨⟨q0,q1,q2⟩,y0,y1,y2⟩:=RW.out.three;go_wp2;obtain⟨W8,Xk⟩:∃ W8,W8=((((W7.setCell ⟨w2.heap.size+1,1,none⟩ (.slice rC (k+1) rD)).setCell ⟨w2.heap.size+1,2,none⟩ (.slice (some ⟨g,0,none⟩) (k+1) sO)).setCell ⟨g,0,none⟩ (.slice (some ⟨W7.heap.size,0,none⟩) 1 1)).alloc (.cells #[.int .i64 0] 3)):=⟨_,rfl⟩;refine bB ?_;intro W9 dK;rw[<-Xk]at dK BW RW;have kg:aa (fun x=>x<W7.heap.size/\x≠w2.heap.size+1/\x≠g) W7 W8:=by rw[Xk];exact((((aa.refl _ _).setCell (p:=⟨w2.heap.size+1,1,none⟩) (fun h=>h.2.1 rfl) _).setCell (p:=⟨w2.heap.size+1,2,none⟩) (fun h=>h.2.1 rfl) _).setCell (p:=⟨g,0,none⟩) (fun h=>h.2.2 rfl) _).alloc (fun x hx=>by simp;exact hx.1) _
   have E9:Hid (ah W9 w.heap.size #[.slice (some ⟨w2.heap.size,0,none⟩) 2 2,.slice rC (k+1) rD,.slice (some ⟨g,0,none⟩) (k+1) sO] 28):=hid (by rw[dK];exact RW.out.rW);have k9:aa (· ≠w.heap.size) W8 W9:=by rw[dK];exact(((aa.refl _ _).setCell (p:=⟨w.heap.size,0,none⟩) (fun h=>h rfl) _).setCell (p:=⟨w.heap.size,1,none⟩) (fun h=>h rfl) _).setCell (p:=⟨w.heap.size,2,none⟩) (fun h=>h rfl) _
   clear dK;have ne:(3:Nat)≠47:=by decide
   have afW:∀ (u:Value) (m:Nat) (ys:List Value),W7.ownsRow (w2.heap.size+2) 3 1 u m ys->W8.ownsRow (w2.heap.size+2) 3 1 u m ys:=fun u m ys h5=>aj h5 kg fun x e=>⟨(h5.lt x e).2,by have:=(h5.lt x e).1;omega,fun e2=>by
    rcases ownBlock_ne ne h5 M2.out with h6 | h6
    ·rw[h6]at e;cases e
    ·exact h6 (by rw[e,e2];rfl)⟩
   have OM:aW (w2.heap.size+2) W8 (.slice (some ⟨g,0,none⟩) (k+1) sO) ([0]::List.replicate k []):=by
    refine⟨ms.set 0 (.slice (some ⟨W7.heap.size,0,none⟩) 1 1),by simp[Qo.out],?_,fun i u l hu hl=>?_⟩
    ·rw[List.length_set,Qo.out,Xk]
     have kb:aa (· ≠w2.heap.size+1) W7 ((W7.setCell ⟨w2.heap.size+1,1,none⟩ (.slice rC (k+1) rD)).setCell ⟨w2.heap.size+1,2,none⟩ (.slice (some ⟨g,0,none⟩) (k+1) sO)):=((aa.refl _ _).setCell (p:=⟨w2.heap.size+1,1,none⟩) (fun h=>h rfl) _).setCell (p:=⟨w2.heap.size+1,2,none⟩) (fun h=>h rfl) _;exact((aQ M2.out kb fun x h1 _ e=>by omega).stored 0 _).1.alloc _
    ·cases i with
     | zero=>
      rw[List.getElem?_set_self (by rw[Qo.out];omega)]at hu;cases hu;simp at hl;subst hl;rw[Xk];exact⟨rfl,.inr ⟨W7.heap.size,1, #[.int .i64 0],rfl,by omega,(ah.new _ _ _).at (by simp),Nat.le_refl _,by unfold maxLen;omega,rfl,rfl⟩⟩
     | succ j=>
      rw[List.getElem?_set_ne (by omega)]at hu;have hl':(List.replicate (k+1) ([]:List Int))[j+1]? =some l:=by simpa[List.replicate_succ]using hl
      exact afW _ _ _ (M3.out (j+1) u l hu hl')
   have ON:aW (w2.heap.size+2) W8 (.slice rC (k+1) rD) (jr k k++ [[(k:Int),(k:Int)]]):=by
    obtain⟨us,u1,u2,u3⟩:=O7.out;refine⟨us,u1,aj u2 kg fun x e=>⟨(u2.lt x e).2,by have:=(u2.lt x e).1;omega,fun e2=>?_⟩,fun i u l hu hl=>afW _ _ _ (u3 i u l hu hl)⟩;rcases FR.out with h6 | h6
    ·rw[h6]at e;cases e
    ·exact h6 (by rw[e,e2];rfl)
   have hss:W7.heap.size<=W8.heap.size:=kg.size;have OM9:=OM.keeps k9 fun x h1 _ e=>by omega
   have ON9:=ON.keeps k9 fun x h1 _ e=>by omega
   have C9:=(C7.out.keeps kg ⟨by omega,by omega,by omega⟩).keeps k9 (by omega);have X9:Below w.heap.size w W9:=X7.out.trans ((kg.mono fun x hx=>⟨by have:x<w.heap.size:=hx;omega,by have:x<w.heap.size:=hx;omega,by have:x<w.heap.size:=hx;omega⟩:aa (· <w.heap.size) W7 W8).tr (k9.mono fun x hx e=>by have:x<w.heap.size:=hx;omega)).below;obtain⟨⟨t0,t1,t2⟩,_⟩:=E9.out.three;refine bodyPost_ret (v:=.agg #[.slice (some ⟨w2.heap.size,0,none⟩) 2 2,.slice rC (k+1) rD,.slice (some ⟨g,0,none⟩) (k+1) sO]) (by simp[results,Tryz.results27,go_sem,t0,t1,t2]) rfl ?_;exact⟨_,rfl,⟨_,_,_,rfl,⟨yq [so,sa] C9 HCS.out rfl,fun a n cap e=>by cases e;exact Nat.le_refl _⟩,ON9.ll,OM9.ll⟩,X9⟩
end Go.Proofs.YtalombmiochpmaaGreatDoor
