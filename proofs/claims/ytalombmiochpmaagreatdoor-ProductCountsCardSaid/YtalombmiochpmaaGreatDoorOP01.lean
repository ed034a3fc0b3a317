/- The law for regions in any order (XReg), at the regions of the calculus: the check as a Bool; steps. -/
import Derived.WalkKit
import Derived.OrdersIn
import Derived.RangeFuncNested
import Derived.Lib.Hide
import Derived.Sort.Grow
import Derived.Deep.Draws
import Derived.Deep.MidRow
import Derived.Maps.AppendAt
set_option maxRecDepth 100000
set_option maxHeartbeats 16000000
open Go.Lib (hid)
namespace Go.Proofs.YtalombmiochpmaaGreatDoor
open Go Go.RowKit
def gK (F:Fence) (n:Nat) (P:Program) (C:World->Prop) (dst:Option Tmp) (a:Act) (K:Act->World->Prop):Result Next->Prop
 | .ok (.value v) w'=>C w'/\K (a.put dst v) w'
 | .ok .skip w'=>C w'/\K (a.put dst undef) w'
 | .ok (.enter f args) w'=>CallsIn F (n-1) P f args w' (fun e w''=>∃ v,e=.returned v/\C w''/\K (a.put dst v) w'')
 | .ok (.round l f tmps Aa body) w'=>RoundIn F (n-1) P l f tmps Aa body w' (fun e w''=>∃ v,e=.returned v/\C w''/\K (a.put dst v) w'')
 | _=>False
def aq (P:Program) (o:Oper) (a:Act) (v:Value) (W:World):Prop:=
 (execOp a.eval o).run P W=.ok (.value v) W\/((execOp a.eval o).run P W=.ok .skip W/\v=undef)
def dr (F:Fence) (n:Nat) (P:Program) (C:World→Prop) (ops:Array Oper) (eG:Bool) (o:Oper) (K:Act→World→Prop) (a:Act) (w:World):Prop:=
  if Region.wanted o (yielded ops a.tmps)then
    (if eG then gK F n P C o.dst a K ((execOp a.eval o).run P w)
     else ∃ v,(∀ W: {W//C W},aq P o a v W.1)∧K (a.put o.dst v) w)
  else K (a.put o.dst undef) w
def iY (F:Fence) (n:Nat) (P:Program) (C:World->Prop) (ops:Array Oper) (eff:Nat->Bool) (Q:Act->World->Prop):List Oper->Nat->Act->World->Prop
 | [],_,a,w=>Q a w
 | o::rest,k,a,w=>dr F n P C ops (eff k) o (iY F n P C ops eff Q rest (k+1)) a w
section
variable {F:Fence} {n:Nat} {P:Program} {C:World→Prop} {ops:Array Oper} {eff:Nat→Bool} {md:Region.Mode}
theorem sX {dst:Option Tmp} {a:Act} {K K':Act->World->Prop} (h:∀ a w,C w->K a w->K' a w) {r:Result Next} (hh:gK F n P C dst a K r):gK F n P C dst a K' r:=by
 cases r with
 | halt x w=>exact hh.elim
 | ok x w=>
  cases x<;>simp only[gK]at hh ⊢ <;>first
   | exact⟨hh.1,h _ _ hh.1 hh.2⟩
   | exact CallsIn.mono hh (fun e w' ⟨v,he,hC,hK⟩=>⟨v,he,hC,h _ _ hC hK⟩)
   | exact RoundIn.mono hh (fun e w' ⟨v,he,hC,hK⟩=>⟨v,he,hC,h _ _ hC hK⟩)
theorem sY {eG:Bool} {o:Oper} {a:Act} {w:World} {K K':Act->World->Prop} (h0:∀ a,K a w->K' a w) (h:∀ a w,C w->K a w->K' a w) (hh:dr F n P C ops eG o K a w):dr F n P C ops eG o K' a w:=by
 unfold dr at*;split
 ·rename_i hw
  simp only[hw,if_true]at hh;cases eG with
  | true=>simp only[if_true]at hh ⊢;exact sX h hh
  | false=>simp only[Bool.false_eq_true,if_false]at hh ⊢;obtain⟨v,h1,h2⟩:=hh;exact⟨v,h1,h0 _ h2⟩
 ·rename_i hw
  simp only[hw]at hh;exact h0 _ hh
theorem sZ (hd:F.depth=none) {dst:Option Tmp} {a:Act} {K:Act->World->Prop} {r:Result Next} (hh:gK F n P C dst a K r):∃ u w',K (a.put dst u) w':=by
 cases r with
 | halt x w=>exact hh.elim
 | ok x w=>
  cases x<;>simp only[gK]at hh
  case value v=>exact⟨_,_,hh.2⟩
  case skip=>exact⟨_,_,hh.2⟩
  case enter f args=>
   obtain⟨e,w',fr,⟨v,_,_,hK⟩,_⟩:=hh.2 [] (fun d h=>by rw[hd]at h;cases h);exact⟨_,_,hK⟩
  case round l f tmps Aa body=>
   obtain⟨e,w',⟨v,_,_,hK⟩,_⟩:=hh.2 default [] (fun d h=>by rw[hd]at h;cases h);exact⟨_,_,hK⟩
def Hh (F:Fence) (n:Nat) (P:Program) (C:World->Prop) (ops:Array Oper) (eff:Nat->Bool) (i:Nat) (K:Act->World->Prop) (a:Act) (w:World):Prop:=
 match ops[i]? with
 | none=>K a w
 | some o=>dr F n P C ops (eff i) o K a w
def qf (F:Fence) (n:Nat) (P:Program) (C:World->Prop) (md:Region.Mode) (ops:Array Oper) (eff:Nat->Bool) (Q:Act->World->Prop):Nat->Array Bool->Act->World->Prop
 | 0,listed,a,w=>Region.ready md ops listed=[]/\Q a w
 | fuel+1,listed,a,w=>
  (Region.ready md ops listed=[]->Q a w)/\
  ∀ i∈Region.ready md ops listed,Hh F n P C ops eff i (qf F n P C md ops eff Q fuel (listed.setIfInBounds i true)) a w
def yz (ops:Array Oper):Bool:=ops.all fun o=>match o.op with | .defer _=>false | _=>true
theorem yA (h:yz ops=true) {j:Nat} {o:Oper} (ho:ops[j]? =some o) (c:Call):o.op≠ .defer c:=by intro heq;have:=Array.all_eq_true_iff_forall_mem.1 h o (Array.mem_of_getElem? ho);simp[heq]at this
theorem kD (hF:∀ f,F.fn f) (hd:F.depth=none) (Xd:yz ops=true) {Q:Act->World->Prop} {Q':Exit->Act->World->Prop} (hQ:∀ a w,C w->Q a w->Q' .normal a w): ∀ (fuel:Nat) (listed:Array Bool) (a:Act) (w:World),C w->qf F n P C md ops eff Q fuel listed a w->wpAnyIn F n P md ops Q' fuel listed a w
 | 0,_,_,_,hC,h=>⟨h.1,hQ _ _ hC h.2⟩
 | fuel+1,listed,a,w,hC,h=>by
  refine⟨fun h0=>hQ _ _ hC (h.1 h0),fun i hi=>?_⟩;have hx:=h.2 i hi;have ih:=fun a' w' Ab=>kD hF hd Xd hQ fuel (listed.setIfInBounds i true) a' w' Ab
  unfold Hh at hx;unfold wpOpIn;cases ho:ops[i]? with
  | none=>simp only[ho]at hx;exact ih _ _ hC hx
  | some o=>
   simp only[ho]at hx ⊢;have abQ:Oper.semAt F.round a.eval o=execOp a.eval o:=Oper.semAt_eq _ _ _ (yA Xd ho);unfold dr at hx;split
   ·rename_i hw
    simp only[hw,if_true]at hx;refine⟨fun f _=>hF f,?_⟩;rw[abQ];cases he:eff i with
    | false=>
     simp only[he,Bool.false_eq_true,if_false]at hx;obtain⟨v,h1,h2⟩:=hx;rcases h1 ⟨w,hC⟩with hr | ⟨hr,rfl⟩<;>rw[hr]<;>exact ih _ _ hC h2
    | true=>
     simp only[he,if_true]at hx;generalize (execOp a.eval o).run P w=r at hx;cases r with
     | halt x w=>exact hx.elim
     | ok x w=>
      cases x<;>simp only[gK]at hx<;>simp only[Oper.uponIn]
      case value v=>exact ih _ _ hx.1 hx.2
      case skip=>exact ih _ _ hx.1 hx.2
      case enter f args=>exact⟨fun h=>(by rw[hd]at h;cases h),CallsIn.mono hx (fun e w' ⟨v,he,Ab,hK⟩=>by subst he;exact ih _ _ Ab hK)⟩
      case round l f tmps Aa body=>exact⟨fun h=>(by rw[hd]at h;cases h),RoundIn.mono hx (fun e w' ⟨v,he,Ab,hK⟩=>by subst he;exact ih _ _ Ab hK)⟩
   ·rename_i hw
    simp only[hw]at hx;exact⟨fun f _=>hF f,ih _ _ hC hx⟩
def cR (P:Program) (ops:Array Oper) (C:World->Prop) (o:Oper) (v:Value) (a:Act):Prop:=
 (Region.wanted o (yielded ops a.tmps)=true/\∀ W,C W->aq P o a v W)\/(Region.wanted o (yielded ops a.tmps)=false/\v=undef)
theorem k8 {o:Oper} (hs:∀ cs b,o.op≠ .select cs b) {a:Act} {dst:Option Tmp} {u v:Value} {W:World} (h:∀ d,dst=some d->d∉o.looksAt ops):aq P o (a.put dst u) v W↔aq P o a v W:=by unfold aq;rw[execOp_put o hs a dst u h]
theorem cR.put {o:Oper} {v:Value} {a:Act} (hs:∀ cs b,o.op≠ .select cs b) {dst:Option Tmp} {u:Value} (h:∀ d,dst=some d->d∉o.looksAt ops):cR P ops C o v (a.put dst u)↔cR P ops C o v a:=by
 unfold cR;rw[wanted_put o a dst u h];constructor
 ·rintro(⟨h1,h2⟩ | h1)
  ·exact .inl ⟨h1,fun W hW=>(k8 hs h).1 (h2 W hW)⟩
  ·exact .inr h1
 ·rintro(⟨h1,h2⟩ | h1)
  ·exact .inl ⟨h1,fun W hW=>(k8 hs h).2 (h2 W hW)⟩
  ·exact .inr h1
theorem cR.dr {o:Oper} {v:Value} {a:Act} {w:World} {K:Act->World->Prop} (hy:cR P ops C o v a) (h:K (a.put o.dst v) w):dr F n P C ops false o K a w:=by
 unfold Proofs.YtalombmiochpmaaGreatDoor.dr;rcases hy with⟨hw,hv⟩ | ⟨hw,rfl⟩
 ·simp only[hw,if_true,Bool.false_eq_true,if_false];exact⟨v,fun W=>hv W.1 W.2,h⟩
 ·simp only[hw,Bool.false_eq_true,if_false];exact h
theorem fQ {o:Oper} {a:Act} {w:World} {K:Act->World->Prop} (h:dr F n P C ops false o K a w):∃ v,cR P ops C o v a/\K (a.put o.dst v) w:=by
 unfold Proofs.YtalombmiochpmaaGreatDoor.dr at h;by_cases hw:Region.wanted o (yielded ops a.tmps)=true
 ·simp only[hw,if_true,Bool.false_eq_true,if_false]at h
  obtain⟨v,h1,h2⟩:=h;exact⟨v,.inl ⟨hw,fun W hW=>h1 ⟨W,hW⟩⟩,h2⟩
 ·simp only[hw]at h
  exact⟨undef,.inr ⟨by simpa using hw,rfl⟩,h⟩
theorem Hi {dx dj:Option Tmp} {v:Value} {a:Act} (hne:∀ d,dx=some d->dj≠some d) {K:Act->World->Prop} {r:Result Next} (h:gK F n P C dj (a.put dx v) K r): gK F n P C dj a (fun a' w'=>(∃ u,a'=a.put dj u)/\K (a'.put dx v) w') r:=by
 cases r with
 | halt x w=>exact h.elim
 | ok x w=>
  cases x<;>simp only[gK]at h ⊢
  case value u=>exact⟨h.1,⟨u,rfl⟩,by rw[<-Act.put_comm a v u hne];exact h.2⟩
  case skip=>exact⟨h.1,⟨_,rfl⟩,by rw[<-Act.put_comm a v undef hne];exact h.2⟩
  case enter f args=>exact CallsIn.mono h (fun e w' ⟨u,he,hC,hK⟩=>⟨u,he,hC,⟨u,rfl⟩,by rw[<-Act.put_comm a v u hne];exact hK⟩)
  case round l f tmps Aa body=>exact RoundIn.mono h (fun e w' ⟨u,he,hC,hK⟩=>⟨u,he,hC,⟨u,rfl⟩,by rw[<-Act.put_comm a v u hne];exact hK⟩)
theorem Hj {eG:Bool} {oi oj:Oper} {v:Value} (hap:oi.apart ops oj=true) (RS:∀ cs b,oi.op≠ .select cs b) (hsj:∀ cs b,oj.op≠ .select cs b) {K:Act->World->Prop} {a:Act} {w:World} (hy:cR P ops C oi v a) (h:dr F n P C ops eG oj K (a.put oi.dst v) w): dr F n P C ops eG oj (fun a' w'=>cR P ops C oi v a'/\K (a'.put oi.dst v) w') a w:=by
 obtain⟨h1,h2,h3⟩:=Oper.apart_spec hap;have keep:∀ u,cR P ops C oi v (a.put oj.dst u):=fun u=>(cR.put RS h3).2 hy
 unfold Proofs.YtalombmiochpmaaGreatDoor.dr at*;rw[wanted_put oj a oi.dst v h1,execOp_put oj hsj a oi.dst v h1]at h;split
 ·rename_i hw
  simp only[hw,if_true]at h;cases eG with
  | true=>
   simp only[if_true]at h ⊢;exact sX (fun a' w' _ ⟨⟨u,hu⟩,hK⟩=>⟨by rw[hu];exact keep u,hK⟩) (Hi h2 h)
  | false=>
   simp only[Bool.false_eq_true,if_false]at h ⊢;obtain⟨u,hu,hK⟩:=h;exact⟨u,fun W=>(k8 hsj h1).1 (hu W),keep u,by rw[<-Act.put_comm a v u h2];exact hK⟩
 ·rename_i hw
  simp only[hw]at h;exact⟨keep _,by rw[<-Act.put_comm a v undef h2];exact h⟩
theorem kE {i j:Nat} {listed:Array Bool} (hr:i∈Region.ready md ops listed) (hj:j∈Region.ready md ops listed) {oj:Oper} (vT:ops[j]? =some oj):∀ e∈oj.after,Region.binds md e=true->e.on≠i:=fun e he hb heq=>by
 obtain⟨_,oj',s4,hall⟩:=mem_ready.1 hj;rw[vT]at s4;cases s4;have h1:=hall e he hb;have h0:=(mem_ready.1 hr).1;rw[heq]at h1;rcases Nat.lt_or_ge i listed.size with h' | h'
 ·simp[h']at h0 h1;rw[h0]at h1;cases h1
 ·simp[Array.getElem?_eq_none h']at h1
theorem DV {Q:Act->World->Prop} {i:Nat} {oi:Oper} {v:Value} (hi:ops[i]? =some oi) (V9:eff i=false) (Km:∀ (j:Nat) (o:Oper) cs b,ops[j]? =some o->o.op≠ .select cs b): ∀ (fuel:Nat) (listed:Array Bool) (a:Act) (w:World), (∀ j oj,ops[j]? =some oj->j≠i->listed.getD j true=false->(∀ e∈oj.after,Region.binds md e=true->e.on≠i)->oi.apart ops oj=true)-> i∈Region.ready md ops listed->cR P ops C oi v a-> qf F n P C md ops eff Q fuel (listed.setIfInBounds i true) (a.put oi.dst v) w->qf F n P C md ops eff Q (fuel+1) listed a w:=by
 intro fuel;induction fuel with
 | zero=>
  intro listed a w _ hr hy H;refine⟨fun h=>(by rw[h]at hr;cases hr),fun j hj=>?_⟩;by_cases jT:j=i
  ·subst jT;unfold Hh;simp only[hi,V9];exact hy.dr H
  ·have:=ready_mono hj jT
   rw[H.1]at this;cases this
 | succ fuel ih=>
  intro listed a w wZ hr hy H;refine⟨fun h=>(by rw[h]at hr;cases hr),fun j hj=>?_⟩;by_cases jT:j=i
  ·subst jT;unfold Hh;simp only[hi,V9];exact hy.dr H
  ·have h1:=H.2 j (ready_mono hj jT)
   obtain⟨Hk,oj,vT,hall⟩:=mem_ready.1 hj;have DW:=kE hr hj vT
   have Ts:∀ k ok,ops[k]? =some ok->k≠i->(listed.setIfInBounds j true).getD k true=false->
     (∀ e∈ok.after,Region.binds md e=true->e.on≠i)->oi.apart ops ok=true:=fun k ok hk eT OO hno=>by
    refine wZ k ok hk eT ?_ hno;by_cases hjk:j=k
    ·subst hjk;exact Hk
    ·rw[getD_set_ne true hjk]at OO;exact OO
   unfold Hh at h1 ⊢;simp only[vT]at h1 ⊢;have h2:=Hj (wZ j oj vT jT Hk DW) (fun cs b=>Km i oi cs b hi) (fun cs b=>Km j oj cs b vT) hy h1;have step:∀ a' w',(cR P ops C oi v a'/\qf F n P C md ops eff Q fuel ((listed.setIfInBounds i true).setIfInBounds j true) (a'.put oi.dst v) w')->qf F n P C md ops eff Q (fuel+1) (listed.setIfInBounds j true) a' w':=fun a' w' h3=>by
    refine ih (listed.setIfInBounds j true) a' w' Ts (ready_mono hr (Ne.symm jT)) h3.1 ?_;rw[Array.setIfInBounds_comm _ _ jT];exact h3.2
   exact sY (fun a' h3=>step a' _ h3) (fun a' w' _ h3=>step a' w' h3) h2
theorem Ac (hd:F.depth=none) {Q:Act->World->Prop} {i:Nat} {oi:Oper} (hi:ops[i]? =some oi) (V9:eff i=true) (Km:∀ (j:Nat) (o:Oper) cs b,ops[j]? =some o->o.op≠ .select cs b): ∀ (fuel:Nat) (listed:Array Bool) (a:Act) (w:World),C w-> (∀ j oj,ops[j]? =some oj->j≠i->listed.getD j true=false->(∀ e∈oj.after,Region.binds md e=true->e.on≠i)->oi.apart ops oj=true)-> (∀ j oj,ops[j]? =some oj->j≠i->eff j=true->listed.getD j true=false->∃ e∈oj.after,Region.binds md e=true/\eff e.on=true/\listed.getD e.on false=false)-> i∈Region.ready md ops listed->Hh F n P C ops eff i (qf F n P C md ops eff Q fuel (listed.setIfInBounds i true)) a w-> qf F n P C md ops eff Q (fuel+1) listed a w:=by
 intro fuel;induction fuel with
 | zero=>
  intro listed a w hC wZ Kn hr H;refine⟨fun h=>(by rw[h]at hr;cases hr),fun j hj=>?_⟩;by_cases jT:j=i
  ·subst jT;exact H
  ·exfalso
   have hne:=ready_mono hj jT;unfold Hh at H;simp only[hi]at H;unfold Proofs.YtalombmiochpmaaGreatDoor.dr at H;by_cases hw:Region.wanted oi (yielded ops a.tmps)=true
   ·simp only[hw,if_true,V9]at H
    obtain⟨u,w',hK⟩:=sZ hd H;rw[hK.1]at hne;cases hne
   ·rw[if_neg hw]at H;rw[H.1]at hne;cases hne
 | succ fuel ih=>
  intro listed a w hC wZ Kn hr H;refine⟨fun h=>(by rw[h]at hr;cases hr),fun j hj=>?_⟩;by_cases jT:j=i
  ·subst jT;exact H
  ·obtain⟨Hk,oj,vT,hall⟩:=mem_ready.1 hj
   have DW:=kE hr hj vT;have yB:eff j=false:=by
    cases h:eff j with
    | false=>rfl
    | true=>
     obtain⟨e,he,hb,_,hl⟩:=Kn j oj vT jT h Hk;rw[hall e he hb]at hl;cases hl
   have hap:=wZ j oj vT jT Hk DW;obtain⟨h1,h2,h3⟩:=Oper.apart_spec hap;have RS:=fun cs b=>Km i oi cs b hi
   have hsj:=fun cs b=>Km j oj cs b vT
   have h2':∀ d,oj.dst=some d->oi.dst≠some d:=fun d hd he=>h2 d he hd
   -- what the float yields, and what is left behind both
   have key:∃ v,cR P ops C oj v a/\Hh F n P C ops eff i (qf F n P C md ops eff Q fuel ((listed.setIfInBounds j true).setIfInBounds i true)) (a.put oj.dst v) w:=by
    unfold Hh at H ⊢;simp only[hi]at H ⊢;unfold Proofs.YtalombmiochpmaaGreatDoor.dr at H ⊢;by_cases hw:Region.wanted oi (yielded ops a.tmps)=true
    ·simp only[hw,if_true,V9]at H
     have inner:∀ u w',qf F n P C md ops eff Q (fuel+1) (listed.setIfInBounds i true) (a.put oi.dst u) w'->∃ v,cR P ops C oj v a/\qf F n P C md ops eff Q fuel ((listed.setIfInBounds j true).setIfInBounds i true) ((a.put oj.dst v).put oi.dst u) w':=fun u w' h=>by
      have hx:=h.2 j (ready_mono hj jT);unfold Hh at hx;simp only[vT,yB]at hx;obtain⟨v,hy,hK⟩:=fQ hx;refine⟨v,(cR.put hsj h1).1 hy,?_⟩;rw[Array.setIfInBounds_comm _ _ jT,Act.put_comm a v u h2'];exact hK
     obtain⟨u0,w0,h0⟩:=sZ hd H;obtain⟨v,hy,_⟩:=inner u0 w0 h0;refine⟨v,hy,?_⟩;rw[wanted_put oi a oj.dst v h3,execOp_put oi RS a oj.dst v h3];simp only[hw,if_true,V9];have uniq:∀ v',cR P ops C oj v' a->v'=v:=fun v' hy'=>by
      rcases hy with⟨g1,g2⟩ | ⟨g1,g2⟩<;>rcases hy' with⟨k1,k2⟩ | ⟨k1,k2⟩
      ·have a1:=g2 w hC
       have a2:=k2 w hC;unfold aq at a1 a2;rcases a1 with a1 | ⟨a1,b1⟩<;>rcases a2 with a2 | ⟨a2,b2⟩<;>rw[a1]at a2<;>cases a2<;>simp_all
      ·rw[g1]at k1;cases k1
      ·rw[g1]at k1;cases k1
      ·rw[g2,k2]
     generalize (execOp a.eval oi).run P w=r at H ⊢;cases r with
     | halt x w=>exact H.elim
     | ok x w=>
      cases x<;>simp only[gK]at H ⊢
      case value u=>
       obtain⟨v',hy',hK⟩:=inner _ _ H.2;rw[uniq v' hy']at hK;exact⟨H.1,hK⟩
      case skip=>
       obtain⟨v',hy',hK⟩:=inner _ _ H.2;rw[uniq v' hy']at hK;exact⟨H.1,hK⟩
      case enter f args=>
       exact CallsIn.mono H (fun e w' ⟨u,he,Ab,h⟩=>by
        obtain⟨v',hy',hK⟩:=inner _ _ h;rw[uniq v' hy']at hK
        exact⟨u,he,Ab,hK⟩)
      case round l f tmps Aa body=>
       exact RoundIn.mono H (fun e w' ⟨u,he,Ab,h⟩=>by
        obtain⟨v',hy',hK⟩:=inner _ _ h;rw[uniq v' hy']at hK
        exact⟨u,he,Ab,hK⟩)
    ·simp only[hw]at H
     have hx:=H.2 j (ready_mono hj jT);unfold Hh at hx;simp only[vT,yB]at hx;obtain⟨v,hy,hK⟩:=fQ hx;refine⟨v,(cR.put hsj h1).1 hy,?_⟩;rw[wanted_put oi a oj.dst v h3];simp only[hw];rw[Array.setIfInBounds_comm _ _ jT];have:=Act.put_comm a v undef h2';simpa[this]using hK
   obtain⟨v,hy,hK⟩:=key;unfold Hh;simp only[vT,yB];refine hy.dr (ih (listed.setIfInBounds j true) _ w hC ?_ ?_ (ready_mono hr (Ne.symm jT)) hK)
   ·intro k ok hk eT OO hno
    refine wZ k ok hk eT ?_ hno;by_cases hjk:j=k
    ·subst hjk;exact Hk
    ·rw[getD_set_ne true hjk]at OO;exact OO
   ·intro k ok hk eT Hl OO
    have hjk:j≠k:=fun h=>by subst h;rw[yB]at Hl;cases Hl
    rw[getD_set_ne true hjk]at OO;obtain⟨e,he,hb,hee,hl⟩:=Kn k ok hk eT Hl OO;have hje:j≠e.on:=fun h=>by rw[<-h]at hee;rw[yB]at hee;cases hee
    exact⟨e,he,hb,hee,by rw[getD_set_ne false hje];exact hl⟩
def oG (md:Region.Mode) (ops:Array Oper) (eff:Nat->Bool) (listed:Array Bool) (i:Nat):Bool:=
 (List.range ops.size).all fun j=>j==i || !eff j || listed.getD j true || match ops[j]? with
  | some oj=>oj.after.any (fun e=>Region.binds md e&&eff e.on&& !listed.getD e.on false)
  | none=>true
theorem vU {i:Nat} {listed:Array Bool} (h:oG md ops eff listed i=true) (j:Nat) (oj:Oper) (hj:ops[j]? =some oj) (hne:j≠i) (yB:eff j=true) (OO:listed.getD j true=false): ∃ e∈oj.after,Region.binds md e=true/\eff e.on=true/\listed.getD e.on false=false:=by simp only[oG,List.all_eq_true,List.mem_range]at h;have h1:=h j (Array.getElem?_eq_some_iff.1 hj).1;simp only[hj,Bool.or_eq_true,beq_iff_eq,hne,false_or,OO,Bool.false_eq_true,yB,Bool.not_true]at h1;obtain⟨e,he,hb⟩:=Array.any_eq_true'.1 h1;simp only[Bool.and_eq_true,Bool.not_eq_true']at hb;exact⟨e,he,hb.1.1,hb.1.2,hb.2⟩
def lg (md:Region.Mode) (ops:Array Oper) (eff:Nat->Bool):Nat->Nat->Array Bool->Bool
 | 0,_,listed=>(Region.ready md ops listed).isEmpty
 | fuel+1,k,listed=>(Region.ready md ops listed).contains k&&Region.free md ops listed k&&(!eff k || oG md ops eff listed k)&&lg md ops eff fuel (k+1) (listed.setIfInBounds k true)
def Ko (md:Region.Mode) (ops:Array Oper) (eff:Nat->Bool):Bool:=Region.noSelect ops&&yz ops&&lg md ops eff ops.size 0 (Array.replicate ops.size false)
theorem Ad (hd:F.depth=none) {Q:Act->World->Prop} (hs:Region.noSelect ops=true):∀ (l:List Oper) (k:Nat) (listed:Array Bool) (a:Act) (w:World),C w->(∀ j,l[j]? =ops[k+j]?)-> lg md ops eff l.length k listed=true->iY F n P C ops eff Q l k a w->qf F n P C md ops eff Q l.length listed a w
 | [],_,_,_,_,_,_,hB,h=>⟨by simpa[lg]using hB,h⟩
 | o::l,k,listed,a,w,hC,hl,hB,h=>by
  have h0:ops[k]? =some o:=by simpa using(hl 0).symm
  simp only[List.length_cons,lg,Bool.and_eq_true,Bool.or_eq_true,Bool.not_eq_true']at hB;obtain⟨⟨⟨hr,hf⟩,he⟩,hB'⟩:=hB;have Tt:k∈Region.ready md ops listed:=by simpa using hr
  have ih:∀ a' w',C w'->iY F n P C ops eff Q l (k+1) a' w'->qf F n P C md ops eff Q l.length (listed.setIfInBounds k true) a' w':=fun a' w' Ab h'=>
   Ad hd hs l (k+1) _ a' w' Ab (fun j=>by have:=hl (j+1);simpa[Nat.add_assoc,Nat.add_comm 1 j]using this) hB' h'
  unfold iY at h;cases Hl:eff k with
  | false=>
   rw[Hl]at h;obtain⟨v,hy,hK⟩:=fQ h;exact DV h0 Hl (Region.noSelect_spec hs) l.length listed a w (Region.free_spec h0 hf) Tt hy (ih _ _ hC hK)
  | true=>
   have he':oG md ops eff listed k=true:=he.resolve_left (by rw[Hl];decide);refine Ac hd h0 Hl (Region.noSelect_spec hs) l.length listed a w hC (Region.free_spec h0 hf) (vU he') Tt ?_;unfold Hh;simp only[h0];exact sY (fun a' h'=>ih a' w hC h') (fun a' w' Ab h'=>ih a' w' Ab h') h
theorem kG (hF:∀ f,F.fn f) (hd:F.depth=none) {id:Nat} {Q:Exit->Act->World->Prop} {a:Act} {w:World} {l:List Oper} (hm:P.follows .mixedOrders=true) (eff:Nat->Bool) (hB:Ko .any l.toArray eff=true) (C:World->Prop) (hC:C w.drew) (h:iY F n P C l.toArray eff (fun a' w'=>Q .normal a' w') l 0 a w.drew):(Code.region id l.toArray true).wpIn F n P Q a w:=by simp only[Ko,Bool.and_eq_true]at hB;refine wpIn_region_any hm (kD (eff:=eff) hF hd hB.1.2 (Q:=fun a' w'=>Q .normal a' w') (fun _ _ _ h=>h) _ _ _ _ hC ?_);have:=Ad (md:=.any) (F:=F) (n:=n) (P:=P) hd hB.1.1 l 0 (Array.replicate l.length false) a w.drew hC (by simp) (by simpa using hB.2) h;simpa using this
theorem bD {eff:Nat->Bool} {Q:Act->World->Prop} {o:Oper} {rest:List Oper} {k:Nat} {a:Act} {w:World} (h:∀ K:Act->World->Prop,(∀ a w,iY F n P C ops eff Q rest (k+1) a w->K a w)->dr F n P C ops (eff k) o K a w):iY F n P C ops eff Q (o::rest) k a w:=h _ (fun _ _ h=>h)
theorem qg {eff:Nat->Bool} {Q:Act->World->Prop} {k:Nat} {a:Act} {w:World} (h:Q a w):iY F n P C ops eff Q [] k a w:=h
theorem cV {o:Oper} {K:Act->World->Prop} {a:Act} {w:World} (hw:Region.wanted o (yielded ops a.tmps)=true) (h:∃ v,(∀ W: {W//C W},aq P o a v W.1)/\K (a.put o.dst v) w):dr F n P C ops false o K a w:=by unfold dr;simp only[hw,if_true,Bool.false_eq_true,if_false];exact h
theorem dN {o:Oper} {K:Act->World->Prop} {a:Act} {w:World} (hw:Region.wanted o (yielded ops a.tmps)=true) (h:gK F n P C o.dst a K ((execOp a.eval o).run P w)):dr F n P C ops true o K a w:=by unfold dr;simp only[hw,if_true];exact h
theorem dT {dst:Option Tmp} {a:Act} {K:Act->World->Prop} {f:FuncId} {args:Array Value} {w:World} (h:Calls P f args w fun e w''=>∃ v,e=.returned v/\C w''/\K (a.put dst v) w''):gK Fence.wide 0 P C dst a K (.ok (.enter f args) w):=callsIn_wide.2 h
theorem Ae {l:Nat} {dst:Option Tmp} {a:Act} {K:Act->World->Prop} {f:FuncId} {args:Array Value} {w:World} (h:Calls P f args w fun e w''=>∃ v,e=.returned v/\C w''/\K (a.put dst v) w''):gK (Fence.wide.inRound l) 0 P C dst a K (.ok (.enter f args) w):=(callsIn_wide (n:=0)).2 h
theorem vV {id:Nat} {Q:Exit->Act->World->Prop} {a:Act} {w:World} {l:List Oper} (hm:P.follows .mixedOrders=true) (eff:Nat->Bool) (hB:Ko .any l.toArray eff=true) (C:World->Prop) (hC:C w.drew) (h:iY Fence.wide 0 P C l.toArray eff (fun a' w'=>Q .normal a' w') l 0 a w.drew):(Code.region id l.toArray true).wp P Q a w:=
 wpIn_wide.1 (kG (n:=0) (fun _=>trivial) rfl hm eff hB C hC h)
end
end Go.Proofs.YtalombmiochpmaaGreatDoor
namespace Go.Proofs.YtalombmiochpmaaGreatDoor
open Go Go.RowKit
structure aa (R:Nat->Prop) (W W':World):Prop where
 os:W'.os=W.os
 tape:W'.tape=W.tape
 output:W'.output=W.output
 size:W.heap.size<=W'.heap.size
 keep:∀ k,R k->W'.heap[k]? =W.heap[k]?
structure Ext (W W':World):Prop where
 os:W'.os=W.os
 tape:W'.tape=W.tape
 output:W'.output=W.output
 drawn:W.drawn<=W'.drawn
 size:W.heap.size<=W'.heap.size
 keep:∀ k,k<W.heap.size->W'.heap[k]? =W.heap[k]?
theorem aa.refl (R:Nat->Prop) (W:World):aa R W W:=⟨rfl,rfl,rfl,Nat.le_refl _,fun _ _=>rfl⟩
theorem aa.mono {R R':Nat->Prop} {W W':World} (h:aa R W W') (hr:∀ k,R' k->R k):aa R' W W':=⟨h.os,h.tape,h.output,h.size,fun k hk=>h.keep k (hr k hk)⟩
theorem Ext.mono {R':Nat->Prop} {W W':World} (h:Ext W W') (hr:∀ k,R' k->k<W.heap.size):aa R' W W':=⟨h.os,h.tape,h.output,h.size,fun k hk=>h.keep k (hr k hk)⟩
theorem Ext.keeps {W W':World} (h:Ext W W'):aa (· <W.heap.size) W W':=h.mono fun _ h=>h
theorem Ext.below {W W':World} (h:Ext W W'):Below W.heap.size W W':=⟨h.os,h.tape,h.output,h.size,h.keep⟩
theorem aa.trans {R R':Nat->Prop} {A B C:World} (h:aa R A B) (k:aa R' B C) (hr:∀ k,R k->R' k):aa R A C:=
 ⟨k.os.trans h.os,k.tape.trans h.tape,k.output.trans h.output,Nat.le_trans h.size k.size,fun i hi=>(k.keep i (hr i hi)).trans (h.keep i hi)⟩
theorem aa.tr {R:Nat->Prop} {A B C:World} (h:aa R A B) (k:aa R B C):aa R A C:=h.trans k fun _ h=>h
theorem aa.drew {R:Nat->Prop} {A B:World} (h:aa R A B):aa R A B.drew:=⟨h.os,h.tape,h.output,h.size,h.keep⟩
theorem aa.drewN {R:Nat->Prop} {A B:World} (h:aa R A B) (n:Nat):aa R A (B.drewN n):=⟨h.os,h.tape,h.output,h.size,h.keep⟩
theorem aa.below {B:Nat} {W W':World} (h:aa (· <B) W W'):Below B W W':=⟨h.os,h.tape,h.output,h.size,h.keep⟩
theorem aa.aj {B:Nat} {W W':World} (h:Below B W W') {R:Nat->Prop} (hr:∀ k,R k->k<B):aa R W W':=⟨h.os,h.tape,h.output,h.size,fun k hk=>h.block k (hr k hk)⟩
theorem aa.aU {row:Option Nat} {W W':World} (h:W.grownBy W' row) {R:Nat->Prop} (hr:∀ k,R k->k<W.heap.size/\some k≠row):aa R W W':=⟨h.os,h.tape,h.output,h.size,fun k hk=>h.block k (hr k hk).1 (hr k hk).2⟩
theorem aa.alloc {R:Nat->Prop} {A B:World} (h:aa R A B) (hr:∀ k,R k->k<B.heap.size) (o:Obj):aa R A (B.alloc o):=
 ⟨h.os,h.tape,h.output,Nat.le_trans h.size (by simp),fun k hk=>(Below.heap_alloc _ _ _ (hr k hk)).trans (h.keep k hk)⟩
theorem aa.setCell {R:Nat->Prop} {A B:World} (h:aa R A B) {p:Addr} (hp:¬R p.block) (u:Value):aa R A (B.setCell p u):=
 ⟨h.os,h.tape,h.output,Nat.le_trans h.size (by simp[World.setCell]),fun k hk=>(Below.heap_setCell _ _ _ _ (fun e=>hp (e▸hk))).trans (h.keep k hk)⟩
theorem aa.putObj {R:Nat->Prop} {A B:World} (h:aa R A B) {l:Nat} (hl:¬R l) (o:Obj):aa R A (B.putObj l o):=
 ⟨h.os,h.tape,h.output,Nat.le_trans h.size (by simp),fun k hk=>(World.putObj_heap_other (by rintro rfl;exact hl hk)).trans (h.keep k hk)⟩
theorem aa.cell {R:Nat->Prop} {W W':World} (h:aa R W W') {p:Addr} (hp:R p.block):W'.cell? p=W.cell? p:=World.cell?_of_block (w:=W) (h.keep p.block hp)
theorem aa.frozen {R:Nat->Prop} {W W':World} (h:aa R W W') {p:Addr} (hp:R p.block):W'.frozen? p=W.frozen? p:=World.frozen?_of_block (w:=W) (h.keep p.block hp)
theorem Ext.cell {W W':World} (h:Ext W W') {p:Addr} (hp:p.block<W.heap.size):W'.cell? p=W.cell? p:=World.cell?_of_block (w:=W) (h.keep p.block hp)
theorem Ext.frozen {W W':World} (h:Ext W W') {p:Addr} (hp:p.block<W.heap.size):W'.frozen? p=W.frozen? p:=World.frozen?_of_block (w:=W) (h.keep p.block hp)
theorem Ext.trans {A B C:World} (h:Ext A B) (k:Ext B C):Ext A C:=
 ⟨k.os.trans h.os,k.tape.trans h.tape,k.output.trans h.output,Nat.le_trans h.drawn k.drawn,Nat.le_trans h.size k.size,fun i hi=>(k.keep i (Nat.lt_of_lt_of_le hi h.size)).trans (h.keep i hi)⟩
theorem Ext.cells {A B:World} (h:Ext A B):(∀ b o,b<A.heap.size->B.cell? ⟨b,o,none⟩=A.cell? ⟨b,o,none⟩)/\(∀ b o,b<A.heap.size->B.frozen? ⟨b,o,none⟩=A.frozen? ⟨b,o,none⟩):=
 ⟨fun b o hb=>h.cell (p:=⟨b,o,none⟩) hb,fun b o hb=>h.frozen (p:=⟨b,o,none⟩) hb⟩
theorem DX {A B:World} (h:Below A.heap.size A B):(∀ b o,b<A.heap.size->B.cell? ⟨b,o,none⟩=A.cell? ⟨b,o,none⟩)/\(∀ b o,b<A.heap.size->B.frozen? ⟨b,o,none⟩=A.frozen? ⟨b,o,none⟩):=
 ⟨fun b o hb=>h.cell (p:=⟨b,o,none⟩) hb,fun b o hb=>h.frozen (p:=⟨b,o,none⟩) hb⟩
theorem Ext.alloc {A B:World} (h:Ext A B) (o:Obj):Ext A (B.alloc o):=
 ⟨h.os,h.tape,h.output,h.drawn,Nat.le_trans h.size (by simp),fun k hk=>(Below.heap_alloc _ _ _ (Nat.lt_of_lt_of_le hk h.size)).trans (h.keep k hk)⟩
theorem Ext.drew {A B:World} (h:Ext A B):Ext A B.drew:=⟨h.os,h.tape,h.output,Nat.le_succ_of_le h.drawn,h.size,h.keep⟩
theorem Ext.setCell {A B:World} (h:Ext A B) {p:Addr} (hp:A.heap.size<=p.block) (u:Value):Ext A (B.setCell p u):=
 ⟨h.os,h.tape,h.output,h.drawn,Nat.le_trans h.size (by simp[World.setCell]),fun k hk=>(Below.heap_setCell _ _ _ _ (by omega)).trans (h.keep k hk)⟩
theorem Ext.putObj {A B:World} (h:Ext A B) {l:Nat} (hl:A.heap.size<=l) (o:Obj):Ext A (B.putObj l o):=
 ⟨h.os,h.tape,h.output,h.drawn,Nat.le_trans h.size (by simp),fun k hk=>(World.putObj_heap_other (by omega)).trans (h.keep k hk)⟩
theorem Ext.refl (A:World):Ext A A:=⟨rfl,rfl,rfl,Nat.le_refl _,Nat.le_refl _,fun _ _=>rfl⟩
theorem Ext.grow {W W':World} (h:Ext W W'):∃ q os,W'=Sort.grow (W.drewN q) os:=by
 refine⟨W'.drawn-W.drawn,W'.heap.extract W.heap.size W'.heap.size,?_⟩;have hh:W'.heap=W.heap++W'.heap.extract W.heap.size W'.heap.size:=by
  apply Array.ext_getElem?;intro k;rw[Array.getElem?_append];split
  ·exact h.keep k ‹_›
  ·rw[Array.getElem?_extract]
   have hs:=h.size;split
   ·congr 1;omega
   ·rw[Array.getElem?_eq_none];omega
 have h1:=h.os;have h2:=h.tape;have h3:=h.output;have h4:=h.drawn;have h5:W.drawn+(W'.drawn-W.drawn)=W'.drawn:=by omega
 cases W with
 | mk a b c d e=>
 cases W' with
 | mk a' b' c' d' e'=>
  simp only[Sort.grow,World.drewN]at*;subst h1 h2 h3;rw[h5, <-hh]
theorem aa.step {S:Nat->Prop} {A B C:World} (h:aa S A B) (hS:∀ k,S k->k<A.heap.size) (hx:Ext B C):aa S A C:=h.tr (hx.mono fun k hk=>Nat.lt_of_lt_of_le (hS k hk) h.size)
theorem aa.jt {S:Nat->Prop} {A B C:World} (h:aa S A B) (hS:∀ k,S k->k<A.heap.size) (hx:Below B.heap.size B C):aa S A C:=h.tr (aa.aj hx fun k hk=>Nat.lt_of_lt_of_le (hS k hk) h.size)
def ah (w:World) (b:Nat) (c:Array Value) (t:TypeId):Prop:=w.heap[b]? =some (.cells c t (0,0))
theorem ah.cell {w:World} {b:Nat} {c:Array Value} {t:TypeId} (h:ah w b c t) (k:Nat):w.cell? ⟨b,k,none⟩=c[k]? :=by unfold ah at h;simp[World.cell?,h]
theorem ah.frozen {w:World} {b:Nat} {c:Array Value} {t:TypeId} (h:ah w b c t) (k:Nat):w.frozen? ⟨b,k,none⟩=false:=by unfold ah at h;simp[World.frozen?,h]
theorem ah.lt {w:World} {b:Nat} {c:Array Value} {t:TypeId} (h:ah w b c t):b<w.heap.size:=(Array.getElem?_eq_some_iff.1 h).1
theorem ah.keeps {w w':World} {b:Nat} {c:Array Value} {t:TypeId} (h:ah w b c t) {R:Nat->Prop} (hk:aa R w w') (hb:R b):ah w' b c t:=(hk.keep b hb).trans h
theorem ah.ext {w w':World} {b:Nat} {c:Array Value} {t:TypeId} (h:ah w b c t) (hk:Ext w w'):ah w' b c t:=(hk.keep b h.lt).trans h
theorem ah.below {w w':World} {b n:Nat} {c:Array Value} {t:TypeId} (h:ah w b c t) (hk:Below n w w') (hb:b<n):ah w' b c t:=(hk.block b hb).trans h
theorem ah.grown {w w':World} {b:Nat} {c:Array Value} {t:TypeId} {row:Option Nat} (h:ah w b c t) (hg:w.grownBy w' row) (hb:some b≠row):ah w' b c t:=(hg.block b h.lt hb).trans h
theorem ah.same {w w':World} {b:Nat} {c:Array Value} {t:TypeId} (h:ah w b c t) (hk:w'.heap[b]? =w.heap[b]?):ah w' b c t:=hk.trans h
theorem ah.alloc {w:World} {b:Nat} {c:Array Value} {t:TypeId} (h:ah w b c t) (o:Obj):ah (w.alloc o) b c t:=h.ext ((Ext.refl w).alloc o)
theorem ah.new (w:World) (c:Array Value) (t:TypeId):ah (w.alloc (.cells c t (0,0))) w.heap.size c t:=World.alloc_heap_new w _
theorem ah.at {w:World} {b b':Nat} {c:Array Value} {t:TypeId} (h:ah w b c t) (e:b=b'):ah w b' c t:=e▸h
theorem ah.set {w:World} {b:Nat} {c:Array Value} {t:TypeId} (h:ah w b c t) (k:Nat) (v:Value):ah (w.setCell ⟨b,k,none⟩ v) b (c.setIfInBounds k v) t:=by unfold ah at*;simp[World.setCell,Array.getElem?_modify,h]
theorem ah.other {w:World} {b:Nat} {c:Array Value} {t:TypeId} (h:ah w b c t) {p:Addr} (hp:p.block≠b) (v:Value):ah (w.setCell p v) b c t:=h.same (Below.heap_setCell _ _ _ _ (Ne.symm hp))
theorem ah.put {w:World} {b:Nat} {c:Array Value} {t:TypeId} (h:ah w b c t) {l:Nat} (hl:l≠b) (o:Obj):ah (w.putObj l o) b c t:=h.same (World.putObj_heap_other (Ne.symm hl))
theorem bB {w:World} {b:Nat} {c:Array Value} {t:TypeId} (h:ah w b c t):∀ j u,c.toList[j]? =some u->w.cell? ((⟨b,0,none⟩:Addr).add j)=some u:=fun j u hu=>by
 have Tu:(⟨b,0,none⟩:Addr).add j=⟨b,j,none⟩:=by unfold Addr.add;split<;>simp_all
 rw[Tu,h.cell j];simpa using hu
theorem cell_far (w:World) (p a:Addr) (v:Value) (h:p.block≠a.block):(w.setCell p v).cell? a=w.cell? a:=World.cell?_setCell_other _ _ _ _ (fun e=>h (congrArg Addr.block e))
theorem fB {P:Program} {id:Nat} {Q:Exit->Act->World->Prop} {a:Act} {w:World} {l:List Oper} (S:Nat->Prop) (hm:P.follows .mixedOrders=true) (eff:Nat->Bool) (hB:Ko .any l.toArray eff=true) (h:∀ C:World->Prop,(∀ W,C W↔aa S w W)->Nonempty {W//C W} ->∀ w',aa S w w'->(∀ b:Nat,w'.heap[b]? =w.heap[b]?)->w'.heap.size=w.heap.size->Ext w w'->iY Fence.wide 0 P C l.toArray eff (fun a' w'=>Q .normal a' w') l 0 a w'):(Code.region id l.toArray true).wp P Q a w:=
 have hk:aa S w w.drew:=(aa.refl S w).drew
 vV hm eff hB (aa S w) hk (h _ (fun _=>Iff.rfl) ⟨⟨_,hk⟩⟩ _ hk (fun _=>rfl) rfl (Ext.refl w).drew)
theorem qh {F:Fence} (hF:∀ f,F.fn f) (hd:F.depth=none) {P:Program} {id:Nat} {Q:Exit->Act->World->Prop} {a:Act} {w:World} {l:List Oper} (S:Nat->Prop) (hm:P.follows .mixedOrders=true) (eff:Nat->Bool) (hB:Ko .any l.toArray eff=true) (h:∀ C:World->Prop,(∀ W,C W↔aa S w W)->Nonempty {W//C W} ->∀ w',aa S w w'->(∀ b:Nat,w'.heap[b]? =w.heap[b]?)->w'.heap.size=w.heap.size->Ext w w'->iY F 0 P C l.toArray eff (fun a' w'=>Q .normal a' w') l 0 a w'):(Code.region id l.toArray true).wpIn F 0 P Q a w:=
 have hk:aa S w w.drew:=(aa.refl S w).drew
 kG hF hd hm eff hB (aa S w) hk (h _ (fun _=>Iff.rfl) ⟨⟨_,hk⟩⟩ _ hk (fun _=>rfl) rfl (Ext.refl w).drew)
theorem cW {C:World->Prop} {S:Nat->Prop} {w:World} (hC:∀ W,C W↔aa S w W) {p:Addr} {v:Option Value} (hs:S p.block) (h:w.cell? p=v):∀ W: {W//C W},W.1.cell? p=v:=fun W=>(((hC W.1).1 W.2).cell hs).trans h
theorem eL (f:FuncId):Fence.wide.fn f=True:=rfl
theorem cG:Fence.wide.depth=none:=rfl
def Move (d:Bool) (T:Nat->Prop) (W W':World):Prop:=aa (fun k=>k<W.heap.size/\¬T k) W W'/\(d=true->W.drawn<=W'.drawn)
theorem Move.put {d:Bool} {T:Nat->Prop} {W:World} {l:Nat} (hl:T l) (o:Obj):Move d T W (W.putObj l o):=⟨(aa.refl _ _).putObj (fun h=>h.2 hl) _,fun _=>Nat.le_refl _⟩
theorem Move.ext {d:Bool} {T:Nat->Prop} {W W':World} (h:Ext W W'):Move d T W W':=⟨h.mono fun _ h=>h.1,fun _=>h.drawn⟩
theorem Move.refl (d:Bool) (T:Nat->Prop) (W:World):Move d T W W:=.ext (Ext.refl W)
theorem Move.mono {d:Bool} {T T':Nat->Prop} {W W':World} (h:Move d T W W') (ht:∀ k,T k->T' k):Move d T' W W':=⟨h.1.mono fun k hk=>⟨hk.1,fun h=>hk.2 (ht k h)⟩,h.2⟩
def dU {β:Type} (d:Bool) (B:Nat) (J:β->(Nat->Prop)->World->Prop):Prop:=
 ∀ s T T' W W',J s T W->(∀ k,T k->B<=k/\k<W.heap.size)->(∀ k,T' k->B<=k/\k<W'.heap.size)->(∀ k,T k->T' k)->(∀ k,T' k->T k\/W.heap.size<=k)->Move d T W W'->J s T' W'
theorem dU.ext {d:Bool} {β:Type} {B:Nat} {J:β->(Nat->Prop)->World->Prop} (h:dU d B J) {s:β} {T:Nat->Prop} {W W':World} (hj:J s T W) (hT:∀ k,T k->B<=k/\k<W.heap.size) (hx:Ext W W'):J s T W':=
 h s T T W W' hj hT (fun k hk=>⟨(hT k hk).1,Nat.lt_of_lt_of_le (hT k hk).2 hx.size⟩) (fun _ h=>h) (fun _ h=>.inl h) (.ext hx)
theorem ah.jU {d:Bool} {B:Nat} {T:Nat->Prop} {W W':World} {b:Nat} {c:Array Value} {t:TypeId} (h:ah W b c t) (hT:∀ k,T k->B<=k/\k<W.heap.size) (hk:Move d T W W') (hb:b<B):ah W' b c t:=
 h.keeps hk.1 ⟨h.lt,fun ht=>by have:=(hT _ ht).1;omega⟩
theorem Ext.jU {B:Nat} {T:Nat->Prop} {A W W':World} (h:Ext A W) (hT:∀ k,T k->B<=k/\k<W.heap.size) (hk:Move true T W W') (hA:A.heap.size<=B):Ext A W':=
 ⟨hk.1.os.trans h.os,hk.1.tape.trans h.tape,hk.1.output.trans h.output,Nat.le_trans h.drawn (hk.2 rfl),Nat.le_trans h.size hk.1.size,
  fun k s5=>(hk.1.keep k ⟨Nat.lt_of_lt_of_le s5 h.size,fun ht=>by have:=(hT _ ht).1;omega⟩).trans (h.keep k s5)⟩
theorem fR {d:Bool} {B n:Nat} {T:Nat->Prop} {A W W':World} (h:Below n A W) (hT:∀ k,T k->B<=k/\k<W.heap.size) (hk:Move d T W W') (hn:n<=A.heap.size) (hB:n<=B):Below n A W':=
 ⟨hk.1.os.trans h.os,hk.1.tape.trans h.tape,hk.1.output.trans h.output,Nat.le_trans h.size hk.1.size,fun k s5=>(hk.1.keep k ⟨by have:=h.size;omega,fun ht=>by have:=(hT _ ht).1;omega⟩).trans (h.block k s5)⟩
theorem ag {W W':World} {base:Nat} {e:TypeId} {size:Nat} {v:Value} {n:Nat} {xs:List Value} (h:W.ownsRow base e size v n xs) {R:Nat->Prop} (hk:aa R W W') (hr:∀ k,v.ownBlock=some k->R k):W'.ownsRow base e size v n xs:=by
 refine⟨h.1,?_⟩;rcases h.2 with hn | ⟨g,cap,cur,rfl,hb,hgg,rest⟩
 ·exact .inl hn
 ·exact .inr ⟨g,cap,cur,rfl,hb,(hk.keep g (hr g rfl)).trans hgg,rest⟩
theorem ownsRow_form {W:World} {base:Nat} {e:TypeId} {size:Nat} {v:Value} {n:Nat} {xs:List Value} (h:W.ownsRow base e size v n xs):∃ a c,v=.slice a n c:=by
 rcases h.2 with⟨rfl,rfl⟩ | ⟨g,cap,cur,rfl,_⟩
 ·exact⟨none,0,rfl⟩
 ·exact⟨_,cap,rfl⟩
theorem az {W:World} {base base':Nat} {e:TypeId} {size:Nat} {v:Value} {n:Nat} {xs:List Value} (h:W.ownsRow base e size v n xs) (hb:base'<=base):W.ownsRow base' e size v n xs:=by
 refine⟨h.1,?_⟩;rcases h.2 with hn | ⟨g,cap,cur,rfl,h1,rest⟩
 ·exact .inl hn
 ·exact .inr ⟨g,cap,cur,rfl,Nat.le_trans hb h1,rest⟩
section
variable {P:Program} {d:Bool}
def Seq {α:Type} (d:Bool) (P:Program) (g:Nat) (lb:Array Value) (lh:α->Array Value) (R:Nat->Prop) (xs:List α) (w:World):Prop:=
 ∀ (l:Nat) (J Jx:List α->(Nat->Prop)->World->Prop) (W:World),aa (· <w.heap.size) w W->dU d W.heap.size J->dU d W.heap.size Jx->
  (∀ pre x T W1,(pre++ [x])<+:xs->(∀ k,T k->W.heap.size<=k/\k<W1.heap.size)->aa R W W1->J pre T W1->
   YieldAt Fence.wide 0 P l (lh x) W1 fun e W'=>
    (e=.returned (.bool true)/\J (pre++ [x]) T W'/\aa (fun k=>R k\/T k) W1 W')\/(e=.returned (.bool false)/\Jx (pre++ [x]) T W'/\aa T W1 W'))->
  J [] (fun _=>False) W->
  Calls P g (#[.func (.yield l) #[] #[]]++lb) W fun e W'=>(∃ v,e=.returned v)/\∃ T,(∀ k,T k->W.heap.size<=k/\k<W'.heap.size)/\(J xs T W'\/∃ pre,pre<+:xs/\Jx pre T W')
theorem Seq.at {α:Type} {P:Program} {d:Bool} {g:Nat} {lb:Array Value} {lh:α->Array Value} {R:Nat->Prop} {xs:List α} {w w':World} (h:Seq d P g lb lh R xs w) (hk:aa (· <w.heap.size) w w'):Seq d P g lb lh R xs w':=
 fun l J Jx W hK=>h l J Jx W (hk.tr (hK.mono fun _ s5=>Nat.lt_of_lt_of_le s5 hk.size))
def DZ {α:Type} (R T:Nat->Prop) (W0:World) (I:List α->(Nat->Prop)->World->Prop) (Ix:Code->List α->(Nat->Prop)->World->Prop) (xs:List α):Exit->Act->World->Prop
 | .normal,_,W'=>aa (fun k=>R k\/T k) W0 W'/\I xs T W'
 | .ret,_,W'=>aa T W0 W'/\Ix .ret xs T W'
 | .exit id,_,W'=>aa T W0 W'/\Ix (.exit id) xs T W'
 | .goto t,_,W'=>aa T W0 W'/\Ix (.goto t) xs T W'
 | .panic _,_,_=>False
 | .outgrown,_,_=>False
variable {F:Fence}
theorem D7 {α:Type} (hF:∀ f,F.fn f) (hC:∀ {f args w R},Calls P f args w R->CallsIn F 0 P f args w R) (hYd:∀ {l f tmps Aa body w R},RoundIn F 0 P l f tmps Aa body w R->RoundIn Fence.wide 0 P l f tmps Aa body w R) {gf:Nat} {lb:Array Value} {lh:α->Array Value} {R:Nat->Prop} {xs:List α} {w:World} (hseq:Seq d P gf lb lh R xs w) {ps:Array Tmp} {assign body:Code} {fn:FuncId} (tmps:Array Value) (dfr:Nat) (OS:∀ x,(lh x).size=ps.size) (Pz:∀ k,R k->k<w.heap.size) (l:Nat) (T0:Nat->Prop) (JY:∀ k,T0 k->w.heap.size<=k/\k<l+1) (Tv:T0 l) (W1:World) (hls:W1.heap.size=l+1) (hl:W1.heap[l]? =some (.loop {state:=.ready,pending:=none,fn,tmps,params:=ps,assign,body,defers:=dfr})) (hW1:Ext w W1) (I:List α->(Nat->Prop)->World->Prop) (Ix:Code->List α->(Nat->Prop)->World->Prop) (hI:dU d w.heap.size I) (PA:∀ c,dU d w.heap.size (Ix c)) (h0:I [] T0 W1) (Ia:List α×α×Act->(Nat->Prop)->World->Prop) (hIa:dU d w.heap.size Ia) (oH:∀ pre x T W,pre++ [x]<+:xs->(∀ k,T0 k->T k)->(∀ k,T k->w.heap.size<=k/\k<W.heap.size)->aa R w W->I pre T W-> assign.wpIn (F.inRound l) 0 P (Exit.then (fun a1 W'=>aa (fun k=>R k\/T k) W W'/\Ia (pre,x,a1) T W') (fun _ _ _=>False)) {tmps:=(ps.zip (lh x)).foldl (fun t (p,v)=>t.setIfInBounds p v) tmps,defers:=[]} W)
  (Af:∀ pre x T a1 W,pre++ [x]<+:xs->(∀ k,T0 k->T k)->(∀ k,T k->w.heap.size<=k/\k<W.heap.size)->aa R w W->(∃ r:Loop,W.heap[l]? =some (.loop r)/\r.defers=dfr)->Ia (pre,x,a1) T W->
   body.wpIn (F.inRound l) 0 P (DZ R T W I Ix (pre++ [x])) a1 W):
  CallsIn F 0 P gf (#[.func (.yield l) #[] #[]]++lb) W1 fun e W3=>(∃ v,e=.returned v)/\∃ T W4 jump,(Instr.endLoop l).run P W3=.ok jump W4/\(∀ k,T0 k->T k)/\(∀ k,T k->w.heap.size<=k/\k<W4.heap.size)/\
   (∀ k,T0 k->k≠l->W4.heap[k]? =W1.heap[k]?)/\aa (fun k=>R k\/T0 k) W1 W1/\
   match jump with
   | none=>I xs T W4
   | some c=>∃ pre,pre<+:xs/\Ix c pre T W4:=by
 obtain⟨rec,qi⟩:∃ rec:LoopState->Option Code->Loop,rec=fun st pe=> {state:=st,pending:=pe,fn,tmps,params:=ps,assign,body,defers:=dfr} :=⟨_,rfl⟩
 have nG:W1.heap[l]? =some (.loop (rec .ready none)):=by rw[qi];exact hl
 have Xe:∀ {T:Nat->Prop} {W:World},(∀ k,T k->W1.heap.size<=k/\k<W.heap.size)->l<W.heap.size->∀ k,(T k\/T0 k)->w.heap.size<=k/\k<W.heap.size:=fun hT Xf k hk=>by
  have hsz:=hW1.size;rcases hk with hk | hk
  ·have:=hT k hk;omega
  ·have:=JY k hk;omega
 -- the invariant with the record beside it
 have Kp:∀ {β:Type} {G:β->(Nat->Prop)->World->Prop} (rs:β->Loop->Prop),dU d w.heap.size G->
   dU d W1.heap.size (fun (s:β) T W=>G s (fun k=>T k\/T0 k) W/\(∃ r,rs s r/\W.heap[l]? =some (.loop r))/\(∀ k,T0 k->k≠l->W.heap[k]? =W1.heap[k]?)/\l<W.heap.size):=by
  intro β G rs hG s T T' W W' hs h1 h2 h3 h4 h5;obtain⟨hg,⟨r,hr,Xf⟩,hk,hlt⟩:=hs;have Kq:∀ k,T0 k->W'.heap[k]? =W.heap[k]? :=fun k hk=>h5.1.keep k ⟨by have:=(JY k hk).2;omega,fun ht=>by have:=(h1 k ht).1;have:=(JY k hk).2;omega⟩
  refine⟨hG s _ _ W W' hg (Xe h1 hlt) (Xe h2 (Nat.lt_of_lt_of_le hlt h5.1.size)) (fun k hk=>hk.imp (h3 k) id) (fun k hk=>?_) (h5.mono fun k hk=>.inl hk),⟨r,hr,(Kq l Tv).trans Xf⟩,fun k Gh hne=>(Kq k Gh).trans (hk k Gh hne),Nat.lt_of_lt_of_le hlt h5.1.size⟩;rcases hk with hk | hk
  ·exact(h4 k hk).imp .inl id
  ·exact .inl (.inr hk)
 have Kr:¬R l:=fun h=>by have:=Pz l h;have:=(JY l Tv).1;omega
 refine CallsIn.mono (hC (hseq l (fun pre T W=>I pre (fun k=>T k\/T0 k) W/\(∃ r,r=rec .ready none/\W.heap[l]? =some (.loop r))/\(∀ k,T0 k->k≠l->W.heap[k]? =W1.heap[k]?)/\l<W.heap.size)
  (fun pre T W=>∃ c,Ix c pre (fun k=>T k\/T0 k) W/\(∃ r,r=rec .done (some c)/\W.heap[l]? =some (.loop r))/\(∀ k,T0 k->k≠l->W.heap[k]? =W1.heap[k]?)/\l<W.heap.size)
  W1 hW1.keeps (Kp (fun _ r=>r=rec .ready none) hI)
  (fun s T T' W W' ⟨c,hc⟩ h1 h2 h3 h4 h5=>⟨c,Kp (fun _ r=>r=rec .done (some c)) (PA c) s T T' W W' hc h1 h2 h3 h4 h5⟩) ?_
  ⟨hI _ _ _ W1 W1 h0 (fun k hk=>⟨(JY k hk).1,by have:=(JY k hk).2;omega⟩) (Xe (fun _ h=>h.elim) (by omega)) (fun k hk=>.inr hk) (fun k hk=>.inl (hk.resolve_left id)) (Move.refl _ _ _),⟨_,rfl,nG⟩,fun _ _ _=>rfl,by omega⟩)) ?_
 ·-- one round
  rintro pre x T W bn hT hRW ⟨hi,⟨r0,Tw,Xf⟩,hkD,hlt⟩;subst Tw;have hy:=run_yield (P:=P) (args:=lh x) Xf (by rw[qi];exact OS x);rw[qi]at hy;have OT:=Xe hT hlt;have Xg:aa R w W:=(hW1.mono Pz).tr hRW;refine⟨fn,_,assign,body,hy,hYd (roundIn_of_wpIn (hF fn) (wpIn_mono (oH pre x _ W bn (fun k hk=>.inr hk) OT Xg hi) ?_))⟩;rintro e a1 Wa hp;cases e with
  | normal=>
   obtain⟨hka,hia⟩:=hp;have hla:Wa.heap[l]? =some (.loop (rec .ready none)):=(hka.keep l (.inr (.inr Tv))).trans Xf;have Tx:l<Wa.heap.size:=Nat.lt_of_lt_of_le hlt hka.size;refine⟨_,run_beginRound hla (by rw[qi]),?_⟩;obtain⟨Wb,We⟩:∃ Wb,Wb=Wa.putObj l (.loop {rec .ready none with state:=.busy}):=⟨_,rfl⟩;rw[<-We];have oI:Wb.heap.size=Wa.heap.size:=by rw[We];simp
   have zS:Wb.heap[l]? =some (.loop {rec .ready none with state:=.busy}):=by rw[We];exact World.putObj_heap_same Tx
   have hab:∀ {S:Nat->Prop},¬S l->aa S Wa Wb:=fun hS=>by rw[We];exact(aa.refl _ _).putObj hS _
   have Ks:∀ k,(T k\/T0 k)->w.heap.size<=k/\k<Wa.heap.size:=fun k hk=>⟨(OT k hk).1,Nat.lt_of_lt_of_le (OT k hk).2 hka.size⟩
   have hib:Ia (pre,x,a1) (fun k=>T k\/T0 k) Wb:=hIa _ _ _ Wa Wb hia Ks (fun k hk=>by rw[oI];exact Ks k hk) (fun _ h=>h) (fun _ h=>.inl h) (by rw[We];exact .put (.inr Tv) _);have abU:aa R w Wb:=Xg.tr ((hka.mono fun k hk=>.inl hk).tr (hab Kr));refine wpIn_mono (Af pre x _ a1 Wb bn (fun k hk=>.inr hk) (fun k hk=>by rw[oI];exact Ks k hk) abU ⟨_,zS,by rw[qi]⟩ hib) ?_
   -- the round's end
   have fin:∀ (jump:Option Code) (Wc:World) (G:(Nat->Prop)->World->Prop),(∀ T T' W W',G T W->(∀ k,T k->w.heap.size<=k/\k<W.heap.size)->(∀ k,T' k->w.heap.size<=k/\k<W'.heap.size)->(∀ k,T k->T' k)->(∀ k,T' k->T k\/W.heap.size<=k)->Move d T W W'->G T' W')->
     aa (fun k=>T k\/T0 k) Wb Wc->G (fun k=>T k\/T0 k) Wc->
     ∃ Wd,(Instr.endRound l jump).run P Wc=.ok (.bool jump.isNone) Wd/\G (fun k=>T k\/T0 k) Wd/\Wd.heap[l]? =some (.loop (rec (if jump.isNone then .ready else .done) jump))/\(∀ k,T0 k->k≠l->Wd.heap[k]? =W1.heap[k]?)/\l<Wd.heap.size/\aa T W Wd/\(∀ S:Nat->Prop,¬S l->aa S Wb Wc->aa S Wa Wd):=by
    intro jump Wc G hG zT hg;have hlc:Wc.heap[l]? =some (.loop {rec .ready none with state:=.busy}):=(zT.keep l (.inr Tv)).trans zS;have Xh:l<Wc.heap.size:=by rw[<-oI]at Tx;exact Nat.lt_of_lt_of_le Tx zT.size
    have hend:=run_endRound (P:=P) jump hlc;rw[qi]at hend ⊢;have Xi:∀ k,(T k\/T0 k)->w.heap.size<=k/\k<Wc.heap.size:=fun k hk=>⟨(Ks k hk).1,by have:=(Ks k hk).2;rw[<-oI]at this;exact Nat.lt_of_lt_of_le this zT.size⟩
    have PC:∀ {S:Nat->Prop},¬S l->aa S Wa (Wc.putObj l (.loop (rec (if jump.isNone then .ready else .done) jump)))\/¬aa S Wb Wc:=fun {S} hS=>by
     by_cases h:aa S Wb Wc
     ·exact .inl (((hab hS).tr h).putObj hS _)
     ·exact .inr h
    have s6:¬T l:=fun h=>by have:=(hT l h).1;omega
    rw[qi]at PC;refine⟨_,hend,hG _ _ Wc _ hg Xi (fun k hk=>by simpa using Xi k hk) (fun _ h=>h) (fun _ h=>.inl h) (.put (.inr Tv) _),World.putObj_heap_same Xh,fun k hk hne=>?_,by simpa using Xh,?_,fun S hS hk=>(PC hS).resolve_right (fun h=>h hk)⟩
    ·rw[World.putObj_heap_other hne,zT.keep k (.inr hk),We,World.putObj_heap_other hne,hka.keep k (.inr (.inr hk))]
     exact hkD k hk hne
    ·exact(hka.mono fun k hk=>.inr (.inl hk)).tr ((PC s6).resolve_right (fun h=>h (zT.mono fun k hk=>.inl hk)))
   rintro e a3 Wc hp;cases e with
   | normal=>
    obtain⟨zT,Ty⟩:=hp;obtain⟨Wd,hend,hg,Tz,D9,Ea,Wh,hS⟩:=fin none Wc (I (pre++ [x])) (fun T T' W W'=>hI (pre++ [x]) T T' W W') (zT.mono fun k hk=>.inr hk) Ty;refine⟨_,Wd,hend,.inl ⟨rfl,⟨hg,⟨_,rfl,Tz⟩,D9,Ea⟩,?_⟩⟩;have s6:¬ (R l\/T l):=fun h=>h.elim Kr (fun h=>by have:=(hT l h).1;omega)
    exact(hka.mono fun k hk=>hk.imp id .inl).tr (hS _ s6 (zT.mono fun k hk=>hk.imp id .inl))
   | ret=>
    obtain⟨zT,Ty⟩:=hp;obtain⟨Wd,hend,hg,Tz,D9,Ea,Wh,hS⟩:=fin (some .ret) Wc (Ix .ret (pre++ [x])) (fun T T' W W'=>PA .ret (pre++ [x]) T T' W W') zT Ty;exact⟨_,Wd,hend,.inr ⟨rfl,⟨_,hg,⟨_,rfl,Tz⟩,D9,Ea⟩,Wh⟩⟩
   | exit id=>
    obtain⟨zT,Ty⟩:=hp;obtain⟨Wd,hend,hg,Tz,D9,Ea,Wh,hS⟩:=fin (some (.exit id)) Wc (Ix (.exit id) (pre++ [x])) (fun T T' W W'=>PA (.exit id) (pre++ [x]) T T' W W') zT Ty;exact⟨_,Wd,hend,.inr ⟨rfl,⟨_,hg,⟨_,rfl,Tz⟩,D9,Ea⟩,Wh⟩⟩
   | goto t=>
    obtain⟨zT,Ty⟩:=hp;obtain⟨Wd,hend,hg,Tz,D9,Ea,Wh,hS⟩:=fin (some (.goto t)) Wc (Ix (.goto t) (pre++ [x])) (fun T T' W W'=>PA (.goto t) (pre++ [x]) T T' W W') zT Ty;exact⟨_,Wd,hend,.inr ⟨rfl,⟨_,hg,⟨_,rfl,Tz⟩,D9,Ea⟩,Wh⟩⟩
   | panic ch=>exact hp.elim
   | outgrown=>exact hp.elim
  | exit id=>exact hp.elim
  | goto t=>exact hp.elim
  | ret=>exact hp.elim
  | panic ch=>exact hp.elim
  | outgrown=>exact hp.elim
 ·-- behind the iterator
  rintro e W2 ⟨hv,T,hT,h⟩;refine⟨hv,fun k=>T k\/T0 k,?_⟩
  have fin:∀ (st:LoopState) (jump:Option Code) (G:(Nat->Prop)->World->Prop),st≠ .busy->(∀ T T' W W',G T W->(∀ k,T k->w.heap.size<=k/\k<W.heap.size)->(∀ k,T' k->w.heap.size<=k/\k<W'.heap.size)->(∀ k,T k->T' k)->(∀ k,T' k->T k\/W.heap.size<=k)->Move d T W W'->G T' W')->
    G (fun k=>T k\/T0 k) W2->W2.heap[l]? =some (.loop (rec st jump))->(∀ k,T0 k->k≠l->W2.heap[k]? =W1.heap[k]?)->l<W2.heap.size->
    ∃ W4,(Instr.endLoop l).run P W2=.ok jump W4/\(∀ k,(T k\/T0 k)->w.heap.size<=k/\k<W4.heap.size)/\(∀ k,T0 k->k≠l->W4.heap[k]? =W1.heap[k]?)/\G (fun k=>T k\/T0 k) W4:=by
   intro st jump G hst hG hg hl2 hk2 mS;have hend:=run_endLoop (P:=P) hl2 (by rw[qi];exact hst);rw[qi]at hend;have OT:=Xe hT mS;exact⟨_,hend,fun k hk=>by simpa using OT k hk,fun k hk hne=>(World.putObj_heap_other hne).trans (hk2 k hk hne),hG _ _ W2 _ hg OT (fun k hk=>by simpa using OT k hk) (fun _ h=>h) (fun _ h=>.inl h) (.put (.inr Tv) _)⟩
  rcases h with⟨hi,⟨r,hr,hl2⟩,hk2,mS⟩ | ⟨pre,bn,c,hi,⟨r,hr,hl2⟩,hk2,mS⟩
  ·subst hr
   obtain⟨W4,h1,h2,h3,h4⟩:=fin .ready none (I xs) (by decide) (fun T T' W W'=>hI xs T T' W W') hi hl2 hk2 mS;exact⟨W4,none,h1,fun k hk=>.inr hk,h2,h3,aa.refl _ _,h4⟩
  ·subst hr
   obtain⟨W4,h1,h2,h3,h4⟩:=fin .done (some c) (Ix c pre) (by decide) (fun T T' W W'=>PA c pre T T' W W') hi hl2 hk2 mS;exact⟨W4,some c,h1,fun k hk=>.inr hk,h2,h3,aa.refl _ _,pre,bn,h4⟩
theorem ax {c:Code} {Q:Exit->Act->World->Prop} {a:Act} {w:World} (h:∀ W,W=w->c.wp P Q a W):c.wp P Q a w:=h w rfl
theorem Eb {F:Fence} {n:Nat} {c:Code} {Q:Exit->Act->World->Prop} {a:Act} {w:World} (h:∀ W,W=w->c.wpIn F n P Q a W):c.wpIn F n P Q a w:=h w rfl
theorem s7 {α:Type} {g:Operand} {ps:Array Tmp} {assign body:Code} {Q:Exit->Act->World->Prop} {a:Act} {w:World} {gf:Nat} {lb:Array Value} {lh:α->Array Value} {R:Nat->Prop} {xs:List α} (hseq:Seq d P gf lb lh R xs w) (hg:a.eval g=.func (.func gf) #[] lb) (eg:∀ args w,(callFunc gf args).run P w=.ok (.enter gf args) w) (OS:∀ x,(lh x).size=ps.size) (Pz:∀ k,R k->k<w.heap.size) (I:List α->(Nat->Prop)->World->Prop) (Ix:Code->List α->(Nat->Prop)->World->Prop) (hI:dU d w.heap.size I) (PA:∀ c,dU d w.heap.size (Ix c)) (h0:I [] (fun _=>False) w) (Ia:List α×α×Act->(Nat->Prop)->World->Prop) (hIa:dU d w.heap.size Ia) (oH:∀ l pre x T W,pre++ [x]<+:xs->(∀ k,T k->w.heap.size<=k/\k<W.heap.size)->aa R w W->I pre T W-> assign.wpIn (Fence.wide.inRound l) 0 P (Exit.then (fun a1 W'=>aa (fun k=>R k\/T k) W W'/\Ia (pre,x,a1) T W') (fun _ _ _=>False)) {tmps:=(ps.zip (lh x)).foldl (fun t (p,v)=>t.setIfInBounds p v) a.tmps,defers:=[]} W)
  (Af:∀ l pre x T a1 W,pre++ [x]<+:xs->(∀ k,T k->w.heap.size<=k/\k<W.heap.size)->aa R w W->T l->(∃ r:Loop,W.heap[l]? =some (.loop r))->Ia (pre,x,a1) T W->
   body.wpIn (Fence.wide.inRound l) 0 P (DZ R T W I Ix (pre++ [x])) a1 W)
  (hdone:∀ D T W,w.heap.size<=D->T D->(∀ k,T k->w.heap.size<=k/\k<W.heap.size)->I xs T W->W.heap[D]? =some (.deferred (some []))->Q .normal {a with defers:= {target:=.collected D,args:= #[]} ::a.defers} W)
  (Kt:∀ D c pre T W,w.heap.size<=D->T D->(∀ k,T k->w.heap.size<=k/\k<W.heap.size)->pre<+:xs->Ix c pre T W->W.heap[D]? =some (.deferred (some []))->c.wp P Q {a with defers:= {target:=.collected D,args:= #[]} ::a.defers} W):
  (Code.rangeFunc g ps assign body).wp P Q a w:=by
 refine wpIn_wide.1 (wpIn_rangeFunc (n:=0) ?_);intro fn hfn;obtain⟨W1,hW1⟩:∃ W1,W1=(w.alloc (.deferred (some []))).alloc (.loop {state:=.ready,pending:=none,fn,tmps:=a.tmps,params:=ps,assign,body,defers:=w.heap.size}):=⟨_,rfl⟩;have hL1:W1.heap[w.heap.size+1]? =some (.loop {state:=.ready,pending:=none,fn,tmps:=a.tmps,params:=ps,assign,body,defers:=w.heap.size}):=by
  rw[hW1];have:=World.alloc_heap_new (w.alloc (.deferred (some []))) (.loop {state:=.ready,pending:=none,fn,tmps:=a.tmps,params:=ps,assign,body,defers:=w.heap.size});rwa[World.size_alloc]at this
 have hK1:W1.heap[w.heap.size]? =some (.deferred (some [])):=by rw[hW1];exact(Below.heap_alloc _ _ _ (by simp)).trans (World.alloc_heap_new w _)
 have hsz:W1.heap.size=w.heap.size+1+1:=by rw[hW1];simp
 have hx1:Ext w W1:=by rw[hW1];exact((Ext.refl w).alloc _).alloc _
 refine⟨w.heap.size+1,[{target:=.collected w.heap.size,args:= #[]}],W1, {target:=.fn (.func gf) lb,args:= #[.func (.yield (w.heap.size+1)) #[] #[]]},W1,gf,
  #[.func (.yield (w.heap.size+1)) #[] #[]]++lb,W1,?_,?_,?_,?_,fun h=>(by cases h),?_⟩
 ·rw[hW1];exact run_enterLoop_outer _ _ _ _ _
 ·simp only[resolve,hg]
  simp[go_sem]
 ·intro f' _;trivial
 ·simp[invoke,go_sem,eg]
 ·refine(D7 (F:=Fence.wide) (fun _=>trivial) (fun h=>callsIn_wide.2 h) (fun h=>h) hseq a.tmps w.heap.size OS Pz (w.heap.size+1) (fun k=>k=w.heap.size\/k=w.heap.size+1) (fun k hk=>by omega) (.inr rfl) W1 hsz hL1 hx1 I Ix hI PA
   (hI _ _ _ w W1 h0 (fun _ h=>h.elim) (fun k hk=>by omega) (fun _ h=>h.elim) (fun k hk=>.inr (by omega)) (.ext hx1)) Ia hIa
   (fun pre x T W h1 _ h3 h4 h5=>oH _ pre x T W h1 h3 h4 h5) (fun pre x T a1 W h1 h2 h3 h4 ⟨r,h5,_⟩ h6=>Af _ pre x T a1 W h1 h3 h4 (h2 _ (.inr rfl)) ⟨r,h5⟩ h6)).mono ?_
  rintro e W3 ⟨⟨v,rfl⟩,T,W4,jump,hend,JY,hT,hk,_,hj⟩;refine⟨jump,W4,hend,?_⟩;have hD:W4.heap[w.heap.size]? =some (.deferred (some [])):=(hk _ (.inl rfl) (by omega)).trans hK1;cases jump with
  | none=>exact hdone _ T W4 (Nat.le_refl _) (JY _ (.inl rfl)) hT hj hD
  | some c=>
   obtain⟨pre,bn,hx⟩:=hj;exact wpIn_wide.2 (Kt _ c pre T W4 (Nat.le_refl _) (JY _ (.inl rfl)) hT bn hx hD)
theorem fh {α:Type} {g:Operand} {ps:Array Tmp} {assign body:Code} {Q:Exit->Act->World->Prop} {a:Act} {w:World} {gf:Nat} {lb:Array Value} {lh:α->Array Value} {R:Nat->Prop} {xs:List α} (hseq:Seq d P gf lb lh R xs w) (hg:a.eval g=.func (.func gf) #[] lb) (eg:∀ args w,(callFunc gf args).run P w=.ok (.enter gf args) w) (OS:∀ x,(lh x).size=ps.size) (Pz:∀ k,R k->k<w.heap.size) (I:List α->(Nat->Prop)->World->Prop) (Ix:Code->List α->(Nat->Prop)->World->Prop) (hI:dU d w.heap.size I) (PA:∀ c,dU d w.heap.size (Ix c)) (h0:I [] (fun _=>False) w) (a₁:α->Act) (oH:∀ l x W (K:Act->World->Prop),K (a₁ x) W->assign.wpIn (Fence.wide.inRound l) 0 P (Exit.then K (fun _ _ _=>False)) {tmps:=(ps.zip (lh x)).foldl (fun t (p,v)=>t.setIfInBounds p v) a.tmps,defers:=[]} W)
  (Af:∀ l pre x T W,pre++ [x]<+:xs->(∀ k,T k->w.heap.size<=k/\k<W.heap.size)->aa R w W->T l->(∃ r:Loop,W.heap[l]? =some (.loop r))->I pre T W->
   body.wpIn (Fence.wide.inRound l) 0 P (DZ R T W I Ix (pre++ [x])) (a₁ x) W)
  (hdone:∀ D T W,w.heap.size<=D->T D->(∀ k,T k->w.heap.size<=k/\k<W.heap.size)->I xs T W->W.heap[D]? =some (.deferred (some []))->Q .normal {a with defers:= {target:=.collected D,args:= #[]} ::a.defers} W)
  (Kt:∀ D c pre T W,w.heap.size<=D->T D->(∀ k,T k->w.heap.size<=k/\k<W.heap.size)->pre<+:xs->Ix c pre T W->W.heap[D]? =some (.deferred (some []))->c.wp P Q {a with defers:= {target:=.collected D,args:= #[]} ::a.defers} W):
  (Code.rangeFunc g ps assign body).wp P Q a w:=
 s7 hseq hg eg OS Pz I Ix hI PA h0 (fun z T W=>z.2.2=a₁ z.2.1/\I z.1 T W) (fun z T T' W W' hz h1 h2 h3 h4 h5=>⟨hz.1,hI z.1 T T' W W' hz.2 h1 h2 h3 h4 h5⟩)
  (fun l pre x T W _ _ _ hi=>oH l x W _ ⟨aa.refl _ _,rfl,hi⟩) (fun l pre x T a1 W h1 h2 h3 h4 h5 h6=>by obtain⟨h6,h7⟩:=h6;dsimp only at h6;subst h6;exact Af l pre x T W h1 h2 h3 h4 h5 h7) hdone Kt
theorem bG {f:FuncId} {fn:Func} {c:Code} {args:Array Value} {w:World} {R:Ending->World->Prop} (hf:P.funcs[f]? =some fn) (hb:fn.body=some c) (h:c.wp P (bodyPostM Fence.wide 0 P fn R) {tmps:=args++Array.replicate (fn.ntmps-args.size) undef,defers:=[]} w):Calls P f args w R:=
 callsIn_wide.1 (callsIn_of_wp_marks hf hb trivial (wpIn_wide.2 h))
theorem cE {fn:Func} {R:Ending->World->Prop} {a:Act} {W:World} {D:Nat} {v:Value} (hd:a.defers=[{target:=.collected D,args:= #[]}]) (hD:W.heap[D]? =some (.deferred (some []))) (hr:(results fn a.tmps).run P (W.putObj D (.deferred none))=.ok v (W.putObj D (.deferred none))) (hR:R (.returned v) (W.putObj D (.deferred none))):bodyPostM Fence.wide 0 P fn R .ret a W:=by show LeavesInM Fence.wide 0 P fn a.tmps R a.defers .returning W;rw[hd];exact⟨by simp,.inl ⟨_,_,rfl,run_takeDeferred hD,v,hr,hR⟩⟩
theorem sj {fn:Func} {R:Ending->World->Prop} {a:Act} {W:World} {D:Nat} {v:Value} (hd:a.defers=[{target:=.collected D,args:= #[]}]) (hD:W.heap[D]? =some (.deferred (some []))) (hr:(results fn a.tmps).run P (W.putObj D (.deferred none))=.ok v (W.putObj D (.deferred none))) (hR:R (.returned v) (W.putObj D (.deferred none))):bodyPostM Fence.wide 0 P fn R .normal a W:=
 cE hd hD hr hR
theorem vW {fn:Func} {R:Ending->World->Prop} {a:Act} {W:World} {v:Value} (hd:a.defers=[]) (hr:(results fn a.tmps).run P W=.ok v W) (hR:R (.returned v) W):bodyPostM Fence.wide 0 P fn R .ret a W:=by show LeavesInM Fence.wide 0 P fn a.tmps R a.defers .returning W;rw[hd];exact⟨v,hr,hR⟩
theorem Ag {W:World} {D:Nat} {o o':Obj} (h:W.heap[D]? =some o) (ho:o.isCells=false) (JZ:o'.isCells=false) (a:Addr):(W.putObj D o').cell? a=W.cell? a:=by
 by_cases hb:a.block=D
 ·have h1:=World.putObj_heap_same (o:=o') (Array.getElem?_eq_some_iff.1 h).1
  simp only[World.cell?,hb,h,h1];cases o<;>cases o'<;>first | rfl | (simp[Obj.isCells]at ho JZ)
 ·exact World.cell?_of_block (World.putObj_heap_other hb)
end
end Go.Proofs.YtalombmiochpmaaGreatDoor
namespace Go.Proofs.YtalombmiochpmaaGreatDoor
open Go Go.RowKit
section
variable {F:Fence} {n:Nat} {P:Program} {C:World→Prop} {ops:Array Oper}
structure dK (p:Prop):Prop where
 out:p
theorem ei {eff:Nat->Bool} {Q:Act->World->Prop} {o:Oper} {rest:List Oper} {k:Nat} {a:Act} {w:World} (h:∀ K:Act->World->Prop,(∀ a w,dK (iY F n P C ops eff Q rest (k+1) a w)->K a w)->dr F n P C ops (eff k) o K a w):dK (iY F n P C ops eff Q (o::rest) k a w):=⟨bD fun K hK=>h K fun a w hl=>hK a w hl.out⟩
theorem Ah {eff:Nat->Bool} {Q:Act->World->Prop} {k:Nat} {a:Act} {w:World} (h:Q a w):dK (iY F n P C ops eff Q [] k a w):=⟨h⟩
theorem PD {eG:Bool} {o:Oper} {K:Act->World->Prop} {a:Act} {w:World} (he:eG=false) (hw:Region.wanted o (yielded ops a.tmps)=true) (h:∃ v,(∀ W: {W//C W},aq P o a v W.1)/\K (a.put o.dst v) w):dr F n P C ops eG o K a w:=by subst he;exact cV hw h
theorem Ku {eG:Bool} {o:Oper} {K:Act->World->Prop} {a:Act} {w:World} (he:eG=true) (hw:Region.wanted o (yielded ops a.tmps)=true) (h:gK F n P C o.dst a K ((execOp a.eval o).run P w)):dr F n P C ops eG o K a w:=by subst he;exact dN hw h
theorem gO {op:Oper} {a:Act} {W:World} (ty:TypeId) (x:Operand) (ho:op.op=.load ty x) (b o:Nat) (hx:a.eval x=.pointer (some ⟨b,o,none⟩)) (cs:Array Value) (d:TypeDesc) (hc:W.rangeAt b o cs.toList) (hu:P.underlying ty=some d) (hd:d.isRow=true) (hi:(P.info? ty).map (·.size)=some cs.size):aq P op a (.agg cs) W:=by refine .inl ?_;unfold execOp;simp only[ho,hx,Instr.loadAt,Instr.sureAddr,Sem.run_bind,Sem.run_pure,Result.andThen_ok,run_loadVar_mid W b o ty cs.toList d hc hu hd (by rw[Array.length_toList];exact hi)]
theorem eH {w w':World} {R:Nat->Prop} {b o:Nat} {cs:List Value} (h:w.rangeAt b o cs) (hk:aa R w w') (hb:R b):w'.rangeAt b o cs:=fun j v hj=>(hk.cell (p:=⟨b,o+j,none⟩) hb).trans (h j v hj)
theorem oJ {o:Oper} {a:Act} {w:World} {K:Act->World->Prop} (s x:Operand) (t:TypeId) (ho:o.op=.call {callee:=.builtin .append,args:= #[s,x],argTypes:= #[t,t]}) (base:Nat) (e:TypeId) (i:TypeInfo) (z:Value) (size bytes:Nat) (ht:P.underlying t=some (.slice e)) (hi:P.info? e=some i) (hz:i.zero=some z) (hsize:i.size=size) (hby:i.bytes=bytes) (hzs:z.cells.size=size) (hsz:0<size) (v:Value) (m:Nat) (xs:List Value) (hs:a.eval s=v) (hown:w.ownsRow base e size v m xs) (ad:Addr) (k c:Nat) (news:List Value) (hx:a.eval x=.slice (some ad) k c) (hl:news.length=k*size) (hnews:∀ j u,news[j]? =some u->w.cell? (ad.add j)=some u) (h1:∀ u∈news,u.oneCell'=true) (h63:m+k<=maxLen) (hbytes:(m+k)*bytes<=140737488355328) (hbase:base<=w.heap.size) (h:∀ v' w',w'.ownsRow base e size v' (m+k) (xs++news)->w.grownBy w' v.ownBlock->(v'.ownBlock=v.ownBlock\/v'.ownBlock=some w.heap.size)->C w'/\K (a.put o.dst v') w'): gK F n P C o.dst a K ((execOp a.eval o).run P w):=by obtain⟨v',w',hr,h2,h3,h4,h5⟩:=run_append_own_at (P:=P) w base t o.type e i z size bytes ht hi hz hsize hby hzs hsz v m xs hown ad k c news hl hnews h1 h63 hbytes hbase;unfold execOp;simp only[ho,resolve,invoke,builtin,Sem.run_bind,Sem.run_pure,Result.andThen_ok,List.map_toArray,List.map_cons,List.map_nil,hs,hx,hr];exact h v' w' h2 h3 h5
end
end Go.Proofs.YtalombmiochpmaaGreatDoor
namespace Go.Proofs.YtalombmiochpmaaGreatDoor
open Go Go.RowKit
structure aR (M:World->World->Prop) where
 P:Value->Prop
 H:Value->World->Prop
 nH:Value
 pw:P nH
 st:∀ v W W',M W W'->P v->H v W->H v W'
theorem Move.trans {d:Bool} {T:Nat->Prop} {A B C:World} (h:Move d T A B) (k:Move d T B C):Move d T A C:=
 ⟨h.1.trans k.1 fun _ hk=>⟨Nat.lt_of_lt_of_le hk.1 h.1.size,hk.2⟩,fun hd=>Nat.le_trans (h.2 hd) (k.2 hd)⟩
def di (ops:Array Oper) (j:Nat):Option Tmp:=(ops[j]?).bind (·.dst)
def kQ (Cl:FuncId->Array Value->World->(Ending->World->Prop)->Prop) (Rd:Nat->FuncId->Array Value->Code->Code->World->(Ending->World->Prop)->Prop) (post:Value->World->Prop):Result Next->Prop
 | .ok (.value v) w'=>post v w'
 | .ok .skip w'=>post undef w'
 | .ok (.enter f args) w'=>Cl f args w' fun e w''=>∃ v,e=.returned v/\post v w''
 | .ok (.round l f tmps Aa body) w'=>Rd l f tmps Aa body w' fun e w''=>∃ v,e=.returned v/\post v w''
 | _=>False
def PF (S:Nat->(Act->World->Prop)->Act->World->Prop) (md:Region.Mode) (ops:Array Oper) (Qn:Act->World->Prop):Nat->Array Bool->Act->World->Prop
 | 0,listed,a,w=>Region.ready md ops listed=[]/\Qn a w
 | fuel+1,listed,a,w=>
  (Region.ready md ops listed=[]->Qn a w)/\
  ∀ i∈Region.ready md ops listed,S i (PF S md ops Qn fuel (listed.setIfInBounds i true)) a w
def xd (S:Nat->(Act->World->Prop)->Act->World->Prop) (Qn:Act->World->Prop):List Nat->Act->World->Prop
 | [],a,w=>Qn a w
 | i::rest,a,w=>S i (xd S Qn rest) a w
def needs (m:Nat) (aJ:List (Nat× (World->Prop))) (W:World):Prop:=∀ x∈aJ,m.testBit x.1=true->x.2 W
theorem needs.at {m:Nat} {aJ:List (Nat× (World->Prop))} {W:World} (h:needs m aJ W) (i:Nat) {x:Nat× (World->Prop)} (hx:aJ[i]? =some x) (hm:m.testBit x.1=true):x.2 W:=h x (List.mem_of_getElem? hx) hm
section
variable {P:Program} {Cl:FuncId→Array Value→World→(Ending→World→Prop)→Prop} {Rd:Nat→FuncId→Array Value→Code→Code→World→(Ending→World→Prop)→Prop}
  {ops:Array Oper} {eff:Nat→Bool} {bM:Nat→Nat} {M:World→World→Prop} {EP:Nat→aR M} {C:World→Prop} {md:Region.Mode} {m:Nat}
def fC (ops:Array Oper) (a:Act) (val:Nat->Value):Nat->Act
 | 0=>a
 | i+1=>(fC ops a val i).put (di ops i) (val i)
theorem ej {a:Act} {val val':Nat->Value} :∀ (i:Nat),(∀ j,j<i->val j=val' j)->fC ops a val i=fC ops a val' i
 | 0,_=>rfl
 | i+1,h=>by unfold fC;rw[ej i fun j hj=>h j (by omega),h i (by omega)]
def wantedAt (ops:Array Oper) (a:Act) (val:Nat->Value) (j:Nat):Prop:=∃ o,ops[j]? =some o/\Region.wanted o (yielded ops (fC ops a val j).tmps)=true
def qj (ops:Array Oper) (eff:Nat->Bool) (bM:Nat->Nat) (EP:Nat->aR M) (a:Act) (val:Nat->Value) (i:Nat) (W:World):Prop:=
 ∀ j,j<i->wantedAt ops a val j->eff j=true->(bM i).testBit j=true->(EP j).H (val j) W
theorem ia {a:Act} {val val':Nat->Value} {j:Nat} (h:∀ k,k<j->val k=val' k):wantedAt ops a val j↔wantedAt ops a val' j:=by unfold wantedAt;rw[ej j h]
theorem nI {a:Act} {val val':Nat->Value} {i:Nat} (h:∀ k,k<i->val k=val' k):qj ops eff bM EP a val i=qj ops eff bM EP a val' i:=by
 funext W
 unfold qj;refine propext (forall_congr' fun j=>forall_congr' fun hj=>?_);rw[ia (val':=val') fun k hk=>h k (by omega),h j hj]
structure Gi (ops:Array Oper) (a0:Act) (L:Nat->Prop) (val:Nat->Value) (a:Act):Prop where
 defers:a.defers=a0.defers
 size:a.tmps.size=a0.tmps.size
 old:∀ t,(∀ j,L j->di ops j≠some t)->a.tmps[t]? =a0.tmps[t]?
 new:∀ j t,L j->di ops j=some t->t<a0.tmps.size->a.tmps[t]? =some (val j)
theorem Gi.start (a0:Act) (val:Nat->Value) {L:Nat->Prop} (hL:∀ j,¬L j):Gi ops a0 L val a0:=⟨rfl,rfl,fun _ _=>rfl,fun j _ h=>(hL j h).elim⟩
theorem Gi.put {a0 a:Act} {L L':Nat->Prop} {val:Nat->Value} (h:Gi ops a0 L val a) (i:Nat) (hL:∀ j,L' j↔L j\/j=i) (hi:∀ j t,L j->di ops j=some t->di ops i≠some t):Gi ops a0 L' val (a.put (di ops i) (val i)):=by
 cases hd:di ops i with
 | none=>
  refine⟨h.defers,h.size,fun t ht=>h.old t fun j hj=>ht j ((hL j).2 (.inl hj)),fun j t hj OU Hm=>?_⟩;rcases(hL j).1 hj with hj | rfl
  ·exact h.new j t hj OU Hm
  ·rw[hd]at OU;cases OU
 | some e=>
  refine⟨h.defers,by simp[Act.put,h.size],fun t ht=>?_,fun j t hj OU Hm=>?_⟩
  ·have hne:e≠t:=fun he=>ht i ((hL i).2 (.inr rfl)) (by rw[hd,he])
   simp only[Act.put,Array.getElem?_setIfInBounds_ne hne];exact h.old t fun j hj=>ht j ((hL j).2 (.inl hj))
  ·rcases(hL j).1 hj with hj | rfl
   ·have hne:e≠t:=fun he=>hi j t hj OU (by rw[hd,he])
    simp only[Act.put,Array.getElem?_setIfInBounds_ne hne];exact h.new j t hj OU Hm
   ·rw[hd]at OU;cases OU
    simp only[Act.put];rw[Array.getElem?_setIfInBounds_self_of_lt (by rw[h.size];exact Hm)]
theorem Gi.agree {a0 a a':Act} {L L':Nat->Prop} {val val':Nat->Value} (h:Gi ops a0 L val a) (h':Gi ops a0 L' val' a') {t:Nat} (hj:∀ j,di ops j=some t->((L j↔L' j)/\(L j->val j=val' j))):a.tmps[t]? =a'.tmps[t]? :=by
 by_cases hex:∃ j,L j/\di ops j=some t
 ·obtain⟨j,h1,h2⟩:=hex
  obtain⟨h3,h4⟩:=hj j h2;rcases Nat.lt_or_ge t a0.tmps.size with hlt | PG
  ·rw[h.new j t h1 h2 hlt,h'.new j t (h3.1 h1) h2 hlt,h4 h1]
  ·rw[Array.getElem?_eq_none (by rw[h.size];exact PG),Array.getElem?_eq_none (by rw[h'.size];exact PG)]
 ·rw[h.old t fun j h1 h2=>hex ⟨j,h1,h2⟩,h'.old t fun j h1 h2=>hex ⟨j,((hj j h2).1).2 h1,h2⟩]
theorem ql {o:Oper} (hs:∀ cs b,o.op≠ .select cs b) {a a':Act} (h:∀ t,t∈o.looksAt ops->a.tmps[t]? =a'.tmps[t]?): execOp a.eval o=execOp a'.eval o/\Region.wanted o (yielded ops a.tmps)=Region.wanted o (yielded ops a'.tmps):=by
 constructor
 ·refine execOp_congr o hs fun x hx=>?_
  cases x with
  | tmp t=>
   have:=h t (List.mem_append_left _ (List.mem_filterMap.2 ⟨.tmp t,by simpa using hx,rfl⟩));simp[Act.eval,this]
  | _=>rfl
 ·unfold Region.wanted
  cases hg:o.guard with
  | none=>rfl
  | some gw=>
   obtain⟨g,want⟩:=gw;have hy:yielded ops a.tmps g=yielded ops a'.tmps g:=by
    unfold yielded;cases ht:(ops[g]?).bind (·.dst)with
    | none=>rfl
    | some t=>
     have:=h t (by simp[Oper.looksAt,hg,ht]);simp[this]
   simp only[hy]
structure s8 (md:Region.Mode) (ops:Array Oper) (bM:Nat->Nat) (m:Nat):Prop where
 le:m<=ops.size
 sel:∀ (j:Nat) (o:Oper) cs b,ops[j]? =some o->o.op≠ .select cs b
 Ai:∀ (i:Nat) (o:Oper),ops[i]? =some o->∀ e∈o.after,Region.binds md e=true->e.on<i
 sound:∀ (i:Nat) (o:Oper) (j:Nat),ops[i]? =some o->(bM i).testBit j=true->∃ e∈o.after,Region.binds md e=true/\(e.on=j\/(bM e.on).testBit j=true)
 looks:∀ (i:Nat) (o:Oper) (t j:Nat),i<m->ops[i]? =some o->t∈o.looksAt ops->di ops j=some t->(j<i->(bM i).testBit j=true)/\(i<j->(bM j).testBit i=true)
 PH:∀ i j t,i<j->di ops i=some t->di ops j≠some t
 tail:∀ i j,m<=i->i<ops.size->j<i->(bM i).testBit j=true
theorem s8.TA (ok:s8 md ops bM m):∀ (i j:Nat) (o:Oper),ops[i]? =some o->(bM i).testBit j=true->j<i:=by
 intro i;induction i using Nat.strongRecOn with
 | ind i ih=>
  intro j o ho hj;obtain⟨e,he,hb,h⟩:=ok.sound i o j ho hj;have hlt:=ok.Ai i o ho e he hb;rcases h with h | h
  ·omega
  ·have hes:e.on<ops.size:=by have:=(Array.getElem?_eq_some_iff.1 ho).1;omega
   have:=ih e.on hlt j _ (Array.getElem?_eq_getElem hes) h;omega
theorem s8.fC (ok:s8 md ops bM m) (a0:Act) (val:Nat->Value):∀ i,Gi ops a0 (fun j=>j<i) val (fC ops a0 val i)
 | 0=>Gi.start a0 val fun j h=>by omega
 | i+1=>(ok.fC a0 val i).put i (fun j=>by constructor<;>intro h<;>omega) fun j t hj hd=>fun h=>ok.PH j i t hj hd h
theorem count_set:∀ (l:List Bool) (i:Nat),l[i]? =some false->(l.set i true).count false+1=l.count false
 | [],_,h=>by simp at h
 | b::l,0,h=>by
  simp only[List.getElem?_cons_zero,Option.some.injEq]at h;subst h;simp
 | b::l,i+1,h=>by
  simp only[List.getElem?_cons_succ]at h;have:=count_set l i h;simp only[List.set_cons_succ,List.count_cons];omega
variable {S:Nat→(Act→World→Prop)→Act→World→Prop} {Qn:Act→World→Prop}
structure Ec (P:Program) (Cl:FuncId->Array Value->World->(Ending->World->Prop)->Prop) (Rd:Nat->FuncId->Array Value->Code->Code->World->(Ending->World->Prop)->Prop)
  (ops:Array Oper) (eff:Nat->Bool) (S:Nat->(Act->World->Prop)->Act->World->Prop):Prop where
 flt:∀ (i:Nat) (o:Oper) (K:Act->World->Prop) (a:Act) (w:World) (v:Value),ops[i]? =some o->eff i=false->Region.wanted o (yielded ops a.tmps)=true->aq P o a v w->K (a.put o.dst v) w->S i K a w
 eff:∀ (i:Nat) (o:Oper) (K:Act->World->Prop) (a:Act) (w:World),ops[i]? =some o->eff i=true->Region.wanted o (yielded ops a.tmps)=true->kQ Cl Rd (fun v w'=>K (a.put o.dst v) w') ((execOp a.eval o).run P w)->S i K a w
 un:∀ (i:Nat) (o:Oper) (K:Act->World->Prop) (a:Act) (w:World),ops[i]? =some o->Region.wanted o (yielded ops a.tmps)=false->K (a.put o.dst undef) w->S i K a w
 mono:∀ (i:Nat) (K K':Act->World->Prop) (a:Act) (w:World),(∀ a w,K a w->K' a w)->S i K a w->S i K' a w
 RU:∀ (post post':Value->World->Prop) (r:Result Next),(∀ v w,post v w->post' v w)->kQ Cl Rd post r->kQ Cl Rd post' r
theorem Ed {listed:Array Bool} {j:Nat} (hj:j<listed.size):listed.getD j false=true\/listed.getD j true=false:=by simp[hj]
theorem xe (ok:s8 md ops bM m) (so:Ec P Cl Rd ops eff S):∀ (r k:Nat) (fuel:Nat) (listed:Array Bool) (a:Act) (w:World),m<=k->k+r=ops.size->r<=fuel->listed.size=ops.size->(∀ j,j<ops.size->(listed.getD j false=true↔j<k))-> xd S Qn (List.range' k r) a w->PF S md ops Qn fuel listed a w:=by
 intro r;induction r with
 | zero=>
  intro k fuel listed a w hm hk hf hs hl h;have hnil:Region.ready md ops listed=[]:=by
   rw[List.eq_nil_iff_forall_not_mem];intro j hj;obtain⟨h1,o,ho,_⟩:=mem_ready.1 hj;have Xj:j<ops.size:=(Array.getElem?_eq_some_iff.1 ho).1;have h2:=(hl j Xj).2 (by omega);have Kv:j<listed.size:=by omega
   simp[Kv]at h1 h2;rw[h1]at h2;cases h2
  cases fuel with
  | zero=>exact⟨hnil,h⟩
  | succ fuel=>exact⟨fun _=>h,fun i hi=>by rw[hnil]at hi;cases hi⟩
 | succ r ih=>
  intro k fuel listed a w hm hk hf hs hl h;obtain⟨fuel,rfl⟩:∃ f,fuel=f+1:=⟨fuel-1,by omega⟩;have TB:k<ops.size:=by omega
  have Kw:∀ i,i∈Region.ready md ops listed↔i=k:=by
   intro i;rw[mem_ready];constructor
   ·rintro⟨h1,o,ho,hall⟩
    have PK:i<ops.size:=(Array.getElem?_eq_some_iff.1 ho).1;have ib:i<listed.size:=by omega
    have vO:¬listed.getD i false=true:=by simp[ib]at h1 ⊢;exact h1
    rw[hl i PK]at vO;by_cases hik:i=k
    ·exact hik
    ·exfalso
     obtain⟨e,he,hb,jg⟩:=ok.sound i o k ho (ok.tail i k (by omega) PK (by omega));have he1:=hall e he hb;have hes:=ok.Ai i o ho e he hb;rw[hl e.on (by omega)]at he1;rcases jg with rfl | jg
     ·omega
     ·have:=ok.TA e.on k _ (Array.getElem?_eq_getElem (by omega)) jg
      omega
   ·rintro rfl
    have ib:i<listed.size:=by omega
    have vO:¬listed.getD i false=true:=by rw[hl i TB];omega
    refine⟨by simp[ib]at vO ⊢;exact vO,_,Array.getElem?_eq_getElem TB,fun e he hb=>?_⟩;have hes:=ok.Ai i _ (Array.getElem?_eq_getElem TB) e he hb;exact(hl e.on (by omega)).2 hes
  refine⟨fun hnil=>?_,fun i hi=>?_⟩
  ·have:=(Kw k).2 rfl
   rw[hnil]at this;cases this
  ·obtain rfl:=(Kw i).1 hi
   rw[List.range'_succ]at h;refine so.mono i _ _ a w (fun a' w' h'=>?_) h;refine ih (i+1) fuel _ a' w' (by omega) (by omega) (by omega) (by simpa using hs) (fun j hj=>?_) h';by_cases mU:i=j
   ·subst mU
    have:i<listed.size:=by omega
    simp[this]
   ·rw[getD_set_ne false mU,hl j hj];omega
end
end Go.Proofs.YtalombmiochpmaaGreatDoor
namespace Go.Proofs.YtalombmiochpmaaGreatDoor
open Go Go.RowKit
def nJ (md:Region.Mode) (ops:Array Oper) (bM:List Nat) (m:Nat):Bool:=
 Region.noSelect ops&&decide (m<=ops.size)&&(List.range ops.size).all fun i=>match ops[i]? with
  | none=>true
  | some o=>decide (bM.getD i 0<2^i)&&(o.after.all fun e=> !Region.binds md e || decide (e.on<i))&&
   (List.range ops.size).all fun j=>
    (!(bM.getD i 0).testBit j || o.after.any fun e=>Region.binds md e&&(e.on==j || (bM.getD e.on 0).testBit j))&&
    (match di ops j with
     | none=>true
     | some t=>(decide (j<=i) || !(di ops i==some t))&&(!decide (i<m) || !(o.looksAt ops).contains t || ((!decide (j<i) || (bM.getD i 0).testBit j)&&(!decide (i<j) || (bM.getD j 0).testBit i))))&&
    (!(decide (m<=i)&&decide (j<i)) || (bM.getD i 0).testBit j)
theorem Hn {md:Region.Mode} {ops:Array Oper} {bM:List Nat} {m:Nat} (h:nJ md ops bM m=true):s8 md ops (fun i=>bM.getD i 0) m:=by
 unfold nJ at h;rw[Bool.and_eq_true,Bool.and_eq_true,List.all_eq_true]at h;obtain⟨⟨hs,hm⟩,hall⟩:=h
 have hi:∀ (i:Nat) (o:Oper),ops[i]? =some o->bM.getD i 0<2^i/\(∀ e∈o.after,Region.binds md e=true->e.on<i)/\
   ∀ j,j<ops.size->((bM.getD i 0).testBit j=true->∃ e∈o.after,Region.binds md e=true/\(e.on=j\/(bM.getD e.on 0).testBit j=true))/\
    (∀ t,di ops j=some t->(j<=i\/di ops i≠some t)/\(i<m->t∈o.looksAt ops->(j<i->(bM.getD i 0).testBit j=true)/\(i<j->(bM.getD j 0).testBit i=true)))/\
    (m<=i->j<i->(bM.getD i 0).testBit j=true):=by
  intro i o ho;have PK:i<ops.size:=(Array.getElem?_eq_some_iff.1 ho).1;have h1:=hall i (List.mem_range.2 PK);simp only[ho,Bool.and_eq_true,decide_eq_true_eq,List.all_eq_true,Array.all_eq_true_iff_forall_mem]at h1;obtain⟨⟨h1,h2⟩,h3⟩:=h1;refine⟨h1,fun e he hb=>?_,fun j hj=>?_⟩
  ·have:=h2 e he
   rw[hb]at this;simpa using this
  ·obtain⟨⟨h4,h5⟩,h6⟩:=h3 j (List.mem_range.2 hj)
   refine⟨fun hb=>?_,fun t ht=>?_,fun h7 h8=>?_⟩
   ·rw[hb,Bool.or_eq_true]at h4
    obtain⟨e,he,hx⟩:=Array.any_eq_true'.1 (h4.resolve_left (by decide));rw[Bool.and_eq_true,Bool.or_eq_true,beq_iff_eq]at hx;exact⟨e,he,hx.1,hx.2⟩
   ·rw[ht]at h5
    simp only[Bool.and_eq_true,Bool.or_eq_true,decide_eq_true_eq,Bool.not_eq_true',beq_eq_false_iff_ne,decide_eq_false_iff_not]at h5;refine⟨h5.1,fun h7 h8=>?_⟩;rcases h5.2 with(h9 | h9) | h9
    ·exact absurd h7 h9
    ·have:(o.looksAt ops).contains t=true:=List.contains_iff_mem.2 h8
     rw[h9]at this;cases this
    ·exact⟨fun h10=>h9.1.resolve_left (fun h=>h h10),fun h10=>h9.2.resolve_left (fun h=>h h10)⟩
   ·simp only[Bool.or_eq_true,Bool.not_eq_true',Bool.and_eq_false_iff,decide_eq_false_iff_not]at h6
    rcases h6 with(h6 | h6) | h6
    ·exact absurd h7 h6
    ·exact absurd h8 h6
    ·exact h6
 have hd:∀ j t,di ops j=some t->j<ops.size:=fun j t h=>by
  rcases Nat.lt_or_ge j ops.size with h' | h'
  ·exact h'
  ·unfold di at h;rw[Array.getElem?_eq_none h']at h;cases h
 have hlt:∀ (i:Nat) (o:Oper) (j:Nat),ops[i]? =some o->(bM.getD i 0).testBit j=true->j<i:=fun i o j ho hb=>by
  rcases Nat.lt_or_ge j i with h | h
  ·exact h
  ·rw[Nat.testBit_lt_two_pow (Nat.lt_of_lt_of_le (hi i o ho).1 (Nat.pow_le_pow_right (by decide) h))]at hb;cases hb
 exact {
  le:=by simpa using hm
  sel:=fun j o cs b ho=>Region.noSelect_spec hs j o cs b ho
  Ai:=fun i o ho=>(hi i o ho).2.1
  sound:=fun i o j ho hb=>((hi i o ho).2.2 j (by have:=hlt i o j ho hb;have:=(Array.getElem?_eq_some_iff.1 ho).1;omega)).1 hb
  looks:=fun i o t j TC ho ht hj=>(((hi i o ho).2.2 j (hd j t hj)).2.1 t hj).2 TC ht
  PH:=fun i j t mU h1 h2=>by
   obtain⟨o,ho⟩:∃ o,ops[i]? =some o:=⟨_,Array.getElem?_eq_getElem (hd i t h1)⟩;rcases(((hi i o ho).2.2 j (hd j t h2)).2.1 t h2).1 with h | h
   ·omega
   ·exact h h1
  tail:=fun i j h1 h2 h3=>((hi i _ (Array.getElem?_eq_getElem h2)).2.2 j (by omega)).2.2 h1 h3}
def fS:Nat->FuncId->Array Value->Code->Code->World->(Ending->World->Prop)->Prop:=fun _ _ _ _ _ _ _=>False
section
variable {P:Program} {ops:Array Oper} {Q:Exit→Act→World→Prop} {eff:Nat→Bool}
theorem Aj:Ec P (Calls P) fS ops eff (wpOp P ops Q) where
 flt:=fun i o K a w v ho _ hw hf hK=>by
  unfold wpOp;simp only[ho,hw,if_true];refine .inl ?_;unfold Oper.wp;unfold aq at hf;rcases hf with hf | ⟨hf,rfl⟩<;>rw[hf]<;>exact hK
 eff:=fun i o K a w ho _ hw he=>by
  unfold wpOp;simp only[ho,hw,if_true];refine .inl ?_;unfold Oper.wp;generalize (execOp a.eval o).run P w=r at he;cases r with
  | halt x w=>exact he.elim
  | ok x w=>
   cases x<;>simp only[kQ]at he<;>simp only[Oper.upon]
   case value v=>exact he
   case skip=>exact he
   case enter f args=>exact Calls.mono he fun e w' ⟨v,hv,hK⟩=>by subst hv;exact hK
   case round=>exact he.elim
 un:=fun i o K a w ho hw hK=>by
  unfold wpOp;simp only[ho,hw,Bool.false_eq_true,if_false];exact hK
 mono:=fun i K K' a w h hS=>wpOp_mono h hS
 RU:=fun post post' r h he=>by
  cases r with
  | halt x w=>exact he.elim
  | ok x w=>
   cases x<;>simp only[kQ]at he ⊢
   case value v=>exact h _ _ he
   case skip=>exact h _ _ he
   case enter f args=>exact Calls.mono he fun e w' ⟨v,hv,hK⟩=>⟨v,hv,h _ _ hK⟩
   case round=>exact he
theorem s9 {md:Region.Mode} :∀ (fuel:Nat) (listed:Array Bool) (a:Act) (w:World),PF (wpOp P ops Q) md ops (fun a w=>Q .normal a w) fuel listed a w->wpAny P md ops Q fuel listed a w
 | 0,_,_,_,h=>h
 | fuel+1,_,_,_,h=>⟨h.1,fun i hi=>wpOp_mono (fun a w h=>s9 fuel _ a w h) (h.2 i hi)⟩
theorem xf:∀ (l:List Nat) (a:Act) (w:World),(∀ i∈l,i<ops.size)->wpOps P ops Q l a w->xd (wpOp P ops Q) (fun a w=>Q .normal a w) l a w
 | [],_,_,_,h=>h
 | i::l,a,w,hl,h=>by
  rw[wpOps_cons]at h;exact wpOp_mono (fun a w h=>xf l a w (fun j hj=>hl j (List.mem_cons_of_mem _ hj)) h) h
end
section
variable {P:Program} {Cl:FuncId→Array Value→World→(Ending→World→Prop)→Prop} {Rd:Nat→FuncId→Array Value→Code→Code→World→(Ending→World→Prop)→Prop}
  {ops:Array Oper} {eff:Nat→Bool} {bM:Nat→Nat} {M:World→World→Prop} {EP:Nat→aR M} {C:World→Prop} {Fin:List Oper→Act→World→Prop}
theorem bC {f:FuncId} {args:Array Value} {W:World} {post:Value->World->Prop} (h:Cl f args W fun e w'=>∃ v,e=.returned v/\post v w'):kQ Cl Rd post (.ok (.enter f args) W):=h
end
def aR.xg (M:World->World->Prop) (x:Value):aR M:=⟨fun v=>v=x,fun _ _=>True,x,rfl,fun _ _ _ _ _ _=>trivial⟩
def aR.any (M:World->World->Prop):aR M:=⟨fun _=>True,fun _ _=>True,undef,trivial,fun _ _ _ _ _ _=>trivial⟩
theorem Move.Ky {d:Bool} {T:Nat->Prop} {W W':World} (h:Ext W W'):Move d T W W':=Move.ext h
theorem Move.aj {T:Nat->Prop} {W W':World} (h:Below W.heap.size W W'):Move false T W W':=⟨aa.aj h fun _ hk=>hk.1,fun h=>by cases h⟩
theorem Move.keeps {d:Bool} {T:Nat->Prop} {W W':World} (h:Move d T W W'):aa (fun k=>k<W.heap.size/\¬T k) W W':=h.1
theorem Move.below {d:Bool} {W W':World} (h:Move d (fun _=>False) W W'):Below W.heap.size W W':=(h.1.mono fun _ hk=>⟨hk,fun h=>h⟩:aa (· <W.heap.size) W W').below
theorem Move.size {d:Bool} {T:Nat->Prop} {W W':World} (h:Move d T W W'):W.heap.size<=W'.heap.size:=h.1.size
end Go.Proofs.YtalombmiochpmaaGreatDoor
namespace Go.Proofs.YtalombmiochpmaaGreatDoor.RegG
open Go Go.RowKit
structure aR (M:World->World->Prop) where
 P:Value->Prop
 H:Value->Value->World->Prop
 nH:Value
 pw:P nH
 st:∀ x v W W',M W W'->P v->H x v W->H x v W'
def aR.xg (M:World->World->Prop) (x:Value):aR M:=⟨fun v=>v=x,fun _ _ _=>True,x,rfl,fun _ _ _ _ _ _ _=>trivial⟩
def aR.any (M:World->World->Prop):aR M:=⟨fun _=>True,fun _ _ _=>True,undef,trivial,fun _ _ _ _ _ _ _=>trivial⟩
def dV (s:Option Tmp) (a:Act):Value:=match s with | none=>undef | some t=>a.tmps[t]?.getD undef
theorem rj {s:Option Tmp} {a a':Act} (h:∀ t,s=some t->a.tmps[t]? =a'.tmps[t]?):dV s a=dV s a':=by
 cases s with
 | none=>rfl
 | some t=>unfold dV;simp only;rw[h t rfl]
def Gj (ops:Array Oper) (bM:List Nat) (on:Nat->Option Tmp):Bool:=(List.range ops.size).all fun j=>(List.range j).all fun k=>match on j with
 | some t=> !(di ops k==some t) || (bM.getD j 0).testBit k
 | none=>true
theorem Kz {ops:Array Oper} {bM:List Nat} {on:Nat->Option Tmp} (hz:∀ j,ops.size<=j->on j=none) (h:Gj ops bM on=true):∀ (j t k:Nat),on j=some t->di ops k=some t->k<j->(bM.getD j 0).testBit k=true:=fun j t k ht hk hkj=>by
 unfold Gj at h;have hj:j<ops.size:=by
  rcases Nat.lt_or_ge j ops.size with h' | h'
  ·exact h'
  ·rw[hz j h']at ht;cases ht
 have:=List.all_eq_true.1 (List.all_eq_true.1 h j (List.mem_range.2 hj)) k (List.mem_range.2 hkj);rw[ht,hk]at this;simpa using this
end Go.Proofs.YtalombmiochpmaaGreatDoor.RegG
namespace Go.Proofs.YtalombmiochpmaaGreatDoor.RegZ
open Go Go.RowKit
def PM:Value->Option Nat
 | .pointer (some ⟨b,_,_⟩)=>some b
 | .slice (some ⟨b,_,_⟩) _ _=>some b
 | _=>none
def Gk (W:World) (v:Value) (W':World):Prop:=∃ b,PM v=some b/\W.heap.size<=b/\b<W'.heap.size
def Xk (b:Bool) (F G:Prop):Prop:=match b with | true=>F/\G | false=>G
theorem PN {F G:Prop} :∀ {b:Bool},Xk b F G->G
 | true,h=>h.2
 | false,h=>h
theorem PO {F G:Prop} {b:Bool} (hb:b=true) (h:Xk b F G):F:=by subst hb;exact h.1
def lj (al:Nat->Bool) (m:Nat) (val:Nat->Value):Prop:=∀ j k,j<m->k<m->al j=true->al k=true->j≠k->PM (val j)≠PM (val k)
structure th (al:Nat->Bool) (L:Nat->Prop) (val:Nat->Value) (W:World):Prop where
 old:∀ j,L j->al j=true->∃ b,PM (val j)=some b/\b<W.heap.size
 ne:∀ j k,L j->L k->al j=true->al k=true->j≠k->PM (val j)≠PM (val k)
theorem th.skip {al:Nat->Bool} {L L':Nat->Prop} {val:Nat->Value} {W:World} {i:Nat} (h:th al L val W) (hi:al i=false) (hL:∀ j,L' j->L j\/j=i):th al L' val W:=by
 have key:∀ j,L' j->al j=true->L j:=fun j hj ha=>(hL j hj).resolve_right fun e=>by subst e;rw[hi]at ha;cases ha
 exact⟨fun j hj ha=>h.old j (key j hj ha) ha,fun j k hj hk h1 h2 h3=>h.ne j k (key j hj h1) (key k hk h2) h1 h2 h3⟩
theorem th.step {al:Nat->Bool} {L L':Nat->Prop} {val val':Nat->Value} {W W':World} {i:Nat} (h:th al L val W) (hs:(∃ j,al j=true)->W.heap.size<=W'.heap.size) (hL:∀ j,L' j->L j\/j=i) (hv:∀ j,L j->val' j=val j) (hn:al i=true->Gk W (val' i) W'):th al L' val' W':=by
 have key:∀ j,L j->al j=true->∃ b,PM (val' j)=some b/\b<W.heap.size:=fun j hj ha=>by rw[hv j hj];exact h.old j hj ha
 refine⟨fun j hj ha=>?_,fun j k hj hk h1 h2 h3=>?_⟩
 ·rcases hL j hj with hj | rfl
  ·obtain⟨b,e,hb⟩:=key j hj ha
   exact⟨b,e,Nat.lt_of_lt_of_le hb (hs ⟨j,ha⟩)⟩
  ·obtain⟨b,e,_,hb⟩:=hn ha
   exact⟨_,e,hb⟩
 ·rcases hL j hj with hj | rfl
  ·rcases hL k hk with hk | rfl
   ·rw[hv j hj,hv k hk];exact h.ne j k hj hk h1 h2 h3
   ·obtain⟨b,e,hb⟩:=key j hj h1
    obtain⟨c,e2,hc,_⟩:=hn h2;rw[e,e2];intro e3;injection e3 with e3
    omega
  ·rcases hL k hk with hk | rfl
   ·obtain⟨b,e,hb⟩:=key k hk h2
    obtain⟨c,e2,hc,_⟩:=hn h1;rw[e,e2];intro e3;injection e3 with e3
    omega
   ·exact absurd rfl h3
section
variable {P:Program} {Cl:FuncId→Array Value→World→(Ending→World→Prop)→Prop} {Rd:Nat→FuncId→Array Value→Code→Code→World→(Ending→World→Prop)→Prop}
  {ops:Array Oper} {eff:Nat→Bool} {bM:Nat→Nat} {M:World→World→Prop} {on:Nat→Option Tmp} {EP:Nat→RegG.aR M} {C:World→Prop} {D:Nat→World→Prop} {al:Nat→Bool} {md:Region.Mode} {m:Nat}
def cw (P:Program) (Cl:FuncId->Array Value->World->(Ending->World->Prop)->Prop) (Rd:Nat->FuncId->Array Value->Code->Code->World->(Ending->World->Prop)->Prop) (ops:Array Oper) (eG:Bool) (m:Nat) (s:Option Tmp) (E:RegG.aR M) (C:World->Prop) (D:Nat->World->Prop) (al:Nat->Bool) (o:Oper) (k:Nat) (aJ:List (Nat× (World->Prop))) (a:Act) (K:List (Nat× (World->Prop))->Act->Prop):Prop:=
 if Region.wanted o (yielded ops a.tmps)then
  if eG then(∀ W,C W->D k W->needs m aJ W->kQ Cl Rd (fun v W'=>Xk (al k) (Gk W v W') ((M W W'/\∀ j,j≠k->m.testBit j=false->D j W->D j W')/\E.P v/\E.H (RegG.dV s a) v W')) ((execOp a.eval o).run P W))/\∀ v,E.P v->K ((k,E.H (RegG.dV s a) v)::aJ) (a.put o.dst v)
  else ∃ v,(∀ W,C W->needs m aJ W->aq P o a v W)/\K aJ (a.put o.dst v)
 else K aJ (a.put o.dst undef)
def KC (P:Program) (Cl:FuncId->Array Value->World->(Ending->World->Prop)->Prop) (Rd:Nat->FuncId->Array Value->Code->Code->World->(Ending->World->Prop)->Prop) (ops:Array Oper) (eff:Nat->Bool) (bM:Nat->Nat) (on:Nat->Option Tmp) (EP:Nat->RegG.aR M) (C:World->Prop) (D:Nat->World->Prop) (al:Nat->Bool) (Fin:Act->World->Prop):List Oper->Nat->List (Nat× (World->Prop))->Act->Prop
 | [],_,aJ,a=>∀ W,C W->(∀ x∈aJ,x.2 W)->Fin a W
 | o::rest,k,aJ,a=>cw P Cl Rd ops (eff k) (bM k) (on k) (EP k) C D al o k aJ a (KC P Cl Rd ops eff bM on EP C D al Fin rest (k+1))
def qj (ops:Array Oper) (eff:Nat->Bool) (bM:Nat->Nat) (on:Nat->Option Tmp) (EP:Nat->RegG.aR M) (a:Act) (val:Nat->Value) (i:Nat) (W:World):Prop:=
 ∀ j,j<i->wantedAt ops a val j->eff j=true->(bM i).testBit j=true->(EP j).H (RegG.dV (on j) (fC ops a val j)) (val j) W
def vX (P:Program) (Cl:FuncId->Array Value->World->(Ending->World->Prop)->Prop) (Rd:Nat->FuncId->Array Value->Code->Code->World->(Ending->World->Prop)->Prop) (ops:Array Oper) (eG:Bool) (m:Nat) (s:Option Tmp) (E:RegG.aR M) (C:World->Prop) (D:Nat->World->Prop) (al:Nat->Bool) (k:Nat) (o:Oper) (f:Act) (v uv:Value) (N:World->Prop):Prop:=
 if Region.wanted o (yielded ops f.tmps)then
  if eG then v=uv/\∀ W,C W->D k W->N W->kQ Cl Rd (fun v W'=>Xk (al k) (Gk W v W') ((M W W'/\∀ j,j≠k->m.testBit j=false->D j W->D j W')/\E.P v/\E.H (RegG.dV s f) v W')) ((execOp f.eval o).run P W)
  else ∀ W,C W->N W->aq P o f v W
 else v=undef
def Ak (P:Program) (Cl:FuncId->Array Value->World->(Ending->World->Prop)->Prop) (Rd:Nat->FuncId->Array Value->Code->Code->World->(Ending->World->Prop)->Prop) (ops:Array Oper) (eff:Nat->Bool) (bM:Nat->Nat) (on:Nat->Option Tmp) (EP:Nat->RegG.aR M) (C:World->Prop) (D:Nat->World->Prop) (al:Nat->Bool) (a:Act) (u val:Nat->Value) (i:Nat):Prop:=
 ∀ o,ops[i]? =some o->vX P Cl Rd ops (eff i) (bM i) (on i) (EP i) C D al i o (fC ops a val i) (val i) (u i) (qj ops eff bM on EP a val i)
theorem nI {a:Act} {val val':Nat->Value} {i:Nat} (h:∀ k,k<i->val k=val' k):qj ops eff bM on EP a val i=qj ops eff bM on EP a val' i:=by
 funext W
 unfold qj;refine propext (forall_congr' fun j=>forall_congr' fun hj=>?_);rw[ia (val':=val') fun k hk=>h k (by omega),ej j fun k hk=>h k (by omega),h j hj]
theorem Ee {a:Act} {u val val':Nat->Value} {i:Nat} (h:∀ k,k<=i->val k=val' k) (hb:Ak P Cl Rd ops eff bM on EP C D al a u val i):Ak P Cl Rd ops eff bM on EP C D al a u val' i:=fun o ho=>by
 have:=hb o ho;rwa[ej i fun k hk=>h k (by omega),nI fun k hk=>h k (by omega),h i (Nat.le_refl _)]at this
theorem branch {Fin:Act->World->Prop} {a:Act} {u:Nat->Value} (hu:∀ j,(EP j).P (u j)):∀ (l:List Oper) (k:Nat) (val:Nat->Value) (aJ:List (Nat× (World->Prop))), k+l.length=m->(∀ j,j<l.length->l[j]? =ops[k+j]?)->(∀ x∈aJ,∃ j,j<k/\wantedAt ops a val j/\eff j=true/\x.1=j/\x.2=(EP j).H (RegG.dV (on j) (fC ops a val j)) (val j))-> (∀ i,i<k->Ak P Cl Rd ops eff bM on EP C D al a u val i)->KC P Cl Rd ops eff bM on EP C D al Fin l k aJ (fC ops a val k)-> ∃ val',(∀ i,i<m->Ak P Cl Rd ops eff bM on EP C D al a u val' i)/\∀ W,C W->(∀ j,j<m->wantedAt ops a val' j->eff j=true->(EP j).H (RegG.dV (on j) (fC ops a val' j)) (val' j) W)->Fin (fC ops a val' m) W
 | [],k,val,aJ,hk,_,hh,hb,h=>by
  obtain rfl:k=m:=by simpa using hk
  refine⟨val,hb,fun W hW hN=>h W hW fun x hx=>?_⟩;obtain⟨j,hj,hw,he,_,hx2⟩:=hh x hx;rw[hx2];exact hN j hj hw he
 | o::l,k,val,aJ,hk,hl,hh,hb,h=>by
  have ho:ops[k]? =some o:=by simpa using(hl 0 (by simp)).symm
  have step:∀ (v:Value) (Gl:List (Nat× (World->Prop))),vX P Cl Rd ops (eff k) (bM k) (on k) (EP k) C D al k o (fC ops a val k) v (u k) (qj ops eff bM on EP a val k)->
    (∀ x∈Gl,x∈aJ\/(Region.wanted o (yielded ops (fC ops a val k).tmps)=true/\eff k=true/\x.1=k/\x.2=(EP k).H (RegG.dV (on k) (fC ops a val k)) v))->KC P Cl Rd ops eff bM on EP C D al Fin l (k+1) Gl ((fC ops a val k).put o.dst v)->
    ∃ val',(∀ i,i<m->Ak P Cl Rd ops eff bM on EP C D al a u val' i)/\∀ W,C W->(∀ j,j<m->wantedAt ops a val' j->eff j=true->(EP j).H (RegG.dV (on j) (fC ops a val' j)) (val' j) W)->Fin (fC ops a val' m) W:=by
   intro v Gl tj hh' ht;obtain⟨Al,RV⟩:∃ Al:Nat->Value,Al=fun j=>if j=k then v else val j:=⟨_,rfl⟩
   have e1:∀ j,j<k->val j=Al j:=fun j hj=>by rw[RV];simp[show j≠k by omega]
   have ek:Al k=v:=by rw[RV];simp
   refine branch hu l (k+1) Al Gl (by simp at hk;omega) (fun j hj=>?_) (fun x hx=>?_) (fun i hi=>?_) ?_
   ·have:=hl (j+1) (by simp;omega)
    rw[List.getElem?_cons_succ]at this;rw[this];congr 1;omega
   ·rcases hh' x hx with hx | ⟨h1,h2,h3,h4⟩
    ·obtain⟨j,hj,hw,he,h1,h2⟩:=hh x hx
     exact⟨j,by omega,(ia fun i hi=>e1 i (by omega)).1 hw,he,h1,by rw[h2,e1 j hj,ej j fun i hi=>e1 i (by omega)]⟩
    ·exact⟨k,by omega,⟨o,ho,by rw[<-ej k e1];exact h1⟩,h2,h3,by rw[h4,ek,ej k e1]⟩
   ·by_cases hik:i=k
    ·subst hik
     intro o' JZ;rw[ho]at JZ;cases JZ;rw[<-ej i e1,ek, <-nI e1];exact tj
    ·exact Ee (fun j hj=>e1 j (by omega)) (hb i (by omega))
   ·have:fC ops a Al (k+1)=(fC ops a val k).put o.dst v:=by
     show(fC ops a Al k).put (di ops k) (Al k)=_;rw[<-ej k e1,ek];unfold di;rw[ho];rfl
    rw[this];exact ht
  have KD:∀ W,qj ops eff bM on EP a val k W->needs (bM k) aJ W:=fun W hN x hx hm=>by
   obtain⟨j,hj,hw,he,h1,h2⟩:=hh x hx;rw[h2];rw[h1]at hm;exact hN j hj hw he hm
  unfold KC cw at h;split at h
  ·rename_i hw
   split at h
   ·rename_i he
    refine step (u k) _ ?_ ?_ (h.2 (u k) (hu k))
    ·unfold vX;rw[if_pos hw,if_pos he];exact⟨rfl,fun W hW hD hN=>h.1 W hW hD (KD W hN)⟩
    ·intro x hx
     rcases List.mem_cons.1 hx with rfl | hx
     ·exact .inr ⟨hw,he,rfl,rfl⟩
     ·exact .inl hx
   ·rename_i he
    obtain⟨v,h1,h2⟩:=h;refine step v _ ?_ (fun x hx=>.inl hx) h2;unfold vX;rw[if_pos hw,if_neg he];exact fun W hW hN=>h1 W hW (KD W hN)
  ·rename_i hw
   refine step undef _ ?_ (fun x hx=>.inl hx) h;unfold vX;rw[if_neg hw]
variable {S:Nat→(Act→World→Prop)→Act→World→Prop} {Qn:Act→World→Prop}
theorem KH (my:∀ (i:Nat) (o:Oper),ops[i]? =some o->al i=true->eff i=true/\∀ y,Region.wanted o y=true) (hMs:(∃ j,al j=true)->∀ A B,M A B->A.heap.size<=B.heap.size) (ok:s8 md ops bM m) (so:Ec P Cl Rd ops eff S) (hO:∀ (j t k:Nat),on j=some t->di ops k=some t->k<j->(bM j).testBit k=true) (hCm:∀ W W',C W->M W W'->C W') {a0:Act} (hT:∀ u:Nat->Value,(∀ j,(EP j).P (u j))->∃ val,(∀ i,i<m->Ak P Cl Rd ops eff bM on EP C D al a0 u val i)/\∀ W,C W->(∀ j,j<m->wantedAt ops a0 val j->eff j=true->(EP j).H (RegG.dV (on j) (fC ops a0 val j)) (val j) W)->lj al m val->xd S Qn (List.range' m (ops.size-m)) (fC ops a0 val m) W): ∀ (fuel:Nat) (listed:Array Bool) (a:Act) (W:World),listed.size=ops.size->listed.toList.count false<=fuel->C W-> (∀ i j,listed.getD i false=true->(bM i).testBit j=true->listed.getD j false=true)->(∀ i,m<=i->listed.getD i false=false)->(∀ i,¬listed.getD i false=true->i<m->D i W)-> (∃ u val,(∀ j,(EP j).P (u j))/\(∀ i,i<m->Ak P Cl Rd ops eff bM on EP C D al a0 u val i)/\ (∀ W,C W->(∀ j,j<m->wantedAt ops a0 val j->eff j=true->(EP j).H (RegG.dV (on j) (fC ops a0 val j)) (val j) W)->lj al m val->xd S Qn (List.range' m (ops.size-m)) (fC ops a0 val m) W)/\ (∀ j,listed.getD j false=true->wantedAt ops a0 val j->eff j=true->(EP j).H (RegG.dV (on j) (fC ops a0 val j)) (val j) W)/\Gi ops a0 (fun j=>listed.getD j false=true) val a/\th al (fun j=>listed.getD j false=true) val W)-> PF S md ops Qn fuel listed a W:=by
 intro fuel;induction fuel with
 | zero=>
  intro listed a W hs hc hC rr xh jR hex
  -- nothing is left
  obtain⟨u,val,hu,hb,oK,hH,xi,hold⟩:=hex;have hall:∀ j,j<ops.size->listed.getD j false=true:=fun j hj=>by
   rcases Ed (listed:=listed) (j:=j) (by omega)with h | h
   ·exact h
   ·have h0:listed.toList.count false=0:=by omega
    rw[List.count_eq_zero]at h0;have Kv:j<listed.size:=by omega
    refine absurd ?_ h0;have:listed[j]=false:=by simpa[Kv]using h
    rw[<-this];exact Array.getElem_mem_toList Kv
  have hm:m=ops.size:=by
   rcases Nat.lt_or_ge m ops.size with h | h
   ·have h1:=hall m h;rw[xh m (Nat.le_refl _)]at h1;cases h1
   ·have:=ok.le;omega
  have hae:a=fC ops a0 val m:=by
   have h2:=ok.fC a0 val m;have:a.tmps=(fC ops a0 val m).tmps:=Array.ext_getElem? fun t=>xi.agree h2 fun j hj=>by
    have Xj:j<ops.size:=by
     rcases Nat.lt_or_ge j ops.size with h | h
     ·exact h
     ·unfold di at hj;rw[Array.getElem?_eq_none h]at hj;cases hj
    exact⟨⟨fun _=>by omega,fun _=>hall j Xj⟩,fun _=>rfl⟩
   cases a
   have hd:=xi.defers.trans h2.defers.symm;cases hf:fC ops a0 val m;rw[hf]at this hd;simp only at this hd;rw[this,hd]
  refine xe ok so 0 ops.size 0 listed a W (by omega) (by omega) (Nat.le_refl _) hs (fun j hj=>⟨fun _=>hj,fun _=>hall j hj⟩) ?_;have:=oK W hC (fun j hj=>hH j (hall j (by omega))) fun j k hj hk=>hold.ne j k (hall j (by omega)) (hall k (by omega))
  rw[hae];rw[hm,Nat.sub_self]at this;rw[hm];exact this
 | succ fuel ih=>
  intro listed a W hs hc hC rr xh jR hex;obtain⟨u,val,hu,hb,oK,hH,xi,hold⟩:=hex;by_cases hall:∀ j,j<m->listed.getD j false=true
  ·have hae:a=fC ops a0 val m:=by
    have h2:=ok.fC a0 val m;have:a.tmps=(fC ops a0 val m).tmps:=Array.ext_getElem? fun t=>xi.agree h2 fun j hj=>by
     refine⟨⟨fun hj'=>?_,fun hj'=>hall j hj'⟩,fun _=>rfl⟩;rcases Nat.lt_or_ge j m with h | h
     ·exact h
     ·rw[xh j h]at hj';cases hj'
    cases a
    have hd:=xi.defers.trans h2.defers.symm;cases hf:fC ops a0 val m;rw[hf]at this hd;simp only at this hd;rw[this,hd]
   have TE:ops.size-m<=fuel+1:=by
    refine Nat.le_trans ?_ hc;have h1:(listed.toList.drop m).count false=(listed.toList.drop m).length:=by
     rw[List.count_eq_length];intro b hb';obtain⟨k,hk,rfl⟩:=List.getElem_of_mem hb';rw[List.getElem_drop];have s5:m+k<listed.size:=by simp at hk;omega
     have:=xh (m+k) (by omega);simp[s5]at this;simp[this]
    have h2:(listed.toList.drop m).count false<=listed.toList.count false:=List.Sublist.count_le _ (List.drop_sublist _ _);rw[h1]at h2;simp at h2 ⊢;omega
   refine xe ok so (ops.size-m) m (fuel+1) listed a W (Nat.le_refl _) (by have:=ok.le;omega) TE hs (fun j hj=>⟨fun h=>?_,fun h=>hall j h⟩) ?_
   ·rcases Nat.lt_or_ge j m with h' | h'
    ·exact h'
    ·rw[xh j h']at h;cases h
   ·rw[hae];exact oK W hC (fun j hj=>hH j (hall j hj)) fun j k hj hk=>hold.ne j k (hall j hj) (hall k hk)
  ·-- some operation of the free part is still to come
   have hex:∃ j,j<m/\¬listed.getD j false=true:=by refine Classical.byContradiction fun hno=>hall fun j hj=>Classical.byContradiction fun hn=>hno ⟨j,hj,hn⟩
   refine⟨fun hnil=>?_,fun i hi=>?_⟩
   ·exfalso
    -- the first of them is ready
    have key:∀ k,k<m->¬listed.getD k false=true->False:=by
     intro k;induction k using Nat.strongRecOn with
     | ind k ihk=>
      intro hk hn;have TB:k<ops.size:=by have:=ok.le;omega
      have Dr:k<listed.size:=by omega
      have:k∈Region.ready md ops listed:=by rw[mem_ready];refine⟨by simp[Dr]at hn ⊢;exact hn,_,Array.getElem?_eq_getElem TB,fun e he hb'=>?_⟩;have hes:=ok.Ai k _ (Array.getElem?_eq_getElem TB) e he hb';exact Classical.byContradiction fun h=>ihk e.on hes (by omega) h
      rw[hnil]at this;cases this
    obtain⟨j,hj,hn⟩:=hex;exact key j hj hn
   ·obtain⟨h1,o,ho,KM⟩:=mem_ready.1 hi
    have PK:i<ops.size:=(Array.getElem?_eq_some_iff.1 ho).1;have ib:i<listed.size:=by omega
    have iM:¬listed.getD i false=true:=by simp[ib]at h1 ⊢;exact h1
    have Ef:∀ j,(bM i).testBit j=true->listed.getD j false=true:=fun j hj=>by
     obtain⟨e,he,hb',jg⟩:=ok.sound i o j ho hj;rcases jg with rfl | jg
     ·exact KM e he hb'
     ·exact rr e.on j (KM e he hb') jg
    have TC:i<m:=by
     rcases Nat.lt_or_ge i m with h | h
     ·exact h
     ·exfalso
      obtain⟨j,hj,hn⟩:=hex;exact hn (Ef j (ok.tail i j h PK (by omega)))
    have abY:di ops i=o.dst:=by unfold di;rw[ho];rfl
    -- the frame where it looks
    have xj:∀ t,t∈o.looksAt ops->a.tmps[t]? =(fC ops a0 val i).tmps[t]? :=fun t ht=>xi.agree (ok.fC a0 val i) fun j hj=>by
     obtain⟨k1,k2⟩:=ok.looks i o t j TC ho ht hj;refine⟨⟨fun Kv=>?_,fun jT=>Ef j (k1 jT)⟩,fun _=>rfl⟩;rcases Nat.lt_trichotomy j i with h | h | h
     ·exact h
     ·subst h;exact absurd Kv iM
     ·exact absurd (rr j i Kv (k2 h)) iM
    obtain⟨Xl,TF⟩:=ql (ok.sel i o · · ho) xj;have hN:qj ops eff bM on EP a0 val i W:=fun j _ hw he ha=>hH j (Ef j ha) hw he
    have RY:=hb i TC o ho
    -- what follows
    have hs':(listed.setIfInBounds i true).size=ops.size:=by simpa using hs
    have hc':(listed.setIfInBounds i true).toList.count false<=fuel:=by rw[Array.toList_setIfInBounds];have:=count_set listed.toList i (by simp[ib]at h1;simp[ib,h1]);omega
    have qm:∀ j,(listed.setIfInBounds i true).getD j false=true↔(listed.getD j false=true\/j=i):=fun j=>by
     by_cases mU:i=j
     ·subst mU;simp[ib]
     ·rw[getD_set_ne false mU]
      constructor
      ·exact .inl
      ·rintro(h | h)
       ·exact h
       ·exact absurd h.symm mU
    have Eg:∀ k j,(listed.setIfInBounds i true).getD k false=true->(bM k).testBit j=true->(listed.setIfInBounds i true).getD j false=true:=fun k j hk hj=>by
     rw[qm]at hk ⊢;rcases hk with hk | rfl
     ·exact .inl (rr k j hk hj)
     ·exact .inl (Ef j hj)
    have TG:∀ k,m<=k->(listed.setIfInBounds i true).getD k false=false:=fun k hk=>by
     rw[getD_set_ne false (by omega)];exact xh k hk
    have hput:∀ (val':Nat->Value),(∀ j,listed.getD j false=true->val' j=val j)->Gi ops a0 (fun j=>(listed.setIfInBounds i true).getD j false=true) val' (a.put o.dst (val' i)):=fun val' hv=>by
     have h0:Gi ops a0 (fun j=>listed.getD j false=true) val' a:=⟨xi.defers,xi.size,xi.old,fun j t h1 h2 h3=>by rw[hv j h1];exact xi.new j t h1 h2 h3⟩;have:=h0.put (L':=fun j=>(listed.setIfInBounds i true).getD j false=true) i qm fun j t g1 g2 g3=>by
      rcases Nat.lt_trichotomy j i with h | h | h
      ·exact ok.PH j i t h g2 g3
      ·exact iM (h▸g1)
      ·exact ok.PH i j t h g3 g2
     rwa[abY]at this
    unfold vX at RY;by_cases hw:Region.wanted o (yielded ops (fC ops a0 val i).tmps)=true
    ·rw[if_pos hw]at RY
     cases he:eff i with
     | false=>
      rw[he,if_neg (by decide)]at RY;have tk:=RY W hC hN;unfold aq at tk;rw[<-Xl]at tk;refine so.flt i o _ a W (val i) ho he (by rw[TF];exact hw) tk ?_;refine ih _ _ W hs' hc' hC Eg TG (fun j hj Dt=>jR j (fun h=>hj ((qm j).2 (.inl h))) Dt) ⟨u,val,hu,hb,oK,fun j hj PQ yB=>?_,hput val fun _ _=>rfl,hold.skip (Bool.eq_false_iff.2 fun ha=>by rw[(my i o ho ha).1]at he;cases he) fun j hj=>(qm j).1 hj⟩;rcases(qm j).1 hj with hj | rfl
      ·exact hH j hj PQ yB
      ·rw[he]at yB;cases yB
     | true=>
      rw[he,if_pos rfl]at RY;have hef:=RY.2 W hC (jR i iM TC) hN;rw[<-Xl]at hef;refine so.eff i o _ a W ho he (by rw[TF];exact hw) (so.RU _ _ _ (fun v W' Xm=>?_) hef);obtain⟨⟨Gm,hDv⟩,hPv,hHv⟩:=PN Xm
      -- another branch
      obtain⟨u',TH⟩:∃ u':Nat->Value,u'=fun j=>if j=i then v else u j:=⟨_,rfl⟩
      have RZ:∀ j,(EP j).P (u' j):=fun j=>by
       rw[TH];show(EP j).P (if j=i then v else u j);split
       ·rename_i h;subst h;exact hPv
       ·exact hu j
      obtain⟨val',hb',Xn⟩:=hT u' RZ;have Ab:=hCm W W' hC Gm;have tu:∀ j,listed.getD j false=true->val' j=val j/\(wantedAt ops a0 val' j↔wantedAt ops a0 val j)/\RegG.dV (on j) (fC ops a0 val' j)=RegG.dV (on j) (fC ops a0 val j):=by
       intro j;induction j using Nat.strongRecOn with
       | ind j ihj=>
        intro hj;have Dt:j<m:=by
         rcases Nat.lt_or_ge j m with h | h
         ·exact h
         ·rw[xh j h]at hj;cases hj
        have Xj:j<ops.size:=by have:=ok.le;omega
        have vT:=Array.getElem?_eq_getElem Xj;obtain⟨oj,s4⟩:∃ oj,ops[j]? =some oj:=⟨_,vT⟩;have hlk:∀ t,t∈oj.looksAt ops->(fC ops a0 val' j).tmps[t]? =(fC ops a0 val j).tmps[t]? :=fun t ht=>(ok.fC a0 val' j).agree (ok.fC a0 val j) fun k hk=>by
         refine⟨Iff.rfl,fun hkj=>(ihj k hkj ?_).1⟩;exact rr j k hj ((ok.looks j oj t k Dt s4 ht hk).1 hkj)
        obtain⟨he1,Xo⟩:=ql (ok.sel j oj · · s4) hlk;have Xp:wantedAt ops a0 val' j↔wantedAt ops a0 val j:=by
         unfold wantedAt;constructor
         ·rintro⟨o1,h1,h2⟩
          rw[s4]at h1;cases h1;exact⟨oj,s4,by rw[<-Xo];exact h2⟩
         ·rintro⟨o1,h1,h2⟩
          rw[s4]at h1;cases h1;exact⟨oj,s4,by rw[Xo];exact h2⟩
        refine⟨?_,Xp,RegG.rj fun t ht=>(ok.fC a0 val' j).agree (ok.fC a0 val j) fun k hk=>⟨Iff.rfl,fun hkj=>(ihj k hkj (rr j k hj (hO j t k ht hk hkj))).1⟩⟩;have b1:=hb j Dt oj s4;have b2:=hb' j Dt oj s4;unfold vX at b1 b2;rw[Xo]at b2;by_cases PQ:Region.wanted oj (yielded ops (fC ops a0 val j).tmps)=true
        ·rw[if_pos PQ]at b1 b2
         cases yB:eff j with
         | true=>
          rw[yB,if_pos rfl]at b1 b2;have jT:j≠i:=fun h=>by subst h;exact iM hj
          rw[b1.1,b2.1,TH];simp[jT]
         | false=>
          rw[yB,if_neg (by decide)]at b1 b2;have n1:qj ops eff bM on EP a0 val j W':=fun k hk hwk Hl hak=>by
           have Dr:=rr j k hj hak;have hPk:(EP k).P (val k):=by have bk:=hb k (by omega);obtain⟨ok',tj,ab0⟩:=hwk;have:=bk ok' tj;unfold vX at this;rw[if_pos ab0,Hl,if_pos rfl]at this;rw[this.1];exact hu k
           exact(EP k).st _ _ W W' Gm hPk (hH k Dr hwk Hl)
          have n2:qj ops eff bM on EP a0 val' j W':=fun k hk hwk Hl hak=>by
           obtain⟨s1,s2,s3⟩:=ihj k hk (rr j k hj hak);rw[s1,s3];exact n1 k hk (s2.1 hwk) Hl hak
          have f1:=b1 W' Ab n1;have f2:=b2 W' Ab n2;unfold aq at f1 f2;rw[he1]at f2;rcases f1 with f1 | ⟨f1,g1⟩<;>rcases f2 with f2 | ⟨f2,g2⟩<;>rw[f1]at f2
          ·injection f2 with f2 _;injection f2 with f2;exact f2.symm
          ·injection f2 with f2 _;cases f2
          ·injection f2 with f2 _;cases f2
          ·rw[g1,g2]
        ·rw[if_neg PQ]at b1 b2
         rw[b1,b2]
      have ab1:RegG.dV (on i) (fC ops a0 val' i)=RegG.dV (on i) (fC ops a0 val i):=RegG.rj fun t ht=>(ok.fC a0 val' i).agree (ok.fC a0 val i) fun k hk=>
        ⟨Iff.rfl,fun eT=>(tu k (Ef k (hO i t k ht hk eT))).1⟩
      have hvi:val' i=v:=by
       have b2:=hb' i TC o ho;have hlk:∀ t,t∈o.looksAt ops->(fC ops a0 val' i).tmps[t]? =(fC ops a0 val i).tmps[t]? :=fun t ht=>(ok.fC a0 val' i).agree (ok.fC a0 val i) fun k hk=>
        ⟨Iff.rfl,fun eT=>(tu k (Ef k ((ok.looks i o t k TC ho ht hk).1 eT))).1⟩
       obtain⟨_,Xo⟩:=ql (ok.sel i o · · ho) hlk;unfold vX at b2;rw[Xo,if_pos hw,he,if_pos rfl]at b2;rw[b2.1,TH];simp
      have:=hput val' fun j hj=>(tu j hj).1
      rw[hvi]at this;refine ih _ _ W' hs' hc' Ab Eg TG (fun j hj Dt=>hDv j (fun e=>hj ((qm j).2 (.inr e))) (Bool.eq_false_iff.2 fun e=>hj ((qm j).2 (.inl (Ef j e)))) (jR j (fun h=>hj ((qm j).2 (.inl h))) Dt)) ⟨u',val',RZ,hb',Xn,fun j hj PQ yB=>?_,this,hold.step (fun h=>hMs h _ _ Gm) (fun j hj=>(qm j).1 hj) (fun j hj=>(tu j hj).1) (fun ha=>by rw[hvi];exact PO ha Xm)⟩;rcases(qm j).1 hj with hj | rfl
      ·obtain⟨s1,s2,s3⟩:=tu j hj
       have Xq:=s2.1 PQ;have hPj:(EP j).P (val j):=by
        have Dt:j<m:=by
         rcases Nat.lt_or_ge j m with h | h
         ·exact h
         ·rw[xh j h]at hj;cases hj
        obtain⟨oj,vT,TJ⟩:=Xq;have:=hb j Dt oj vT;unfold vX at this;rw[if_pos TJ,yB,if_pos rfl]at this;rw[this.1];exact hu j
       rw[s1,s3];exact(EP j).st _ _ W W' Gm hPj (hH j hj Xq yB)
      ·rw[hvi,ab1];exact hHv
    ·rw[if_neg hw]at RY
     have hwf:Region.wanted o (yielded ops a.tmps)=false:=by rw[TF];simpa using hw
     refine so.un i o _ a W ho hwf ?_;have h0:=hput val fun _ _=>rfl
     rw[RY]at h0;refine ih _ _ W hs' hc' hC Eg TG (fun j hj Dt=>jR j (fun h=>hj ((qm j).2 (.inl h))) Dt) ⟨u,val,hu,hb,oK,fun j hj PQ yB=>?_,h0,hold.skip (Bool.eq_false_iff.2 fun ha=>hw ((my i o ho ha).2 _)) fun j hj=>(qm j).1 hj⟩;rcases(qm j).1 hj with hj | rfl
     ·exact hH j hj PQ yB
     ·obtain⟨oj,vT,TJ⟩:=PQ
      rw[ho]at vT;cases vT;exact absurd TJ hw
end
section
variable {P:Program} {Cl:FuncId→Array Value→World→(Ending→World→Prop)→Prop} {Rd:Nat→FuncId→Array Value→Code→Code→World→(Ending→World→Prop)→Prop}
  {ops:Array Oper} {eff:Nat→Bool} {bM:Nat→Nat} {M:World→World→Prop} {on:Nat→Option Tmp} {EP:Nat→RegG.aR M} {C:World→Prop} {D:Nat→World→Prop} {al:Nat→Bool} {Fin:List Oper→Act→World→Prop}
def fy (P:Program) (Cl:FuncId->Array Value->World->(Ending->World->Prop)->Prop) (Rd:Nat->FuncId->Array Value->Code->Code->World->(Ending->World->Prop)->Prop) (ops:Array Oper) (eff:Nat->Bool) (bM:Nat->Nat) (on:Nat->Option Tmp) (EP:Nat->RegG.aR M) (C:World->Prop) (D:Nat->World->Prop) (al:Nat->Bool) (Fin:List Oper->Act->World->Prop):Nat->List Oper->Nat->List (Nat× (World->Prop))->Act->Prop
 | 0,l,_,aJ,a=>∀ W,C W->(∀ x∈aJ,x.2 W)->Fin l a W
 | _+1,[],_,_,_=>False
 | m+1,o::rest,k,aJ,a=>cw P Cl Rd ops (eff k) (bM k) (on k) (EP k) C D al o k aJ a (fy P Cl Rd ops eff bM on EP C D al Fin m rest (k+1))
theorem Eh {eG:Bool} {m:Nat} {s:Option Tmp} {E:RegG.aR M} {o:Oper} {k:Nat} {aJ:List (Nat× (World->Prop))} {a:Act} {K K':List (Nat× (World->Prop))->Act->Prop} (h:∀ hi a,K hi a->K' hi a) (hh:cw P Cl Rd ops eG m s E C D al o k aJ a K):cw P Cl Rd ops eG m s E C D al o k aJ a K':=by
 unfold cw at*;split
 ·rename_i hw
  rw[if_pos hw]at hh;split
  ·rename_i he
   rw[if_pos he]at hh;exact⟨hh.1,fun v hv=>h _ _ (hh.2 v hv)⟩
  ·rename_i he
   rw[if_neg he]at hh;obtain⟨v,h1,h2⟩:=hh;exact⟨v,h1,h _ _ h2⟩
 ·rename_i hw
  rw[if_neg hw]at hh;exact h _ _ hh
theorem oL:∀ (m:Nat) (l:List Oper) (k:Nat) (aJ:List (Nat× (World->Prop))) (a:Act),fy P Cl Rd ops eff bM on EP C D al Fin m l k aJ a->KC P Cl Rd ops eff bM on EP C D al (Fin (l.drop m)) (l.take m) k aJ a
 | 0,l,_,_,_,h=>by rw[List.take_zero,List.drop_zero];exact h
 | m+1,[],_,_,_,h=>h.elim
 | m+1,o::l,k,aJ,a,h=>by
  rw[List.take_succ_cons,List.drop_succ_cons];exact Eh (fun hi a h=>oL m l (k+1) hi a h) h
theorem ae {m:Nat} {o:Oper} {rest:List Oper} {k:Nat} {aJ:List (Nat× (World->Prop))} {a:Act} (h:∀ K:List (Nat× (World->Prop))->Act->Prop,(∀ hi a,dK (fy P Cl Rd ops eff bM on EP C D al Fin m rest (k+1) hi a)->K hi a)->cw P Cl Rd ops (eff k) (bM k) (on k) (EP k) C D al o k aJ a K):dK (fy P Cl Rd ops eff bM on EP C D al Fin (m+1) (o::rest) k aJ a):=
 ⟨h _ fun _ _ h=>h.out⟩
theorem aV {l:List Oper} {k:Nat} {aJ:List (Nat× (World->Prop))} {a:Act} (h:∀ W,C W->(∀ x∈aJ,x.2 W)->Fin l a W):dK (fy P Cl Rd ops eff bM on EP C D al Fin 0 l k aJ a):=⟨h⟩
theorem aX {eG:Bool} {m:Nat} {s:Option Tmp} {E:RegG.aR M} {o:Oper} {k:Nat} {aJ:List (Nat× (World->Prop))} {a:Act} {K:List (Nat× (World->Prop))->Act->Prop} (he:eG=false) (hw:Region.wanted o (yielded ops a.tmps)=true) (h:∃ v,(∀ W: {W//C W},aq P o a v W.1)/\K aJ (a.put o.dst v)):cw P Cl Rd ops eG m s E C D al o k aJ a K:=by subst he;unfold cw;rw[if_pos hw,if_neg (by decide)];obtain⟨v,h1,h2⟩:=h;exact⟨v,fun W hW _=>h1 ⟨W,hW⟩,h2⟩
theorem Am {eG:Bool} {m:Nat} {s:Option Tmp} {E:RegG.aR M} {o:Oper} {k:Nat} {aJ:List (Nat× (World->Prop))} {a:Act} {K:List (Nat× (World->Prop))->Act->Prop} (he:eG=false) (hw:Region.wanted o (yielded ops a.tmps)=true) (v:Value) (h1:∀ W,C W->needs m aJ W->aq P o a v W) (h2:K aJ (a.put o.dst v)):cw P Cl Rd ops eG m s E C D al o k aJ a K:=by subst he;unfold cw;rw[if_pos hw,if_neg (by decide)];exact⟨v,h1,h2⟩
theorem bH {eG:Bool} {m:Nat} {s:Option Tmp} {E:RegG.aR M} {o:Oper} {k:Nat} {aJ:List (Nat× (World->Prop))} {a:Act} {K:List (Nat× (World->Prop))->Act->Prop} (he:eG=true) (hw:Region.wanted o (yielded ops a.tmps)=true) (E':RegG.aR M) (hE:E=E') (h1:∀ W,C W->D k W->needs m aJ W->kQ Cl Rd (fun v W'=>Xk (al k) (Gk W v W') ((M W W'/\∀ j,j≠k->m.testBit j=false->D j W->D j W')/\E'.P v/\E'.H (RegG.dV s a) v W')) ((execOp a.eval o).run P W)) (h2:∀ v,E'.P v->K ((k,E'.H (RegG.dV s a) v)::aJ) (a.put o.dst v)):cw P Cl Rd ops eG m s E C D al o k aJ a K:=by subst he hE;unfold cw;rw[if_pos hw,if_pos rfl];exact⟨h1,h2⟩
theorem bp {eG:Bool} {m:Nat} {s:Option Tmp} {E:RegG.aR M} {o:Oper} {k:Nat} {aJ:List (Nat× (World->Prop))} {a:Act} {K:List (Nat× (World->Prop))->Act->Prop} (hw:Region.wanted o (yielded ops a.tmps)=false) (h:K aJ (a.put o.dst undef)):cw P Cl Rd ops eG m s E C D al o k aJ a K:=by unfold cw;rw[hw,if_neg (by decide)];exact h
end
def R8 (ops:Array Oper) (eff:Nat->Bool) (al:List Nat) (m:Nat):Bool:=
 al.all fun i=>decide (i<m)&&eff i&&match ops[i]? with
  | none=>false
  | some o=>o.guard.isNone
theorem tz {ops:Array Oper} {eff:Nat->Bool} {al:List Nat} {m:Nat} (h:R8 ops eff al m=true) (i:Nat) (hi:al.contains i=true):i<m/\eff i=true/\∃ o,ops[i]? =some o/\o.guard=none:=by
 have h1:=List.all_eq_true.1 h i (List.contains_iff_mem.1 hi);simp only[Bool.and_eq_true,decide_eq_true_eq]at h1;obtain⟨⟨h1,h2⟩,h3⟩:=h1;refine⟨h1,h2,?_⟩;split at h3
 ·cases h3
 ·rename_i o ho
  exact⟨o,ho,Option.isNone_iff_eq_none.1 h3⟩
def TK (ops:Array Oper) (al:List Nat) (a:Act):Prop:=∀ i j s t u v,al.contains i=true->al.contains j=true->i≠j->di ops i=some s->di ops j=some t->s<a.tmps.size->t<a.tmps.size->a.tmps[s]? =some u->a.tmps[t]? =some v->PM u≠PM v
theorem lu {P:Program} {id:Nat} {Q:Exit->Act->World->Prop} {a:Act} {w:World} {l:List Oper} (M:World->World->Prop) (hd:M w w.drew) (TL:∀ A B C,M A B->M B C->M A C) (hm:P.follows .mixedOrders=true) (m:Nat) (bM:List Nat) (eff:Nat->Bool) (hB:nJ .any l.toArray bM m=true) (on:Nat->Option Tmp) (hz:∀ j,l.toArray.size<=j->on j=none) (hO:RegG.Gj l.toArray bM on=true) (EP:Nat->RegG.aR M) (D:Nat->World->Prop) (hD0:∀ j,j<m->D j w.drew) (al:List Nat) (Wi:Nat->Bool) (hA:R8 l.toArray eff al m=true) (hf:∀ j,Wi j=al.contains j) (hMs:(∃ j,Wi j=true)->∀ A B,M A B->A.heap.size<=B.heap.size) (Fin:List Oper->Act->World->Prop) (hF:∀ r a W,TK l.toArray al a->Fin r a W->wpList P l.toArray Q r a W) (h:∀ C:World->Prop,(∀ W,C W↔M w W)->Nonempty {W//C W} ->dK (fy P (Calls P) fS l.toArray eff (fun i=>bM.getD i 0) on EP C D Wi Fin m l 0 [] a)):(Code.region id l.toArray true).wp P Q a w:=by
 have ok:=Hn hB;have h0:M w w.drew:=hd;have hT:=oL m l 0 [] a (h (M w) (fun _=>Iff.rfl) ⟨⟨_,h0⟩⟩).out;have pX:m<=l.length:=by have:=ok.le;simpa using this
 have hbr:∀ u:Nat->Value,(∀ j,(EP j).P (u j))->∃ val,(∀ i,i<m->Ak P (Calls P) fS l.toArray eff (fun i=>bM.getD i 0) on EP (M w) D Wi a u val i)/\
   ∀ W,M w W->(∀ j,j<m->wantedAt l.toArray a val j->eff j=true->(EP j).H (RegG.dV (on j) (fC l.toArray a val j)) (val j) W)->lj Wi m val->xd (wpOp P l.toArray Q) (fun a w=>Q .normal a w) (List.range' m (l.toArray.size-m)) (fC l.toArray a val m) W:=fun u hu=>by
  obtain⟨val,h1,h2⟩:=branch (ops:=l.toArray) (m:=m) (a:=a) hu (l.take m) 0 (fun _=>undef) [] (by rw[List.length_take];omega) (fun j hj=>by rw[List.length_take]at hj;simp[List.getElem?_take];omega) (fun x hx=>by cases hx) (fun i hi=>by omega) hT;refine⟨val,h1,fun W hW hN hap=>xf _ _ _ (fun i hi=>?_) ?_⟩
  ·have:=(List.mem_range'.1 hi)
   obtain⟨k,hk,rfl⟩:=this;simp only[List.size_toArray]at*;omega
  ·have:=wpOps_eq_wpList (P:=P) (ops:=l.toArray) (Q:=Q) (l.drop m) m (fun j=>by simp[List.getElem?_drop])
   rw[List.length_drop]at this;simp only[List.size_toArray];rw[this];refine hF _ _ _ (fun i j s t u v hi hj mU hs ht h3 h4 h5 h6=>?_) (h2 W hW hN);have xi:=ok.fC a val m;rw[xi.size]at h3 h4;have hi2:=(tz hA i hi).1;have gz:=(tz hA j hj).1;rw[xi.new i s hi2 hs h3]at h5;rw[xi.new j t gz ht h4]at h6;cases h5;cases h6;exact hap i j hi2 gz (by rw[hf];exact hi) (by rw[hf];exact hj) mU
 have hno:∀ j,(Array.replicate l.toArray.size false).getD j false=false:=fun j=>by
  rcases Nat.lt_or_ge j l.length with h | h
  ·simp[h]
  ·simp[Nat.not_lt.2 h]
 refine wp_region_any hm (s9 _ _ _ _ ?_)
 refine KH (eff:=eff) (on:=on) (EP:=EP) (C:=M w) (D:=D) (al:=Wi) (fun i o ho ha=>by
  obtain⟨_,h1,o',JZ,hg⟩:=tz hA i (by rw[<-hf];exact ha);rw[ho]at JZ;cases JZ
  exact⟨h1,fun y=>by unfold Region.wanted;rw[hg]⟩) hMs ok Aj (RegG.Kz hz hO) (fun W W' h h'=>TL _ _ _ h h') (a0:=a) hbr _ _ _ _ (by simp) (by simp) h0 (fun i j hi=>by rw[hno]at hi;cases hi) (fun i _=>hno i) (fun i _ hi=>hD0 i hi) ?_
 obtain⟨val,h1,h2⟩:=hbr (fun j=>(EP j).nH) (fun j=>(EP j).pw);exact⟨_,val,fun j=>(EP j).pw,h1,h2,fun j hj=>by(rw[hno]at hj;cases hj),Gi.start a _ (fun j hj=>by(rw[hno]at hj;cases hj)),⟨fun j hj=>by(rw[hno]at hj;cases hj),fun j _ hj=>by(rw[hno]at hj;cases hj)⟩⟩
end Go.Proofs.YtalombmiochpmaaGreatDoor.RegZ
namespace Go.Proofs.YtalombmiochpmaaGreatDoor
open Go Go.RowKit
theorem xl {P:Program} {p q:Value->World->Prop} (h:∀ v W,p v W->q v W):∀ {r:Result Next},kQ (Calls P) fS p r->kQ (Calls P) fS q r
 | .ok (.value _) _,hr=>h _ _ hr
 | .ok .skip _,hr=>h _ _ hr
 | .ok (.enter _ _) _,hr=>Calls.mono hr fun _ _ ⟨v,e,hv⟩=>⟨v,e,h _ _ hv⟩
 | .ok (.round _ _ _ _ _) _,hr=>nomatch hr
end Go.Proofs.YtalombmiochpmaaGreatDoor
namespace Go.Proofs.YtalombmiochpmaaGreatDoor.RegQ
open Go Go.RowKit
def up {M:World->World->Prop} (E:aR M):RegG.aR M:=⟨E.P,fun _=>E.H,E.nH,E.pw,fun _ v W W'=>E.st v W W'⟩
def fy {M:World->World->Prop} (P:Program) (Cl:FuncId->Array Value->World->(Ending->World->Prop)->Prop) (Rd:Nat->FuncId->Array Value->Code->Code->World->(Ending->World->Prop)->Prop) (ops:Array Oper) (eff:Nat->Bool) (bM:Nat->Nat) (EP:Nat->aR M) (C:World->Prop) (D:Nat->World->Prop) (Fin:List Oper->Act->World->Prop) (n:Nat) (l:List Oper) (k:Nat) (aJ:List (Nat× (World->Prop))) (a:Act):Prop:=
 RegZ.fy P Cl Rd ops eff bM (fun _=>none) (fun i=>up (EP i)) C D (fun _=>false) Fin n l k aJ a
def cw {M:World->World->Prop} (P:Program) (Cl:FuncId->Array Value->World->(Ending->World->Prop)->Prop) (Rd:Nat->FuncId->Array Value->Code->Code->World->(Ending->World->Prop)->Prop) (ops:Array Oper) (eG:Bool) (m:Nat) (E:aR M) (C:World->Prop) (D:Nat->World->Prop) (o:Oper) (k:Nat) (aJ:List (Nat× (World->Prop))) (a:Act) (K:List (Nat× (World->Prop))->Act->Prop):Prop:=
 RegZ.cw P Cl Rd ops eG m none (up E) C D (fun _=>false) o k aJ a K
section
variable {P:Program} {Cl:FuncId→Array Value→World→(Ending→World→Prop)→Prop} {Rd:Nat→FuncId→Array Value→Code→Code→World→(Ending→World→Prop)→Prop}
  {ops:Array Oper} {eff:Nat→Bool} {bM:Nat→Nat} {M:World→World→Prop} {on:Nat→Option Tmp} {EP:Nat→aR M} {C:World→Prop} {D:Nat→World→Prop} {Fin:List Oper→Act→World→Prop} {eG:Bool} {m:Nat} {s:Option Tmp} {E:aR M} {o:Oper} {k:Nat} {aJ:List (Nat× (World→Prop))} {a:Act} {K:List (Nat× (World→Prop))→Act→Prop} {l:List Oper}
theorem ae (h:∀ K:List (Nat× (World->Prop))->Act->Prop,(∀ hi a,dK (fy P Cl Rd ops eff bM EP C D Fin m l (k+1) hi a)->K hi a)->cw P Cl Rd ops (eff k) (bM k) (EP k) C D o k aJ a K):dK (fy P Cl Rd ops eff bM EP C D Fin (m+1) (o::l) k aJ a):=
 ⟨(RegZ.ae (D:=D) (al:=fun _=>false) (on:=(fun _=>none)) fun K hK=>h K fun hi a hl=>hK hi a ⟨hl.out⟩).out⟩
theorem aV (h:∀ W,C W->(∀ x∈aJ,x.2 W)->Fin l a W):dK (fy P Cl Rd ops eff bM EP C D Fin 0 l k aJ a):=⟨h⟩
theorem aX (he:eG=false) (hw:Region.wanted o (yielded ops a.tmps)=true) (h:∃ v,(∀ W: {W//C W},aq P o a v W.1)/\K aJ (a.put o.dst v)):cw P Cl Rd ops eG m E C D o k aJ a K:=RegZ.aX he hw h
theorem Am (he:eG=false) (hw:Region.wanted o (yielded ops a.tmps)=true) (v:Value) (h1:∀ W,C W->needs m aJ W->aq P o a v W) (h2:K aJ (a.put o.dst v)):cw P Cl Rd ops eG m E C D o k aJ a K:=RegZ.Am he hw v h1 h2
theorem bH (he:eG=true) (hw:Region.wanted o (yielded ops a.tmps)=true) (E':aR M) (hE:E=E') (h1:∀ W,C W->D k W->needs m aJ W->kQ Cl Rd (fun v W'=>(M W W'/\∀ j,j≠k->m.testBit j=false->D j W->D j W')/\E'.P v/\E'.H v W') ((execOp a.eval o).run P W)) (h2:∀ v,E'.P v->K ((k,E'.H v)::aJ) (a.put o.dst v)):cw P Cl Rd ops eG m E C D o k aJ a K:=
 RegZ.bH (al:=fun _=>false) (s:=none) he hw (up E') (by rw[hE]) h1 h2
theorem bp (hw:Region.wanted o (yielded ops a.tmps)=false) (h:K aJ (a.put o.dst undef)):cw P Cl Rd ops eG m E C D o k aJ a K:=RegZ.bp hw h
end
theorem aO {P:Program} {id:Nat} {Q:Exit->Act->World->Prop} {a:Act} {w:World} {l:List Oper} (M:World->World->Prop) (hd:M w w.drew) (TL:∀ A B C,M A B->M B C->M A C) (hm:P.follows .mixedOrders=true) (m:Nat) (bM:List Nat) (eff:Nat->Bool) (hB:nJ .any l.toArray bM m=true) (EP:Nat->aR M) (D:Nat->World->Prop) (hD0:∀ j,j<m->D j w.drew) (h:∀ C:World->Prop,(∀ W,C W↔M w W)->Nonempty {W//C W} ->dK (fy P (Calls P) fS l.toArray eff (fun i=>bM.getD i 0) EP C D (fun r a W=>wpList P l.toArray Q r a W) m l 0 [] a)):(Code.region id l.toArray true).wp P Q a w:=
 RegZ.lu M hd TL hm m bM eff hB (fun _=>none) (fun _ _=>rfl) (List.all_eq_true.2 fun _ _=>List.all_eq_true.2 fun _ _=>rfl) (fun i=>up (EP i)) D hD0 [] (fun _=>false) rfl (fun _=>rfl) (fun h=>by obtain⟨_,h⟩:=h;cases h) _ (fun _ _ _ _ h=>h) fun C hC hne=>⟨(h C hC hne).out⟩
end Go.Proofs.YtalombmiochpmaaGreatDoor.RegQ
namespace Go.Proofs.YtalombmiochpmaaGreatDoor.RegG
open Go Go.RowKit
def fy {M:World->World->Prop} (P:Program) (Cl:FuncId->Array Value->World->(Ending->World->Prop)->Prop) (Rd:Nat->FuncId->Array Value->Code->Code->World->(Ending->World->Prop)->Prop) (ops:Array Oper) (eff:Nat->Bool) (bM:Nat->Nat) (on:Nat->Option Tmp) (EP:Nat->aR M) (C:World->Prop) (Fin:List Oper->Act->World->Prop) (n:Nat) (l:List Oper) (k:Nat) (aJ:List (Nat× (World->Prop))) (a:Act):Prop:=
 RegZ.fy P Cl Rd ops eff bM on EP C (fun _ _=>True) (fun _=>false) Fin n l k aJ a
def cw {M:World->World->Prop} (P:Program) (Cl:FuncId->Array Value->World->(Ending->World->Prop)->Prop) (Rd:Nat->FuncId->Array Value->Code->Code->World->(Ending->World->Prop)->Prop) (ops:Array Oper) (eG:Bool) (m:Nat) (s:Option Tmp) (E:aR M) (C:World->Prop) (o:Oper) (k:Nat) (aJ:List (Nat× (World->Prop))) (a:Act) (K:List (Nat× (World->Prop))->Act->Prop):Prop:=
 RegZ.cw P Cl Rd ops eG m s E C (fun _ _=>True) (fun _=>false) o k aJ a K
section
variable {P:Program} {Cl:FuncId→Array Value→World→(Ending→World→Prop)→Prop} {Rd:Nat→FuncId→Array Value→Code→Code→World→(Ending→World→Prop)→Prop}
  {ops:Array Oper} {eff:Nat→Bool} {bM:Nat→Nat} {M:World→World→Prop} {on:Nat→Option Tmp} {EP:Nat→aR M} {C:World→Prop} {D:Nat→World→Prop} {Fin:List Oper→Act→World→Prop} {eG:Bool} {m:Nat} {s:Option Tmp} {E:aR M} {o:Oper} {k:Nat} {aJ:List (Nat× (World→Prop))} {a:Act} {K:List (Nat× (World→Prop))→Act→Prop} {l:List Oper}
theorem ae (h:∀ K:List (Nat× (World->Prop))->Act->Prop,(∀ hi a,dK (fy P (Calls P) fS ops eff bM on EP C Fin m l (k+1) hi a)->K hi a)->cw P (Calls P) fS ops (eff k) (bM k) (on k) (EP k) C o k aJ a K):dK (fy P (Calls P) fS ops eff bM on EP C Fin (m+1) (o::l) k aJ a):=
 ⟨(RegZ.ae (D:=(fun _ _=>True)) (al:=fun _=>false) (on:=on) fun K hK=>h K fun hi a hl=>hK hi a ⟨hl.out⟩).out⟩
theorem aV (h:∀ W,C W->(∀ x∈aJ,x.2 W)->Fin l a W):dK (fy P (Calls P) fS ops eff bM on EP C Fin 0 l k aJ a):=⟨h⟩
theorem aX (he:eG=false) (hw:Region.wanted o (yielded ops a.tmps)=true) (h:∃ v,(∀ W: {W//C W},aq P o a v W.1)/\K aJ (a.put o.dst v)):cw P (Calls P) fS ops eG m s E C o k aJ a K:=RegZ.aX he hw h
theorem bH (he:eG=true) (hw:Region.wanted o (yielded ops a.tmps)=true) (E':aR M) (hE:E=E') (h1:∀ W,C W->needs m aJ W->kQ (Calls P) fS (fun v W'=>M W W'/\E'.P v/\E'.H (dV s a) v W') ((execOp a.eval o).run P W)) (h2:∀ v,E'.P v->K ((k,E'.H (dV s a) v)::aJ) (a.put o.dst v)):cw P (Calls P) fS ops eG m s E C o k aJ a K:=
 RegZ.bH (al:=fun _=>false) he hw E' hE (fun W hW _ hN=>xl (fun _ _ ⟨h1,h2⟩=>⟨⟨h1,fun _ _ _ _=>trivial⟩,h2⟩) (h1 W hW hN)) h2
end
theorem aO {P:Program} {id:Nat} {Q:Exit->Act->World->Prop} {a:Act} {w:World} {l:List Oper} (M:World->World->Prop) (hd:M w w.drew) (TL:∀ A B C,M A B->M B C->M A C) (hm:P.follows .mixedOrders=true) (m:Nat) (bM:List Nat) (eff:Nat->Bool) (hB:nJ .any l.toArray bM m=true) (on:Nat->Option Tmp) (hz:∀ j,l.toArray.size<=j->on j=none) (hO:Gj l.toArray bM on=true) (EP:Nat->aR M) (h:∀ C:World->Prop,(∀ W,C W↔M w W)->Nonempty {W//C W} ->dK (fy P (Calls P) fS l.toArray eff (fun i=>bM.getD i 0) on EP C (fun r a W=>wpList P l.toArray Q r a W) m l 0 [] a)):(Code.region id l.toArray true).wp P Q a w:=
 RegZ.lu M hd TL hm m bM eff hB on hz hO EP (fun _ _=>True) (fun _ _=>trivial) [] (fun _=>false) rfl (fun _=>rfl) (fun h=>by obtain⟨_,h⟩:=h;cases h) _ (fun _ _ _ _ h=>h) fun C hC hne=>⟨(h C hC hne).out⟩
end Go.Proofs.YtalombmiochpmaaGreatDoor.RegG
namespace Go.Proofs.YtalombmiochpmaaGreatDoor
open Go Go.RowKit
section
variable {P:Program} {ops:Array Oper} {eff:Nat→Bool} {bM:Nat→Nat} {M:World→World→Prop} {EP:Nat→aR M} {C:World→Prop} {Fin:List Oper→Act→World→Prop}
def fy (P:Program) (Cl:FuncId->Array Value->World->(Ending->World->Prop)->Prop) (Rd:Nat->FuncId->Array Value->Code->Code->World->(Ending->World->Prop)->Prop) (ops:Array Oper) (eff:Nat->Bool) (bM:Nat->Nat) (EP:Nat->aR M) (C:World->Prop) (Fin:List Oper->Act->World->Prop) (n:Nat) (l:List Oper) (k:Nat) (aJ:List (Nat× (World->Prop))) (a:Act):Prop:=
 RegQ.fy P Cl Rd ops eff bM EP C (fun _ _=>True) Fin n l k aJ a
def cw (P:Program) (Cl:FuncId->Array Value->World->(Ending->World->Prop)->Prop) (Rd:Nat->FuncId->Array Value->Code->Code->World->(Ending->World->Prop)->Prop) (ops:Array Oper) (eG:Bool) (m:Nat) (E:aR M) (C:World->Prop) (o:Oper) (k:Nat) (aJ:List (Nat× (World->Prop))) (a:Act) (K:List (Nat× (World->Prop))->Act->Prop):Prop:=
 RegQ.cw P Cl Rd ops eG m E C (fun _ _=>True) o k aJ a K
theorem ae {m:Nat} {o:Oper} {rest:List Oper} {k:Nat} {aJ:List (Nat× (World->Prop))} {a:Act} (h:∀ K:List (Nat× (World->Prop))->Act->Prop,(∀ hi a,dK (fy P (Calls P) fS ops eff bM EP C Fin m rest (k+1) hi a)->K hi a)->cw P (Calls P) fS ops (eff k) (bM k) (EP k) C o k aJ a K):dK (fy P (Calls P) fS ops eff bM EP C Fin (m+1) (o::rest) k aJ a):=
 ⟨(RegQ.ae (D:=fun _ _=>True) fun K hK=>h K fun hi a hl=>hK hi a ⟨hl.out⟩).out⟩
theorem aV {l:List Oper} {k:Nat} {aJ:List (Nat× (World->Prop))} {a:Act} (h:∀ W,C W->(∀ x∈aJ,x.2 W)->Fin l a W):dK (fy P (Calls P) fS ops eff bM EP C Fin 0 l k aJ a):=⟨h⟩
theorem aX {eG:Bool} {m:Nat} {E:aR M} {o:Oper} {k:Nat} {aJ:List (Nat× (World->Prop))} {a:Act} {K:List (Nat× (World->Prop))->Act->Prop} (he:eG=false) (hw:Region.wanted o (yielded ops a.tmps)=true) (h:∃ v,(∀ W: {W//C W},aq P o a v W.1)/\K aJ (a.put o.dst v)):cw P (Calls P) fS ops eG m E C o k aJ a K:=RegQ.aX he hw h
theorem Am {eG:Bool} {m:Nat} {E:aR M} {o:Oper} {k:Nat} {aJ:List (Nat× (World->Prop))} {a:Act} {K:List (Nat× (World->Prop))->Act->Prop} (he:eG=false) (hw:Region.wanted o (yielded ops a.tmps)=true) (v:Value) (h1:∀ W,C W->needs m aJ W->aq P o a v W) (h2:K aJ (a.put o.dst v)):cw P (Calls P) fS ops eG m E C o k aJ a K:=RegQ.Am he hw v h1 h2
theorem bH {eG:Bool} {m:Nat} {E:aR M} {o:Oper} {k:Nat} {aJ:List (Nat× (World->Prop))} {a:Act} {K:List (Nat× (World->Prop))->Act->Prop} (he:eG=true) (hw:Region.wanted o (yielded ops a.tmps)=true) (E':aR M) (hE:E=E') (h1:∀ W,C W->needs m aJ W->kQ (Calls P) fS (fun v W'=>M W W'/\E'.P v/\E'.H v W') ((execOp a.eval o).run P W)) (h2:∀ v,E'.P v->K ((k,E'.H v)::aJ) (a.put o.dst v)):cw P (Calls P) fS ops eG m E C o k aJ a K:=
 RegQ.bH he hw E' hE (fun W hW _ hN=>xl (fun _ _ ⟨h1,h2⟩=>⟨⟨h1,fun _ _ _ _=>trivial⟩,h2⟩) (h1 W hW hN)) h2
theorem bp {eG:Bool} {m:Nat} {E:aR M} {o:Oper} {k:Nat} {aJ:List (Nat× (World->Prop))} {a:Act} {K:List (Nat× (World->Prop))->Act->Prop} (hw:Region.wanted o (yielded ops a.tmps)=false) (h:K aJ (a.put o.dst undef)):cw P (Calls P) fS ops eG m E C o k aJ a K:=RegQ.bp hw h
end
theorem aO {P:Program} {id:Nat} {Q:Exit->Act->World->Prop} {a:Act} {w:World} {l:List Oper} (M:World->World->Prop) (hd:M w w.drew) (TL:∀ A B C,M A B->M B C->M A C) (hm:P.follows .mixedOrders=true) (m:Nat) (bM:List Nat) (eff:Nat->Bool) (hB:nJ .any l.toArray bM m=true) (EP:Nat->aR M) (h:∀ C:World->Prop,(∀ W,C W↔M w W)->Nonempty {W//C W} ->dK (fy P (Calls P) fS l.toArray eff (fun i=>bM.getD i 0) EP C (fun r a W=>wpList P l.toArray Q r a W) m l 0 [] a)):(Code.region id l.toArray true).wp P Q a w:=
 RegQ.aO M hd TL hm m bM eff hB EP (fun _ _=>True) (fun _ _=>trivial) fun C hC hne=>⟨(h C hC hne).out⟩
theorem aA {P:Program} {id:Nat} {Q:Exit->Act->World->Prop} {a:Act} {w:World} {l:List Oper} (d:Bool) (T:Nat->Prop) (hm:P.follows .mixedOrders=true) (m:Nat) (bM:List Nat) (eff:Nat->Bool) (hB:nJ .any l.toArray bM m=true) (EP:Nat->aR (Move d T)) (h:∀ C:World->Prop,(∀ W,C W↔Move d T w W)->Nonempty {W//C W} ->dK (fy P (Calls P) fS l.toArray eff (fun i=>bM.getD i 0) EP C (fun r a W=>wpList P l.toArray Q r a W) m l 0 [] a)):(Code.region id l.toArray true).wp P Q a w:=
 aO (Move d T) (Move.ext (Ext.refl w).drew) (fun _ _ _ h k=>h.trans k) hm m bM eff hB EP h
end Go.Proofs.YtalombmiochpmaaGreatDoor
