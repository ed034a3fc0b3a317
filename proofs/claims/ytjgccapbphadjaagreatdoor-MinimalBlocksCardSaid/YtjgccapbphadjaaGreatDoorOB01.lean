/- The law for regions in any order (XReg), at the regions of the calculus: the check as a Bool; steps. -/
import Derived.Test.YtjgccapbphadjaaGreatDoorProg
import Derived.WalkKit
import Derived.OrdersIn
import Derived.RangeFuncNested
import Derived.Lib.Hide
import Derived.Sort.Grow
import Derived.Deep.Draws
import Derived.Deep.MidRow
import Derived.Maps.AppendAt
set_option maxRecDepth 100000
set_option maxHeartbeats 16000000
open Go.Lib (hid)
namespace Go.Proofs.YtjgccapbphadjaaGreatDoor
section
open Go Go.RowKit
abbrev aa (w w':World):Prop:=Below w.heap.size w w'
abbrev ah:=Calls Tryz.prog
theorem ag {α:Sort _} (a:α):∃ n,n=a:=⟨a,rfl⟩
theorem az {α:Type _} {l:List α} {i:Nat} (h:i<l.length):l[i]? =some l[i]:=List.getElem?_eq_getElem h
theorem aw {α:Type _} {l:List α} {i:Nat} {a:α} (h:l[i]? =some a):a∈l:=List.mem_of_getElem? h
theorem G8 {α:Type _} {i:Nat} {a:α} {l:List α} :l[i]? =some a↔ ∃ h:i<l.length,l[i]=a:=List.getElem?_eq_some_iff
theorem aD {n m k:Nat} (a:n<m) (b:m≤k):n<k:=Nat.lt_of_lt_of_le a b
theorem aJ {α:Type _} {a b:List α} :(a++b).length=a.length+b.length:=List.length_append
theorem bu {α:Type _} {l:List α} {i:Nat} {a:α} :l.getD i a=l[i]?.getD a:=List.getD_eq_getElem?_getD
theorem aG (n:Nat):n≤n:=Nat.le_refl n
theorem aO {α:Type _} {β:Type _} {f:α→β} {l:List α} {i:Nat} :(l.map f)[i]? =l[i]?.map f:=List.getElem?_map
theorem aY {α:Type _} {a:α} {l:List α} :a∈a::l:=List.mem_cons_self
theorem aQ {α:Type _} {β:Type _} {a:List α} (f:α→β):(a.map f).length=a.length:=List.length_map f
theorem aew {α:Type _} {i:Nat} {b:α} {a:Array α} :a[i]? =some b↔ ∃ h:i<a.size,a[i]=b:=Array.getElem?_eq_some_iff
theorem aS {α:Type _} {l:List α} {i:Nat} (h:l.length≤i):l[i]? =none:=List.getElem?_eq_none h
theorem bK {α:Type _} {a b:List α} {i:Nat} (h:i<a.length):(a++b)[i]? =a[i]? :=List.getElem?_append_left h
theorem cM {α:Type _} {a b:List α} {i:Nat} (h:a.length≤i):(a++b)[i]? =b[i-a.length]? :=List.getElem?_append_right h
theorem bC {α:Type _} (y:α) {a:α} {l:List α} (h:a∈l):a∈y::l:=List.mem_cons_of_mem y h
def je (F:Fence) (n:Nat) (P:Program) (C:World->Prop) (dst:Option Tmp) (a:Act) (K:Act->World->Prop):Result Next->Prop
 | .ok (.value v) w'=>C w'/\K (a.put dst v) w'
 | .ok .skip w'=>C w'/\K (a.put dst undef) w'
 | .ok (.enter f args) w'=>CallsIn F (n-1) P f args w' (fun e w''=>∃ v,e=.returned v/\C w''/\K (a.put dst v) w'')
 | .ok (.round l f tmps Dw body) w'=>RoundIn F (n-1) P l f tmps Dw body w' (fun e w''=>∃ v,e=.returned v/\C w''/\K (a.put dst v) w'')
 | _=>False
def aF (P:Program) (o:Oper) (a:Act) (v:Value) (W:World):Prop:=
 (execOp a.eval o).run P W=.ok (.value v) W\/((execOp a.eval o).run P W=.ok .skip W/\v=undef)
def dU (F:Fence) (n:Nat) (P:Program) (C:World→Prop) (ops:Array Oper) (eM:Bool) (o:Oper) (K:Act→World→Prop) (a:Act) (w:World):Prop:=
  if Region.wanted o (yielded ops a.tmps)then
    (if eM then je F n P C o.dst a K ((execOp a.eval o).run P w)
     else ∃ v,(∀ W: {W//C W},aF P o a v W.1)∧K (a.put o.dst v) w)
  else K (a.put o.dst undef) w
def kr (F:Fence) (n:Nat) (P:Program) (C:World->Prop) (ops:Array Oper) (eff:Nat->Bool) (Q:Act->World->Prop):List Oper->Nat->Act->World->Prop
 | [],_,a,w=>Q a w
 | o::rest,k,a,w=>dU F n P C ops (eff k) o (kr F n P C ops eff Q rest (k+1)) a w
section
variable {F:Fence} {n:Nat} {P:Program} {C:World→Prop} {ops:Array Oper} {eff:Nat→Bool} {md:Region.Mode}
theorem vC {dst:Option Tmp} {a:Act} {K K':Act->World->Prop} (h:∀ a w,C w->K a w->K' a w) {r:Result Next} (hh:je F n P C dst a K r):je F n P C dst a K' r:=by
 cases r with
 | halt x w=>exact hh.elim
 | ok x w=>
  cases x<;>simp only[je]at hh ⊢ <;>first
   | exact⟨hh.1,h _ _ hh.1 hh.2⟩
   | exact CallsIn.mono hh (fun e w' ⟨v,he,hC,hK⟩=>⟨v,he,hC,h _ _ hC hK⟩)
   | exact RoundIn.mono hh (fun e w' ⟨v,he,hC,hK⟩=>⟨v,he,hC,h _ _ hC hK⟩)
theorem vD {eM:Bool} {o:Oper} {a:Act} {w:World} {K K':Act->World->Prop} (h0:∀ a,K a w->K' a w) (h:∀ a w,C w->K a w->K' a w) (hh:dU F n P C ops eM o K a w):dU F n P C ops eM o K' a w:=by
 unfold dU at*;split
 ·rename_i hw
  simp only[hw,if_true]at hh;cases eM with
  | true=>simp only[if_true]at hh ⊢;exact vC h hh
  | false=>simp only[Bool.false_eq_true,if_false]at hh ⊢;obtain⟨v,h1,h2⟩:=hh;exact⟨v,h1,h0 _ h2⟩
 ·rename_i hw
  simp only[hw]at hh;exact h0 _ hh
theorem vE (hd:F.depth=none) {dst:Option Tmp} {a:Act} {K:Act->World->Prop} {r:Result Next} (hh:je F n P C dst a K r):∃ u w',K (a.put dst u) w':=by
 cases r with
 | halt x w=>exact hh.elim
 | ok x w=>
  cases x<;>simp only[je]at hh
  case value v=>exact⟨_,_,hh.2⟩
  case skip=>exact⟨_,_,hh.2⟩
  case enter f args=>
   obtain⟨e,w',fr,⟨v,_,_,hK⟩,_⟩:=hh.2 [] (fun d h=>by rw[hd]at h;cases h);exact⟨_,_,hK⟩
  case round l f tmps Dw body=>
   obtain⟨e,w',⟨v,_,_,hK⟩,_⟩:=hh.2 default [] (fun d h=>by rw[hd]at h;cases h);exact⟨_,_,hK⟩
def LI (F:Fence) (n:Nat) (P:Program) (C:World->Prop) (ops:Array Oper) (eff:Nat->Bool) (i:Nat) (K:Act->World->Prop) (a:Act) (w:World):Prop:=
 match ops[i]? with
 | none=>K a w
 | some o=>dU F n P C ops (eff i) o K a w
def sI (F:Fence) (n:Nat) (P:Program) (C:World->Prop) (md:Region.Mode) (ops:Array Oper) (eff:Nat->Bool) (Q:Act->World->Prop):Nat->Array Bool->Act->World->Prop
 | 0,listed,a,w=>Region.ready md ops listed=[]/\Q a w
 | fuel+1,listed,a,w=>
  (Region.ready md ops listed=[]->Q a w)/\
  ∀ i∈Region.ready md ops listed,LI F n P C ops eff i (sI F n P C md ops eff Q fuel (listed.setIfInBounds i true)) a w
def AU (ops:Array Oper):Bool:=ops.all fun o=>match o.op with | .defer _=>false | _=>true
theorem AW (h:AU ops=true) {j:Nat} {o:Oper} (ho:ops[j]? =some o) (c:Call):o.op≠ .defer c:=by intro heq;have:=Array.all_eq_true_iff_forall_mem.1 h o (Array.mem_of_getElem? ho);simp[heq]at this
theorem mC (hF:∀ f,F.fn f) (hd:F.depth=none) (Wj:AU ops=true) {Q:Act->World->Prop} {Q':Exit->Act->World->Prop} (hQ:∀ a w,C w->Q a w->Q' .normal a w): ∀ (fuel:Nat) (listed:Array Bool) (a:Act) (w:World),C w->sI F n P C md ops eff Q fuel listed a w->wpAnyIn F n P md ops Q' fuel listed a w
 | 0,_,_,_,hC,h=>⟨h.1,hQ _ _ hC h.2⟩
 | fuel+1,listed,a,w,hC,h=>by
  refine⟨fun h0=>hQ _ _ hC (h.1 h0),fun i hi=>?_⟩;have hx:=h.2 i hi;have ih:=fun a' w' Dx=>mC hF hd Wj hQ fuel (listed.setIfInBounds i true) a' w' Dx
  unfold LI at hx;unfold wpOpIn;cases ho:ops[i]? with
  | none=>simp only[ho]at hx;exact ih _ _ hC hx
  | some o=>
   simp only[ho]at hx ⊢;have afS:Oper.semAt F.round a.eval o=execOp a.eval o:=Oper.semAt_eq _ _ _ (AW Wj ho);unfold dU at hx;split
   ·rename_i hw
    simp only[hw,if_true]at hx;refine⟨fun f _=>hF f,?_⟩;rw[afS];cases he:eff i with
    | false=>
     simp only[he,Bool.false_eq_true,if_false]at hx;obtain⟨v,h1,h2⟩:=hx;rcases h1 ⟨w,hC⟩with hr | ⟨hr,rfl⟩<;>rw[hr]<;>exact ih _ _ hC h2
    | true=>
     simp only[he,if_true]at hx;generalize (execOp a.eval o).run P w=r at hx;cases r with
     | halt x w=>exact hx.elim
     | ok x w=>
      cases x<;>simp only[je]at hx<;>simp only[Oper.uponIn]
      case value v=>exact ih _ _ hx.1 hx.2
      case skip=>exact ih _ _ hx.1 hx.2
      case enter f args=>exact⟨fun h=>(by rw[hd]at h;cases h),CallsIn.mono hx (fun e w' ⟨v,he,Dx,hK⟩=>by subst he;exact ih _ _ Dx hK)⟩
      case round l f tmps Dw body=>exact⟨fun h=>(by rw[hd]at h;cases h),RoundIn.mono hx (fun e w' ⟨v,he,Dx,hK⟩=>by subst he;exact ih _ _ Dx hK)⟩
   ·rename_i hw
    simp only[hw]at hx;exact⟨fun f _=>hF f,ih _ _ hC hx⟩
def dK (P:Program) (ops:Array Oper) (C:World->Prop) (o:Oper) (v:Value) (a:Act):Prop:=
 (Region.wanted o (yielded ops a.tmps)=true/\∀ W,C W->aF P o a v W)\/(Region.wanted o (yielded ops a.tmps)=false/\v=undef)
theorem mW {o:Oper} (hs:∀ cs b,o.op≠ .select cs b) {a:Act} {dst:Option Tmp} {u v:Value} {W:World} (h:∀ d,dst=some d->d∉o.looksAt ops):aF P o (a.put dst u) v W↔aF P o a v W:=by unfold aF;rw[execOp_put o hs a dst u h]
theorem dK.put {o:Oper} {v:Value} {a:Act} (hs:∀ cs b,o.op≠ .select cs b) {dst:Option Tmp} {u:Value} (h:∀ d,dst=some d->d∉o.looksAt ops):dK P ops C o v (a.put dst u)↔dK P ops C o v a:=by
 unfold dK;rw[wanted_put o a dst u h];constructor
 ·rintro(⟨h1,h2⟩ | h1)
  ·exact .inl ⟨h1,fun W hW=>(mW hs h).1 (h2 W hW)⟩
  ·exact .inr h1
 ·rintro(⟨h1,h2⟩ | h1)
  ·exact .inl ⟨h1,fun W hW=>(mW hs h).2 (h2 W hW)⟩
  ·exact .inr h1
theorem dK.dU {o:Oper} {v:Value} {a:Act} {w:World} {K:Act->World->Prop} (hy:dK P ops C o v a) (h:K (a.put o.dst v) w):dU F n P C ops false o K a w:=by
 unfold Proofs.YtjgccapbphadjaaGreatDoor.dU;rcases hy with⟨hw,hv⟩ | ⟨hw,rfl⟩
 ·simp only[hw,if_true,Bool.false_eq_true,if_false];exact⟨v,fun W=>hv W.1 W.2,h⟩
 ·simp only[hw,Bool.false_eq_true,if_false];exact h
theorem im {o:Oper} {a:Act} {w:World} {K:Act->World->Prop} (h:dU F n P C ops false o K a w):∃ v,dK P ops C o v a/\K (a.put o.dst v) w:=by
 unfold Proofs.YtjgccapbphadjaaGreatDoor.dU at h;by_cases hw:Region.wanted o (yielded ops a.tmps)=true
 ·simp only[hw,if_true,Bool.false_eq_true,if_false]at h
  obtain⟨v,h1,h2⟩:=h;exact⟨v,.inl ⟨hw,fun W hW=>h1 ⟨W,hW⟩⟩,h2⟩
 ·simp only[hw]at h
  exact⟨undef,.inr ⟨by simpa using hw,rfl⟩,h⟩
theorem LJ {dx dj:Option Tmp} {v:Value} {a:Act} (hne:∀ d,dx=some d->dj≠some d) {K:Act->World->Prop} {r:Result Next} (h:je F n P C dj (a.put dx v) K r): je F n P C dj a (fun a' w'=>(∃ u,a'=a.put dj u)/\K (a'.put dx v) w') r:=by
 cases r with
 | halt x w=>exact h.elim
 | ok x w=>
  cases x<;>simp only[je]at h ⊢
  case value u=>exact⟨h.1,⟨u,rfl⟩,by rw[<-Act.put_comm a v u hne];exact h.2⟩
  case skip=>exact⟨h.1,⟨_,rfl⟩,by rw[<-Act.put_comm a v undef hne];exact h.2⟩
  case enter f args=>exact CallsIn.mono h (fun e w' ⟨u,he,hC,hK⟩=>⟨u,he,hC,⟨u,rfl⟩,by rw[<-Act.put_comm a v u hne];exact hK⟩)
  case round l f tmps Dw body=>exact RoundIn.mono h (fun e w' ⟨u,he,hC,hK⟩=>⟨u,he,hC,⟨u,rfl⟩,by rw[<-Act.put_comm a v u hne];exact hK⟩)
theorem LK {eM:Bool} {oi oj:Oper} {v:Value} (hap:oi.apart ops oj=true) (GI:∀ cs b,oi.op≠ .select cs b) (hsj:∀ cs b,oj.op≠ .select cs b) {K:Act->World->Prop} {a:Act} {w:World} (hy:dK P ops C oi v a) (h:dU F n P C ops eM oj K (a.put oi.dst v) w): dU F n P C ops eM oj (fun a' w'=>dK P ops C oi v a'/\K (a'.put oi.dst v) w') a w:=by
 obtain⟨h1,h2,h3⟩:=Oper.apart_spec hap;have keep:∀ u,dK P ops C oi v (a.put oj.dst u):=fun u=>(dK.put GI h3).2 hy
 unfold Proofs.YtjgccapbphadjaaGreatDoor.dU at*;rw[wanted_put oj a oi.dst v h1,execOp_put oj hsj a oi.dst v h1]at h;split
 ·rename_i hw
  simp only[hw,if_true]at h;cases eM with
  | true=>
   simp only[if_true]at h ⊢;exact vC (fun a' w' _ ⟨⟨u,hu⟩,hK⟩=>⟨by rw[hu];exact keep u,hK⟩) (LJ h2 h)
  | false=>
   simp only[Bool.false_eq_true,if_false]at h ⊢;obtain⟨u,hu,hK⟩:=h;exact⟨u,fun W=>(mW hsj h1).1 (hu W),keep u,by rw[<-Act.put_comm a v u h2];exact hK⟩
 ·rename_i hw
  simp only[hw]at h;exact⟨keep _,by rw[<-Act.put_comm a v undef h2];exact h⟩
theorem mD {i j:Nat} {listed:Array Bool} (hr:i∈Region.ready md ops listed) (hj:j∈Region.ready md ops listed) {oj:Oper} (yC:ops[j]? =some oj):∀ e∈oj.after,Region.binds md e=true->e.on≠i:=fun e he hb heq=>by
 obtain⟨_,oj',vF,hall⟩:=mem_ready.1 hj;rw[yC]at vF;cases vF;have h1:=hall e he hb;have h0:=(mem_ready.1 hr).1;rw[heq]at h1;rcases Nat.lt_or_ge i listed.size with h' | h'
 ·simp[h']at h0 h1;rw[h0]at h1;cases h1
 ·simp[Array.getElem?_eq_none h']at h1
theorem G9 {Q:Act->World->Prop} {i:Nat} {oi:Oper} {v:Value} (hi:ops[i]? =some oi) (hei:eff i=false) (OU:∀ (j:Nat) (o:Oper) cs b,ops[j]? =some o->o.op≠ .select cs b): ∀ (fuel:Nat) (listed:Array Bool) (a:Act) (w:World), (∀ j oj,ops[j]? =some oj->j≠i->listed.getD j true=false->(∀ e∈oj.after,Region.binds md e=true->e.on≠i)->oi.apart ops oj=true)-> i∈Region.ready md ops listed->dK P ops C oi v a-> sI F n P C md ops eff Q fuel (listed.setIfInBounds i true) (a.put oi.dst v) w->sI F n P C md ops eff Q (fuel+1) listed a w:=by
 intro fuel;induction fuel with
 | zero=>
  intro listed a w _ hr hy H;refine⟨fun h=>(by rw[h]at hr;cases hr),fun j hj=>?_⟩;by_cases ku:j=i
  ·subst ku;unfold LI;simp only[hi,hei];exact hy.dU H
  ·have:=ready_mono hj ku
   rw[H.1]at this;cases this
 | succ fuel ih=>
  intro listed a w zu hr hy H;refine⟨fun h=>(by rw[h]at hr;cases hr),fun j hj=>?_⟩;by_cases ku:j=i
  ·subst ku;unfold LI;simp only[hi,hei];exact hy.dU H
  ·have h1:=H.2 j (ready_mono hj ku)
   obtain⟨LL,oj,yC,hall⟩:=mem_ready.1 hj;have XD:=mD hr hj yC
   have XH:∀ k ok,ops[k]? =some ok->k≠i->(listed.setIfInBounds j true).getD k true=false->
     (∀ e∈ok.after,Region.binds md e=true->e.on≠i)->oi.apart ops ok=true:=fun k ok hk eE TF hno=>by
    refine zu k ok hk eE ?_ hno;by_cases hjk:j=k
    ·subst hjk;exact LL
    ·rw[getD_set_ne true hjk]at TF;exact TF
   unfold LI at h1 ⊢;simp only[yC]at h1 ⊢;have h2:=LK (zu j oj yC ku LL XD) (fun cs b=>OU i oi cs b hi) (fun cs b=>OU j oj cs b yC) hy h1;have step:∀ a' w',(dK P ops C oi v a'/\sI F n P C md ops eff Q fuel ((listed.setIfInBounds i true).setIfInBounds j true) (a'.put oi.dst v) w')->sI F n P C md ops eff Q (fuel+1) (listed.setIfInBounds j true) a' w':=fun a' w' h3=>by
    refine ih (listed.setIfInBounds j true) a' w' XH (ready_mono hr (Ne.symm ku)) h3.1 ?_;rw[Array.setIfInBounds_comm _ _ ku];exact h3.2
   exact vD (fun a' h3=>step a' _ h3) (fun a' w' _ h3=>step a' w' h3) h2
theorem Dy (hd:F.depth=none) {Q:Act->World->Prop} {i:Nat} {oi:Oper} (hi:ops[i]? =some oi) (hei:eff i=true) (OU:∀ (j:Nat) (o:Oper) cs b,ops[j]? =some o->o.op≠ .select cs b): ∀ (fuel:Nat) (listed:Array Bool) (a:Act) (w:World),C w-> (∀ j oj,ops[j]? =some oj->j≠i->listed.getD j true=false->(∀ e∈oj.after,Region.binds md e=true->e.on≠i)->oi.apart ops oj=true)-> (∀ j oj,ops[j]? =some oj->j≠i->eff j=true->listed.getD j true=false->∃ e∈oj.after,Region.binds md e=true/\eff e.on=true/\listed.getD e.on false=false)-> i∈Region.ready md ops listed->LI F n P C ops eff i (sI F n P C md ops eff Q fuel (listed.setIfInBounds i true)) a w-> sI F n P C md ops eff Q (fuel+1) listed a w:=by
 intro fuel;induction fuel with
 | zero=>
  intro listed a w hC zu OX hr H;refine⟨fun h=>(by rw[h]at hr;cases hr),fun j hj=>?_⟩;by_cases ku:j=i
  ·subst ku;exact H
  ·exfalso
   have hne:=ready_mono hj ku;unfold LI at H;simp only[hi]at H;unfold Proofs.YtjgccapbphadjaaGreatDoor.dU at H;by_cases hw:Region.wanted oi (yielded ops a.tmps)=true
   ·simp only[hw,if_true,hei]at H
    obtain⟨u,w',hK⟩:=vE hd H;rw[hK.1]at hne;cases hne
   ·rw[if_neg hw]at H;rw[H.1]at hne;cases hne
 | succ fuel ih=>
  intro listed a w hC zu OX hr H;refine⟨fun h=>(by rw[h]at hr;cases hr),fun j hj=>?_⟩;by_cases ku:j=i
  ·subst ku;exact H
  ·obtain⟨LL,oj,yC,hall⟩:=mem_ready.1 hj
   have XD:=mD hr hj yC;have AX:eff j=false:=by
    cases h:eff j with
    | false=>rfl
    | true=>
     obtain⟨e,he,hb,_,hl⟩:=OX j oj yC ku h LL;rw[hall e he hb]at hl;cases hl
   have hap:=zu j oj yC ku LL XD;obtain⟨h1,h2,h3⟩:=Oper.apart_spec hap;have GI:=fun cs b=>OU i oi cs b hi
   have hsj:=fun cs b=>OU j oj cs b yC
   have h2':∀ d,oj.dst=some d->oi.dst≠some d:=fun d hd he=>h2 d he hd
   -- what the float yields, and what is left behind both
   have key:∃ v,dK P ops C oj v a/\LI F n P C ops eff i (sI F n P C md ops eff Q fuel ((listed.setIfInBounds j true).setIfInBounds i true)) (a.put oj.dst v) w:=by
    unfold LI at H ⊢;simp only[hi]at H ⊢;unfold Proofs.YtjgccapbphadjaaGreatDoor.dU at H ⊢;by_cases hw:Region.wanted oi (yielded ops a.tmps)=true
    ·simp only[hw,if_true,hei]at H
     have inner:∀ u w',sI F n P C md ops eff Q (fuel+1) (listed.setIfInBounds i true) (a.put oi.dst u) w'->∃ v,dK P ops C oj v a/\sI F n P C md ops eff Q fuel ((listed.setIfInBounds j true).setIfInBounds i true) ((a.put oj.dst v).put oi.dst u) w':=fun u w' h=>by
      have hx:=h.2 j (ready_mono hj ku);unfold LI at hx;simp only[yC,AX]at hx;obtain⟨v,hy,hK⟩:=im hx;refine⟨v,(dK.put hsj h1).1 hy,?_⟩;rw[Array.setIfInBounds_comm _ _ ku,Act.put_comm a v u h2'];exact hK
     obtain⟨u0,w0,h0⟩:=vE hd H;obtain⟨v,hy,_⟩:=inner u0 w0 h0;refine⟨v,hy,?_⟩;rw[wanted_put oi a oj.dst v h3,execOp_put oi GI a oj.dst v h3];simp only[hw,if_true,hei];have uniq:∀ v',dK P ops C oj v' a->v'=v:=fun v' hy'=>by
      rcases hy with⟨g1,g2⟩ | ⟨g1,g2⟩<;>rcases hy' with⟨k1,k2⟩ | ⟨k1,k2⟩
      ·have a1:=g2 w hC
       have a2:=k2 w hC;unfold aF at a1 a2;rcases a1 with a1 | ⟨a1,b1⟩<;>rcases a2 with a2 | ⟨a2,b2⟩<;>rw[a1]at a2<;>cases a2<;>simp_all
      ·rw[g1]at k1;cases k1
      ·rw[g1]at k1;cases k1
      ·rw[g2,k2]
     generalize (execOp a.eval oi).run P w=r at H ⊢;cases r with
     | halt x w=>exact H.elim
     | ok x w=>
      cases x<;>simp only[je]at H ⊢
      case value u=>
       obtain⟨v',hy',hK⟩:=inner _ _ H.2;rw[uniq v' hy']at hK;exact⟨H.1,hK⟩
      case skip=>
       obtain⟨v',hy',hK⟩:=inner _ _ H.2;rw[uniq v' hy']at hK;exact⟨H.1,hK⟩
      case enter f args=>
       exact CallsIn.mono H (fun e w' ⟨u,he,Dx,h⟩=>by
        obtain⟨v',hy',hK⟩:=inner _ _ h;rw[uniq v' hy']at hK
        exact⟨u,he,Dx,hK⟩)
      case round l f tmps Dw body=>
       exact RoundIn.mono H (fun e w' ⟨u,he,Dx,h⟩=>by
        obtain⟨v',hy',hK⟩:=inner _ _ h;rw[uniq v' hy']at hK
        exact⟨u,he,Dx,hK⟩)
    ·simp only[hw]at H
     have hx:=H.2 j (ready_mono hj ku);unfold LI at hx;simp only[yC,AX]at hx;obtain⟨v,hy,hK⟩:=im hx;refine⟨v,(dK.put hsj h1).1 hy,?_⟩;rw[wanted_put oi a oj.dst v h3];simp only[hw];rw[Array.setIfInBounds_comm _ _ ku];have:=Act.put_comm a v undef h2';simpa[this]using hK
   obtain⟨v,hy,hK⟩:=key;unfold LI;simp only[yC,AX];refine hy.dU (ih (listed.setIfInBounds j true) _ w hC ?_ ?_ (ready_mono hr (Ne.symm ku)) hK)
   ·intro k ok hk eE TF hno
    refine zu k ok hk eE ?_ hno;by_cases hjk:j=k
    ·subst hjk;exact LL
    ·rw[getD_set_ne true hjk]at TF;exact TF
   ·intro k ok hk eE LP TF
    have hjk:j≠k:=fun h=>by subst h;rw[AX]at LP;cases LP
    rw[getD_set_ne true hjk]at TF;obtain⟨e,he,hb,hee,hl⟩:=OX k ok hk eE LP TF;have hje:j≠e.on:=fun h=>by rw[<-h]at hee;rw[AX]at hee;cases hee
    exact⟨e,he,hb,hee,by rw[getD_set_ne false hje];exact hl⟩
def qY (md:Region.Mode) (ops:Array Oper) (eff:Nat->Bool) (listed:Array Bool) (i:Nat):Bool:=
 (List.range ops.size).all fun j=>j==i || !eff j || listed.getD j true || match ops[j]? with
  | some oj=>oj.after.any (fun e=>Region.binds md e&&eff e.on&& !listed.getD e.on false)
  | none=>true
theorem yD {i:Nat} {listed:Array Bool} (h:qY md ops eff listed i=true) (j:Nat) (oj:Oper) (hj:ops[j]? =some oj) (hne:j≠i) (AX:eff j=true) (TF:listed.getD j true=false): ∃ e∈oj.after,Region.binds md e=true/\eff e.on=true/\listed.getD e.on false=false:=by simp only[qY,List.all_eq_true,List.mem_range]at h;have h1:=h j (Array.getElem?_eq_some_iff.1 hj).1;simp only[hj,Bool.or_eq_true,beq_iff_eq,hne,false_or,TF,Bool.false_eq_true,AX,Bool.not_true]at h1;obtain⟨e,he,hb⟩:=Array.any_eq_true'.1 h1;simp only[Bool.and_eq_true,Bool.not_eq_true']at hb;exact⟨e,he,hb.1.1,hb.1.2,hb.2⟩
def mX (md:Region.Mode) (ops:Array Oper) (eff:Nat->Bool):Nat->Nat->Array Bool->Bool
 | 0,_,listed=>(Region.ready md ops listed).isEmpty
 | fuel+1,k,listed=>(Region.ready md ops listed).contains k&&Region.free md ops listed k&&(!eff k || qY md ops eff listed k)&&mX md ops eff fuel (k+1) (listed.setIfInBounds k true)
def OY (md:Region.Mode) (ops:Array Oper) (eff:Nat->Bool):Bool:=Region.noSelect ops&&AU ops&&mX md ops eff ops.size 0 (Array.replicate ops.size false)
theorem Dz (hd:F.depth=none) {Q:Act->World->Prop} (hs:Region.noSelect ops=true):∀ (l:List Oper) (k:Nat) (listed:Array Bool) (a:Act) (w:World),C w->(∀ j,l[j]? =ops[k+j]?)-> mX md ops eff l.length k listed=true->kr F n P C ops eff Q l k a w->sI F n P C md ops eff Q l.length listed a w
 | [],_,_,_,_,_,_,hB,h=>⟨by simpa[mX]using hB,h⟩
 | o::l,k,listed,a,w,hC,hl,hB,h=>by
  have h0:ops[k]? =some o:=by simpa using(hl 0).symm
  simp only[List.length_cons,mX,Bool.and_eq_true,Bool.or_eq_true,Bool.not_eq_true']at hB;obtain⟨⟨⟨hr,hf⟩,he⟩,hB'⟩:=hB;have hr':k∈Region.ready md ops listed:=by simpa using hr
  have ih:∀ a' w',C w'->kr F n P C ops eff Q l (k+1) a' w'->sI F n P C md ops eff Q l.length (listed.setIfInBounds k true) a' w':=fun a' w' Dx h'=>
   Dz hd hs l (k+1) _ a' w' Dx (fun j=>by have:=hl (j+1);simpa[Nat.add_assoc,Nat.add_comm 1 j]using this) hB' h'
  unfold kr at h;cases LP:eff k with
  | false=>
   rw[LP]at h;obtain⟨v,hy,hK⟩:=im h;exact G9 h0 LP (Region.noSelect_spec hs) l.length listed a w (Region.free_spec h0 hf) hr' hy (ih _ _ hC hK)
  | true=>
   have he':qY md ops eff listed k=true:=he.resolve_left (by rw[LP];decide);refine Dy hd h0 LP (Region.noSelect_spec hs) l.length listed a w hC (Region.free_spec h0 hf) (yD he') hr' ?_;unfold LI;simp only[h0];exact vD (fun a' h'=>ih a' w hC h') (fun a' w' Dx h'=>ih a' w' Dx h') h
theorem mE (hF:∀ f,F.fn f) (hd:F.depth=none) {id:Nat} {Q:Exit->Act->World->Prop} {a:Act} {w:World} {l:List Oper} (hm:P.follows .mixedOrders=true) (eff:Nat->Bool) (hB:OY .any l.toArray eff=true) (C:World->Prop) (hC:C w.drew) (h:kr F n P C l.toArray eff (fun a' w'=>Q .normal a' w') l 0 a w.drew):(Code.region id l.toArray true).wpIn F n P Q a w:=by simp only[OY,Bool.and_eq_true]at hB;refine wpIn_region_any hm (mC (eff:=eff) hF hd hB.1.2 (Q:=fun a' w'=>Q .normal a' w') (fun _ _ _ h=>h) _ _ _ _ hC ?_);have:=Dz (md:=.any) (F:=F) (n:=n) (P:=P) hd hB.1.1 l 0 (Array.replicate l.length false) a w.drew hC (by simp) (by simpa using hB.2) h;simpa using this
theorem bR {eff:Nat->Bool} {Q:Act->World->Prop} {o:Oper} {rest:List Oper} {k:Nat} {a:Act} {w:World} (h:∀ K:Act->World->Prop,(∀ a w,kr F n P C ops eff Q rest (k+1) a w->K a w)->dU F n P C ops (eff k) o K a w):kr F n P C ops eff Q (o::rest) k a w:=h _ (fun _ _ h=>h)
theorem oq {eff:Nat->Bool} {Q:Act->World->Prop} {k:Nat} {a:Act} {w:World} (h:Q a w):kr F n P C ops eff Q [] k a w:=h
theorem dE {o:Oper} {K:Act->World->Prop} {a:Act} {w:World} (hw:Region.wanted o (yielded ops a.tmps)=true) (h:∃ v,(∀ W: {W//C W},aF P o a v W.1)/\K (a.put o.dst v) w):dU F n P C ops false o K a w:=by unfold dU;simp only[hw,if_true,Bool.false_eq_true,if_false];exact h
theorem eH {o:Oper} {K:Act->World->Prop} {a:Act} {w:World} (hw:Region.wanted o (yielded ops a.tmps)=true) (h:je F n P C o.dst a K ((execOp a.eval o).run P w)):dU F n P C ops true o K a w:=by unfold dU;simp only[hw,if_true];exact h
theorem eN {dst:Option Tmp} {a:Act} {K:Act->World->Prop} {f:FuncId} {args:Array Value} {w:World} (h:Calls P f args w fun e w''=>∃ v,e=.returned v/\C w''/\K (a.put dst v) w''):je Fence.wide 0 P C dst a K (.ok (.enter f args) w):=callsIn_wide.2 h
theorem DC {l:Nat} {dst:Option Tmp} {a:Act} {K:Act->World->Prop} {f:FuncId} {args:Array Value} {w:World} (h:Calls P f args w fun e w''=>∃ v,e=.returned v/\C w''/\K (a.put dst v) w''):je (Fence.wide.inRound l) 0 P C dst a K (.ok (.enter f args) w):=(callsIn_wide (n:=0)).2 h
theorem yE {id:Nat} {Q:Exit->Act->World->Prop} {a:Act} {w:World} {l:List Oper} (hm:P.follows .mixedOrders=true) (eff:Nat->Bool) (hB:OY .any l.toArray eff=true) (C:World->Prop) (hC:C w.drew) (h:kr Fence.wide 0 P C l.toArray eff (fun a' w'=>Q .normal a' w') l 0 a w.drew):(Code.region id l.toArray true).wp P Q a w:=
 wpIn_wide.1 (mE (n:=0) (fun _=>trivial) rfl hm eff hB C hC h)
end
end
section
open Go Go.RowKit
structure ae (R:Nat->Prop) (W W':World):Prop where
 os:W'.os=W.os
 tape:W'.tape=W.tape
 output:W'.output=W.output
 size:W.heap.size<=W'.heap.size
 keep:∀ k,R k->W'.heap[k]? =W.heap[k]?
structure Ext (W W':World):Prop where
 os:W'.os=W.os
 tape:W'.tape=W.tape
 output:W'.output=W.output
 drawn:W.drawn<=W'.drawn
 size:W.heap.size<=W'.heap.size
 keep:∀ k,k<W.heap.size->W'.heap[k]? =W.heap[k]?
theorem ae.refl (R:Nat->Prop) (W:World):ae R W W:=⟨rfl,rfl,rfl,aG _,fun _ _=>rfl⟩
theorem ae.mono {R R':Nat->Prop} {W W':World} (h:ae R W W') (hr:∀ k,R' k->R k):ae R' W W':=⟨h.os,h.tape,h.output,h.size,fun k hk=>h.keep k (hr k hk)⟩
theorem Ext.mono {R':Nat->Prop} {W W':World} (h:Ext W W') (hr:∀ k,R' k->k<W.heap.size):ae R' W W':=⟨h.os,h.tape,h.output,h.size,fun k hk=>h.keep k (hr k hk)⟩
theorem Ext.keeps {W W':World} (h:Ext W W'):ae (· <W.heap.size) W W':=h.mono fun _ h=>h
theorem Ext.below {W W':World} (h:Ext W W'):aa W W':=⟨h.os,h.tape,h.output,h.size,h.keep⟩
theorem ae.trans {R R':Nat->Prop} {A B C:World} (h:ae R A B) (k:ae R' B C) (hr:∀ k,R k->R' k):ae R A C:=
 ⟨k.os.trans h.os,k.tape.trans h.tape,k.output.trans h.output,Nat.le_trans h.size k.size,fun i hi=>(k.keep i (hr i hi)).trans (h.keep i hi)⟩
theorem ae.tr {R:Nat->Prop} {A B C:World} (h:ae R A B) (k:ae R B C):ae R A C:=h.trans k fun _ h=>h
theorem ae.drew {R:Nat->Prop} {A B:World} (h:ae R A B):ae R A B.drew:=⟨h.os,h.tape,h.output,h.size,h.keep⟩
theorem ae.drewN {R:Nat->Prop} {A B:World} (h:ae R A B) (n:Nat):ae R A (B.drewN n):=⟨h.os,h.tape,h.output,h.size,h.keep⟩
theorem ae.below {B:Nat} {W W':World} (h:ae (· <B) W W'):Below B W W':=⟨h.os,h.tape,h.output,h.size,h.keep⟩
theorem ae.ai {B:Nat} {W W':World} (h:Below B W W') {R:Nat->Prop} (hr:∀ k,R k->k<B):ae R W W':=⟨h.os,h.tape,h.output,h.size,fun k hk=>h.block k (hr k hk)⟩
theorem ae.bB {row:Option Nat} {W W':World} (h:W.grownBy W' row) {R:Nat->Prop} (hr:∀ k,R k->k<W.heap.size/\some k≠row):ae R W W':=⟨h.os,h.tape,h.output,h.size,fun k hk=>h.block k (hr k hk).1 (hr k hk).2⟩
theorem ae.alloc {R:Nat->Prop} {A B:World} (h:ae R A B) (hr:∀ k,R k->k<B.heap.size) (o:Obj):ae R A (B.alloc o):=
 ⟨h.os,h.tape,h.output,Nat.le_trans h.size (by simp),fun k hk=>(Below.heap_alloc _ _ _ (hr k hk)).trans (h.keep k hk)⟩
theorem ae.setCell {R:Nat->Prop} {A B:World} (h:ae R A B) {p:Addr} (hp:¬R p.block) (u:Value):ae R A (B.setCell p u):=
 ⟨h.os,h.tape,h.output,Nat.le_trans h.size (by simp[World.setCell]),fun k hk=>(Below.heap_setCell _ _ _ _ (fun e=>hp (e▸hk))).trans (h.keep k hk)⟩
theorem ae.putObj {R:Nat->Prop} {A B:World} (h:ae R A B) {l:Nat} (hl:¬R l) (o:Obj):ae R A (B.putObj l o):=
 ⟨h.os,h.tape,h.output,Nat.le_trans h.size (by simp),fun k hk=>(World.putObj_heap_other (by rintro rfl;exact hl hk)).trans (h.keep k hk)⟩
theorem ae.cell {R:Nat->Prop} {W W':World} (h:ae R W W') {p:Addr} (hp:R p.block):W'.cell? p=W.cell? p:=World.cell?_of_block (w:=W) (h.keep p.block hp)
theorem ae.frozen {R:Nat->Prop} {W W':World} (h:ae R W W') {p:Addr} (hp:R p.block):W'.frozen? p=W.frozen? p:=World.frozen?_of_block (w:=W) (h.keep p.block hp)
theorem Ext.cell {W W':World} (h:Ext W W') {p:Addr} (hp:p.block<W.heap.size):W'.cell? p=W.cell? p:=World.cell?_of_block (w:=W) (h.keep p.block hp)
theorem Ext.frozen {W W':World} (h:Ext W W') {p:Addr} (hp:p.block<W.heap.size):W'.frozen? p=W.frozen? p:=World.frozen?_of_block (w:=W) (h.keep p.block hp)
theorem Ext.trans {A B C:World} (h:Ext A B) (k:Ext B C):Ext A C:=
 ⟨k.os.trans h.os,k.tape.trans h.tape,k.output.trans h.output,Nat.le_trans h.drawn k.drawn,Nat.le_trans h.size k.size,fun i hi=>(k.keep i (aD hi h.size)).trans (h.keep i hi)⟩
theorem Ext.cells {A B:World} (h:Ext A B):(∀ b o,b<A.heap.size->B.cell? ⟨b,o,none⟩=A.cell? ⟨b,o,none⟩)/\(∀ b o,b<A.heap.size->B.frozen? ⟨b,o,none⟩=A.frozen? ⟨b,o,none⟩):=
 ⟨fun b o hb=>h.cell (p:=⟨b,o,none⟩) hb,fun b o hb=>h.frozen (p:=⟨b,o,none⟩) hb⟩
theorem Ha {A B:World} (h:aa A B):(∀ b o,b<A.heap.size->B.cell? ⟨b,o,none⟩=A.cell? ⟨b,o,none⟩)/\(∀ b o,b<A.heap.size->B.frozen? ⟨b,o,none⟩=A.frozen? ⟨b,o,none⟩):=
 ⟨fun b o hb=>h.cell (p:=⟨b,o,none⟩) hb,fun b o hb=>h.frozen (p:=⟨b,o,none⟩) hb⟩
theorem Ext.alloc {A B:World} (h:Ext A B) (o:Obj):Ext A (B.alloc o):=
 ⟨h.os,h.tape,h.output,h.drawn,Nat.le_trans h.size (by simp),fun k hk=>(Below.heap_alloc _ _ _ (aD hk h.size)).trans (h.keep k hk)⟩
theorem Ext.drew {A B:World} (h:Ext A B):Ext A B.drew:=⟨h.os,h.tape,h.output,Nat.le_succ_of_le h.drawn,h.size,h.keep⟩
theorem Ext.setCell {A B:World} (h:Ext A B) {p:Addr} (hp:A.heap.size<=p.block) (u:Value):Ext A (B.setCell p u):=
 ⟨h.os,h.tape,h.output,h.drawn,Nat.le_trans h.size (by simp[World.setCell]),fun k hk=>(Below.heap_setCell _ _ _ _ (by omega)).trans (h.keep k hk)⟩
theorem Ext.putObj {A B:World} (h:Ext A B) {l:Nat} (hl:A.heap.size<=l) (o:Obj):Ext A (B.putObj l o):=
 ⟨h.os,h.tape,h.output,h.drawn,Nat.le_trans h.size (by simp),fun k hk=>(World.putObj_heap_other (by omega)).trans (h.keep k hk)⟩
theorem Ext.refl (A:World):Ext A A:=⟨rfl,rfl,rfl,aG _,aG _,fun _ _=>rfl⟩
theorem Ext.grow {W W':World} (h:Ext W W'):∃ q os,W'=Sort.grow (W.drewN q) os:=by
 refine⟨W'.drawn-W.drawn,W'.heap.extract W.heap.size W'.heap.size,?_⟩;have hh:W'.heap=W.heap++W'.heap.extract W.heap.size W'.heap.size:=by
  apply Array.ext_getElem?;intro k;rw[Array.getElem?_append];split
  ·exact h.keep k ‹_›
  ·rw[Array.getElem?_extract]
   have hs:=h.size;split
   ·congr 1;omega
   ·rw[Array.getElem?_eq_none];omega
 have h1:=h.os;have h2:=h.tape;have h3:=h.output;have h4:=h.drawn;have h5:W.drawn+(W'.drawn-W.drawn)=W'.drawn:=by omega
 cases W with
 | mk a b c d e=>
 cases W' with
 | mk a' b' c' d' e'=>
  simp only[Sort.grow,World.drewN]at*;subst h1 h2 h3;rw[h5, <-hh]
theorem ae.step {S:Nat->Prop} {A B C:World} (h:ae S A B) (hS:∀ k,S k->k<A.heap.size) (hx:Ext B C):ae S A C:=h.tr (hx.mono fun k hk=>aD (hS k hk) h.size)
theorem ae.Wk {S:Nat->Prop} {A B C:World} (h:ae S A B) (hS:∀ k,S k->k<A.heap.size) (hx:aa B C):ae S A C:=h.tr (ae.ai hx fun k hk=>aD (hS k hk) h.size)
def ar (w:World) (b:Nat) (c:Array Value) (t:TypeId):Prop:=w.heap[b]? =some (.cells c t (0,0))
theorem ar.cell {w:World} {b:Nat} {c:Array Value} {t:TypeId} (h:ar w b c t) (k:Nat):w.cell? ⟨b,k,none⟩=c[k]? :=by unfold ar at h;simp[World.cell?,h]
theorem ar.frozen {w:World} {b:Nat} {c:Array Value} {t:TypeId} (h:ar w b c t) (k:Nat):w.frozen? ⟨b,k,none⟩=false:=by unfold ar at h;simp[World.frozen?,h]
theorem ar.lt {w:World} {b:Nat} {c:Array Value} {t:TypeId} (h:ar w b c t):b<w.heap.size:=(Array.getElem?_eq_some_iff.1 h).1
theorem ar.keeps {w w':World} {b:Nat} {c:Array Value} {t:TypeId} (h:ar w b c t) {R:Nat->Prop} (hk:ae R w w') (hb:R b):ar w' b c t:=(hk.keep b hb).trans h
theorem ar.ext {w w':World} {b:Nat} {c:Array Value} {t:TypeId} (h:ar w b c t) (hk:Ext w w'):ar w' b c t:=(hk.keep b h.lt).trans h
theorem ar.below {w w':World} {b n:Nat} {c:Array Value} {t:TypeId} (h:ar w b c t) (hk:Below n w w') (hb:b<n):ar w' b c t:=(hk.block b hb).trans h
theorem ar.grown {w w':World} {b:Nat} {c:Array Value} {t:TypeId} {row:Option Nat} (h:ar w b c t) (hg:w.grownBy w' row) (hb:some b≠row):ar w' b c t:=(hg.block b h.lt hb).trans h
theorem ar.same {w w':World} {b:Nat} {c:Array Value} {t:TypeId} (h:ar w b c t) (hk:w'.heap[b]? =w.heap[b]?):ar w' b c t:=hk.trans h
theorem ar.alloc {w:World} {b:Nat} {c:Array Value} {t:TypeId} (h:ar w b c t) (o:Obj):ar (w.alloc o) b c t:=h.ext ((Ext.refl w).alloc o)
theorem ar.new (w:World) (c:Array Value) (t:TypeId):ar (w.alloc (.cells c t (0,0))) w.heap.size c t:=World.alloc_heap_new w _
theorem ar.at {w:World} {b b':Nat} {c:Array Value} {t:TypeId} (h:ar w b c t) (e:b=b'):ar w b' c t:=e▸h
theorem ar.set {w:World} {b:Nat} {c:Array Value} {t:TypeId} (h:ar w b c t) (k:Nat) (v:Value):ar (w.setCell ⟨b,k,none⟩ v) b (c.setIfInBounds k v) t:=by unfold ar at*;simp[World.setCell,Array.getElem?_modify,h]
theorem ar.other {w:World} {b:Nat} {c:Array Value} {t:TypeId} (h:ar w b c t) {p:Addr} (hp:p.block≠b) (v:Value):ar (w.setCell p v) b c t:=h.same (Below.heap_setCell _ _ _ _ (Ne.symm hp))
theorem ar.put {w:World} {b:Nat} {c:Array Value} {t:TypeId} (h:ar w b c t) {l:Nat} (hl:l≠b) (o:Obj):ar (w.putObj l o) b c t:=h.same (World.putObj_heap_other (Ne.symm hl))
theorem cO {w:World} {b:Nat} {c:Array Value} {t:TypeId} (h:ar w b c t):∀ j u,c.toList[j]? =some u->w.cell? ((⟨b,0,none⟩:Addr).add j)=some u:=fun j u hu=>by
 have XJ:(⟨b,0,none⟩:Addr).add j=⟨b,j,none⟩:=by unfold Addr.add;split<;>simp_all
 rw[XJ,h.cell j];simpa using hu
theorem cell_far (w:World) (p a:Addr) (v:Value) (h:p.block≠a.block):(w.setCell p v).cell? a=w.cell? a:=World.cell?_setCell_other _ _ _ _ (fun e=>h (congrArg Addr.block e))
theorem eO {P:Program} {id:Nat} {Q:Exit->Act->World->Prop} {a:Act} {w:World} {l:List Oper} (S:Nat->Prop) (hm:P.follows .mixedOrders=true) (eff:Nat->Bool) (hB:OY .any l.toArray eff=true) (h:∀ C:World->Prop,(∀ W,C W↔ae S w W)->Nonempty {W//C W} ->∀ w',ae S w w'->(∀ b:Nat,w'.heap[b]? =w.heap[b]?)->w'.heap.size=w.heap.size->Ext w w'->kr Fence.wide 0 P C l.toArray eff (fun a' w'=>Q .normal a' w') l 0 a w'):(Code.region id l.toArray true).wp P Q a w:=
 have hk:ae S w w.drew:=(ae.refl S w).drew
 yE hm eff hB (ae S w) hk (h _ (fun _=>Iff.rfl) ⟨⟨_,hk⟩⟩ _ hk (fun _=>rfl) rfl (Ext.refl w).drew)
theorem sJ {F:Fence} (hF:∀ f,F.fn f) (hd:F.depth=none) {P:Program} {id:Nat} {Q:Exit->Act->World->Prop} {a:Act} {w:World} {l:List Oper} (S:Nat->Prop) (hm:P.follows .mixedOrders=true) (eff:Nat->Bool) (hB:OY .any l.toArray eff=true) (h:∀ C:World->Prop,(∀ W,C W↔ae S w W)->Nonempty {W//C W} ->∀ w',ae S w w'->(∀ b:Nat,w'.heap[b]? =w.heap[b]?)->w'.heap.size=w.heap.size->Ext w w'->kr F 0 P C l.toArray eff (fun a' w'=>Q .normal a' w') l 0 a w'):(Code.region id l.toArray true).wpIn F 0 P Q a w:=
 have hk:ae S w w.drew:=(ae.refl S w).drew
 mE hF hd hm eff hB (ae S w) hk (h _ (fun _=>Iff.rfl) ⟨⟨_,hk⟩⟩ _ hk (fun _=>rfl) rfl (Ext.refl w).drew)
theorem dy {C:World->Prop} {S:Nat->Prop} {w:World} (hC:∀ W,C W↔ae S w W) {p:Addr} {v:Option Value} (hs:S p.block) (h:w.cell? p=v):∀ W: {W//C W},W.1.cell? p=v:=fun W=>(((hC W.1).1 W.2).cell hs).trans h
theorem gK (f:FuncId):Fence.wide.fn f=True:=rfl
theorem dI:Fence.wide.depth=none:=rfl
def Move (d:Bool) (T:Nat->Prop) (W W':World):Prop:=ae (fun k=>k<W.heap.size/\¬T k) W W'/\(d=true->W.drawn<=W'.drawn)
theorem Move.put {d:Bool} {T:Nat->Prop} {W:World} {l:Nat} (hl:T l) (o:Obj):Move d T W (W.putObj l o):=⟨(ae.refl _ _).putObj (fun h=>h.2 hl) _,fun _=>aG _⟩
theorem Move.ext {d:Bool} {T:Nat->Prop} {W W':World} (h:Ext W W'):Move d T W W':=⟨h.mono fun _ h=>h.1,fun _=>h.drawn⟩
theorem Move.refl (d:Bool) (T:Nat->Prop) (W:World):Move d T W W:=.ext (Ext.refl W)
theorem Move.mono {d:Bool} {T T':Nat->Prop} {W W':World} (h:Move d T W W') (ht:∀ k,T k->T' k):Move d T' W W':=⟨h.1.mono fun k hk=>⟨hk.1,fun h=>hk.2 (ht k h)⟩,h.2⟩
def eP {β:Type} (d:Bool) (B:Nat) (J:β->(Nat->Prop)->World->Prop):Prop:=
 ∀ s T T' W W',J s T W->(∀ k,T k->B<=k/\k<W.heap.size)->(∀ k,T' k->B<=k/\k<W'.heap.size)->(∀ k,T k->T' k)->(∀ k,T' k->T k\/W.heap.size<=k)->Move d T W W'->J s T' W'
theorem eP.ext {d:Bool} {β:Type} {B:Nat} {J:β->(Nat->Prop)->World->Prop} (h:eP d B J) {s:β} {T:Nat->Prop} {W W':World} (hj:J s T W) (hT:∀ k,T k->B<=k/\k<W.heap.size) (hx:Ext W W'):J s T W':=
 h s T T W W' hj hT (fun k hk=>⟨(hT k hk).1,aD (hT k hk).2 hx.size⟩) (fun _ h=>h) (fun _ h=>.inl h) (.ext hx)
theorem ar.mY {d:Bool} {B:Nat} {T:Nat->Prop} {W W':World} {b:Nat} {c:Array Value} {t:TypeId} (h:ar W b c t) (hT:∀ k,T k->B<=k/\k<W.heap.size) (hk:Move d T W W') (hb:b<B):ar W' b c t:=
 h.keeps hk.1 ⟨h.lt,fun ht=>by have:=(hT _ ht).1;omega⟩
theorem Ext.mY {B:Nat} {T:Nat->Prop} {A W W':World} (h:Ext A W) (hT:∀ k,T k->B<=k/\k<W.heap.size) (hk:Move true T W W') (hA:A.heap.size<=B):Ext A W':=
 ⟨hk.1.os.trans h.os,hk.1.tape.trans h.tape,hk.1.output.trans h.output,Nat.le_trans h.drawn (hk.2 rfl),Nat.le_trans h.size hk.1.size,
  fun k tI=>(hk.1.keep k ⟨aD tI h.size,fun ht=>by have:=(hT _ ht).1;omega⟩).trans (h.keep k tI)⟩
theorem iq {d:Bool} {B n:Nat} {T:Nat->Prop} {A W W':World} (h:Below n A W) (hT:∀ k,T k->B<=k/\k<W.heap.size) (hk:Move d T W W') (hn:n<=A.heap.size) (hB:n<=B):Below n A W':=
 ⟨hk.1.os.trans h.os,hk.1.tape.trans h.tape,hk.1.output.trans h.output,Nat.le_trans h.size hk.1.size,fun k tI=>(hk.1.keep k ⟨by have:=h.size;omega,fun ht=>by have:=(hT _ ht).1;omega⟩).trans (h.block k tI)⟩
theorem aj {W W':World} {base:Nat} {e:TypeId} {size:Nat} {v:Value} {n:Nat} {xs:List Value} (h:W.ownsRow base e size v n xs) {R:Nat->Prop} (hk:ae R W W') (hr:∀ k,v.ownBlock=some k->R k):W'.ownsRow base e size v n xs:=by
 refine⟨h.1,?_⟩;rcases h.2 with hn | ⟨g,cap,cur,rfl,hb,hgg,rest⟩
 ·exact .inl hn
 ·exact .inr ⟨g,cap,cur,rfl,hb,(hk.keep g (hr g rfl)).trans hgg,rest⟩
theorem ownsRow_form {W:World} {base:Nat} {e:TypeId} {size:Nat} {v:Value} {n:Nat} {xs:List Value} (h:W.ownsRow base e size v n xs):∃ a c,v=.slice a n c:=by
 rcases h.2 with⟨rfl,rfl⟩ | ⟨g,cap,cur,rfl,_⟩
 ·exact⟨none,0,rfl⟩
 ·exact⟨_,cap,rfl⟩
theorem aH {W:World} {base base':Nat} {e:TypeId} {size:Nat} {v:Value} {n:Nat} {xs:List Value} (h:W.ownsRow base e size v n xs) (hb:base'<=base):W.ownsRow base' e size v n xs:=by
 refine⟨h.1,?_⟩;rcases h.2 with hn | ⟨g,cap,cur,rfl,h1,rest⟩
 ·exact .inl hn
 ·exact .inr ⟨g,cap,cur,rfl,Nat.le_trans hb h1,rest⟩
section
variable {P:Program} {d:Bool}
def Seq {α:Type} (d:Bool) (P:Program) (g:Nat) (lb:Array Value) (mZ:α->Array Value) (R:Nat->Prop) (xs:List α) (w:World):Prop:=
 ∀ (l:Nat) (J Jx:List α->(Nat->Prop)->World->Prop) (W:World),ae (· <w.heap.size) w W->eP d W.heap.size J->eP d W.heap.size Jx->
  (∀ pre x T W1,(pre++ [x])<+:xs->(∀ k,T k->W.heap.size<=k/\k<W1.heap.size)->ae R W W1->J pre T W1->
   YieldAt Fence.wide 0 P l (mZ x) W1 fun e W'=>
    (e=.returned (.bool true)/\J (pre++ [x]) T W'/\ae (fun k=>R k\/T k) W1 W')\/(e=.returned (.bool false)/\Jx (pre++ [x]) T W'/\ae T W1 W'))->
  J [] (fun _=>False) W->
  Calls P g (#[.func (.yield l) #[] #[]]++lb) W fun e W'=>(∃ v,e=.returned v)/\∃ T,(∀ k,T k->W.heap.size<=k/\k<W'.heap.size)/\(J xs T W'\/∃ pre,pre<+:xs/\Jx pre T W')
theorem Seq.at {α:Type} {P:Program} {d:Bool} {g:Nat} {lb:Array Value} {mZ:α->Array Value} {R:Nat->Prop} {xs:List α} {w w':World} (h:Seq d P g lb mZ R xs w) (hk:ae (· <w.heap.size) w w'):Seq d P g lb mZ R xs w':=
 fun l J Jx W hK=>h l J Jx W (hk.tr (hK.mono fun _ tI=>aD tI hk.size))
def Hb {α:Type} (R T:Nat->Prop) (W0:World) (I:List α->(Nat->Prop)->World->Prop) (Ix:Code->List α->(Nat->Prop)->World->Prop) (xs:List α):Exit->Act->World->Prop
 | .normal,_,W'=>ae (fun k=>R k\/T k) W0 W'/\I xs T W'
 | .ret,_,W'=>ae T W0 W'/\Ix .ret xs T W'
 | .exit id,_,W'=>ae T W0 W'/\Ix (.exit id) xs T W'
 | .goto t,_,W'=>ae T W0 W'/\Ix (.goto t) xs T W'
 | .panic _,_,_=>False
 | .outgrown,_,_=>False
variable {F:Fence}
theorem Hc {α:Type} (hF:∀ f,F.fn f) (hC:∀ {f args w R},Calls P f args w R->CallsIn F 0 P f args w R) (hYd:∀ {l f tmps Dw body w R},RoundIn F 0 P l f tmps Dw body w R->RoundIn Fence.wide 0 P l f tmps Dw body w R) {gf:Nat} {lb:Array Value} {mZ:α->Array Value} {R:Nat->Prop} {xs:List α} {w:World} (hseq:Seq d P gf lb mZ R xs w) {ps:Array Tmp} {assign body:Code} {fn:FuncId} (tmps:Array Value) (dfr:Nat) (TG:∀ x,(mZ x).size=ps.size) (Ug:∀ k,R k->k<w.heap.size) (l:Nat) (T0:Nat->Prop) (OA:∀ k,T0 k->w.heap.size<=k/\k<l+1) (XL:T0 l) (W1:World) (hls:W1.heap.size=l+1) (hl:W1.heap[l]? =some (.loop {state:=.ready,pending:=none,fn,tmps,params:=ps,assign,body,defers:=dfr})) (hW1:Ext w W1) (I:List α->(Nat->Prop)->World->Prop) (Ix:Code->List α->(Nat->Prop)->World->Prop) (hI:eP d w.heap.size I) (Uh:∀ c,eP d w.heap.size (Ix c)) (h0:I [] T0 W1) (Ia:List α×α×Act->(Nat->Prop)->World->Prop) (hIa:eP d w.heap.size Ia) (qZ:∀ pre x T W,pre++ [x]<+:xs->(∀ k,T0 k->T k)->(∀ k,T k->w.heap.size<=k/\k<W.heap.size)->ae R w W->I pre T W-> assign.wpIn (F.inRound l) 0 P (Exit.then (fun a1 W'=>ae (fun k=>R k\/T k) W W'/\Ia (pre,x,a1) T W') (fun _ _ _=>False)) {tmps:=(ps.zip (mZ x)).foldl (fun t (p,v)=>t.setIfInBounds p v) tmps,defers:=[]} W)
  (DD:∀ pre x T a1 W,pre++ [x]<+:xs->(∀ k,T0 k->T k)->(∀ k,T k->w.heap.size<=k/\k<W.heap.size)->ae R w W->(∃ r:Loop,W.heap[l]? =some (.loop r)/\r.defers=dfr)->Ia (pre,x,a1) T W->
   body.wpIn (F.inRound l) 0 P (Hb R T W I Ix (pre++ [x])) a1 W):
  CallsIn F 0 P gf (#[.func (.yield l) #[] #[]]++lb) W1 fun e W3=>(∃ v,e=.returned v)/\∃ T W4 jump,(Instr.endLoop l).run P W3=.ok jump W4/\(∀ k,T0 k->T k)/\(∀ k,T k->w.heap.size<=k/\k<W4.heap.size)/\
   (∀ k,T0 k->k≠l->W4.heap[k]? =W1.heap[k]?)/\ae (fun k=>R k\/T0 k) W1 W1/\
   match jump with
   | none=>I xs T W4
   | some c=>∃ pre,pre<+:xs/\Ix c pre T W4:=by
 obtain⟨rec,sK⟩:∃ rec:LoopState->Option Code->Loop,rec=fun st pe=> {state:=st,pending:=pe,fn,tmps,params:=ps,assign,body,defers:=dfr} :=⟨_,rfl⟩
 have vG:W1.heap[l]? =some (.loop (rec .ready none)):=by rw[sK];exact hl
 have hTu:∀ {T:Nat->Prop} {W:World},(∀ k,T k->W1.heap.size<=k/\k<W.heap.size)->l<W.heap.size->∀ k,(T k\/T0 k)->w.heap.size<=k/\k<W.heap.size:=fun hT hlW k hk=>by
  have hsz:=hW1.size;rcases hk with hk | hk
  ·have:=hT k hk;omega
  ·have:=OA k hk;omega
 -- the invariant with the record beside it
 have Pb:∀ {β:Type} {G:β->(Nat->Prop)->World->Prop} (rs:β->Loop->Prop),eP d w.heap.size G->
   eP d W1.heap.size (fun (s:β) T W=>G s (fun k=>T k\/T0 k) W/\(∃ r,rs s r/\W.heap[l]? =some (.loop r))/\(∀ k,T0 k->k≠l->W.heap[k]? =W1.heap[k]?)/\l<W.heap.size):=by
  intro β G rs hG s T T' W W' hs h1 h2 h3 h4 h5;obtain⟨hg,⟨r,hr,hlW⟩,hk,hlt⟩:=hs;have Pc:∀ k,T0 k->W'.heap[k]? =W.heap[k]? :=fun k hk=>h5.1.keep k ⟨by have:=(OA k hk).2;omega,fun ht=>by have:=(h1 k ht).1;have:=(OA k hk).2;omega⟩
  refine⟨hG s _ _ W W' hg (hTu h1 hlt) (hTu h2 (aD hlt h5.1.size)) (fun k hk=>hk.imp (h3 k) id) (fun k hk=>?_) (h5.mono fun k hk=>.inl hk),⟨r,hr,(Pc l XL).trans hlW⟩,fun k tJ hne=>(Pc k tJ).trans (hk k tJ hne),aD hlt h5.1.size⟩;rcases hk with hk | hk
  ·exact(h4 k hk).imp .inl id
  ·exact .inl (.inr hk)
 have zv:¬R l:=fun h=>by have:=Ug l h;have:=(OA l XL).1;omega
 refine CallsIn.mono (hC (hseq l (fun pre T W=>I pre (fun k=>T k\/T0 k) W/\(∃ r,r=rec .ready none/\W.heap[l]? =some (.loop r))/\(∀ k,T0 k->k≠l->W.heap[k]? =W1.heap[k]?)/\l<W.heap.size)
  (fun pre T W=>∃ c,Ix c pre (fun k=>T k\/T0 k) W/\(∃ r,r=rec .done (some c)/\W.heap[l]? =some (.loop r))/\(∀ k,T0 k->k≠l->W.heap[k]? =W1.heap[k]?)/\l<W.heap.size)
  W1 hW1.keeps (Pb (fun _ r=>r=rec .ready none) hI)
  (fun s T T' W W' ⟨c,hc⟩ h1 h2 h3 h4 h5=>⟨c,Pb (fun _ r=>r=rec .done (some c)) (Uh c) s T T' W W' hc h1 h2 h3 h4 h5⟩) ?_
  ⟨hI _ _ _ W1 W1 h0 (fun k hk=>⟨(OA k hk).1,by have:=(OA k hk).2;omega⟩) (hTu (fun _ h=>h.elim) (by omega)) (fun k hk=>.inr hk) (fun k hk=>.inl (hk.resolve_left id)) (Move.refl _ _ _),⟨_,rfl,vG⟩,fun _ _ _=>rfl,by omega⟩)) ?_
 ·-- one round
  rintro pre x T W bS hT hRW ⟨hi,⟨r0,hr0,hlW⟩,hkD,hlt⟩;subst hr0;have hy:=run_yield (P:=P) (args:=mZ x) hlW (by rw[sK];exact TG x);rw[sK]at hy;have TH:=hTu hT hlt;have abG:ae R w W:=(hW1.mono Ug).tr hRW;refine⟨fn,_,assign,body,hy,hYd (roundIn_of_wpIn (hF fn) (wpIn_mono (qZ pre x _ W bS (fun k hk=>.inr hk) TH abG hi) ?_))⟩;rintro e a1 Wa hp;cases e with
  | normal=>
   obtain⟨hka,hia⟩:=hp;have hla:Wa.heap[l]? =some (.loop (rec .ready none)):=(hka.keep l (.inr (.inr XL))).trans hlW;have XM:l<Wa.heap.size:=aD hlt hka.size;refine⟨_,run_beginRound hla (by rw[sK]),?_⟩;obtain⟨Wb,hWb⟩:∃ Wb,Wb=Wa.putObj l (.loop {rec .ready none with state:=.busy}):=⟨_,rfl⟩;rw[<-hWb];have kJ:Wb.heap.size=Wa.heap.size:=by rw[hWb];simp
   have Ui:Wb.heap[l]? =some (.loop {rec .ready none with state:=.busy}):=by rw[hWb];exact World.putObj_heap_same XM
   have hab:∀ {S:Nat->Prop},¬S l->ae S Wa Wb:=fun hS=>by rw[hWb];exact(ae.refl _ _).putObj hS _
   have Pd:∀ k,(T k\/T0 k)->w.heap.size<=k/\k<Wa.heap.size:=fun k hk=>⟨(TH k hk).1,aD (TH k hk).2 hka.size⟩
   have hib:Ia (pre,x,a1) (fun k=>T k\/T0 k) Wb:=hIa _ _ _ Wa Wb hia Pd (fun k hk=>by rw[kJ];exact Pd k hk) (fun _ h=>h) (fun _ h=>.inl h) (by rw[hWb];exact .put (.inr XL) _);have afW:ae R w Wb:=abG.tr ((hka.mono fun k hk=>.inl hk).tr (hab zv));refine wpIn_mono (DD pre x _ a1 Wb bS (fun k hk=>.inr hk) (fun k hk=>by rw[kJ];exact Pd k hk) afW ⟨_,Ui,by rw[sK]⟩ hib) ?_
   -- the round's end
   have fin:∀ (jump:Option Code) (Wc:World) (G:(Nat->Prop)->World->Prop),(∀ T T' W W',G T W->(∀ k,T k->w.heap.size<=k/\k<W.heap.size)->(∀ k,T' k->w.heap.size<=k/\k<W'.heap.size)->(∀ k,T k->T' k)->(∀ k,T' k->T k\/W.heap.size<=k)->Move d T W W'->G T' W')->
     ae (fun k=>T k\/T0 k) Wb Wc->G (fun k=>T k\/T0 k) Wc->
     ∃ Wd,(Instr.endRound l jump).run P Wc=.ok (.bool jump.isNone) Wd/\G (fun k=>T k\/T0 k) Wd/\Wd.heap[l]? =some (.loop (rec (if jump.isNone then .ready else .done) jump))/\(∀ k,T0 k->k≠l->Wd.heap[k]? =W1.heap[k]?)/\l<Wd.heap.size/\ae T W Wd/\(∀ S:Nat->Prop,¬S l->ae S Wb Wc->ae S Wa Wd):=by
    intro jump Wc G hG yF hg;have hlc:Wc.heap[l]? =some (.loop {rec .ready none with state:=.busy}):=(yF.keep l (.inr XL)).trans Ui;have abH:l<Wc.heap.size:=by rw[<-kJ]at XM;exact aD XM yF.size
    have hend:=run_endRound (P:=P) jump hlc;rw[sK]at hend ⊢;have abI:∀ k,(T k\/T0 k)->w.heap.size<=k/\k<Wc.heap.size:=fun k hk=>⟨(Pd k hk).1,by have:=(Pd k hk).2;rw[<-kJ]at this;exact aD this yF.size⟩
    have Uj:∀ {S:Nat->Prop},¬S l->ae S Wa (Wc.putObj l (.loop (rec (if jump.isNone then .ready else .done) jump)))\/¬ae S Wb Wc:=fun {S} hS=>by
     by_cases h:ae S Wb Wc
     ·exact .inl (((hab hS).tr h).putObj hS _)
     ·exact .inr h
    have yG:¬T l:=fun h=>by have:=(hT l h).1;omega
    rw[sK]at Uj;refine⟨_,hend,hG _ _ Wc _ hg abI (fun k hk=>by simpa using abI k hk) (fun _ h=>h) (fun _ h=>.inl h) (.put (.inr XL) _),World.putObj_heap_same abH,fun k hk hne=>?_,by simpa using abH,?_,fun S hS hk=>(Uj hS).resolve_right (fun h=>h hk)⟩
    ·rw[World.putObj_heap_other hne,yF.keep k (.inr hk),hWb,World.putObj_heap_other hne,hka.keep k (.inr (.inr hk))]
     exact hkD k hk hne
    ·exact(hka.mono fun k hk=>.inr (.inl hk)).tr ((Uj yG).resolve_right (fun h=>h (yF.mono fun k hk=>.inl hk)))
   rintro e a3 Wc hp;cases e with
   | normal=>
    obtain⟨yF,XN⟩:=hp;obtain⟨Wd,hend,hg,XP,Hd,He,hTk,hS⟩:=fin none Wc (I (pre++ [x])) (fun T T' W W'=>hI (pre++ [x]) T T' W W') (yF.mono fun k hk=>.inr hk) XN;refine⟨_,Wd,hend,.inl ⟨rfl,⟨hg,⟨_,rfl,XP⟩,Hd,He⟩,?_⟩⟩;have yG:¬ (R l\/T l):=fun h=>h.elim zv (fun h=>by have:=(hT l h).1;omega)
    exact(hka.mono fun k hk=>hk.imp id .inl).tr (hS _ yG (yF.mono fun k hk=>hk.imp id .inl))
   | ret=>
    obtain⟨yF,XN⟩:=hp;obtain⟨Wd,hend,hg,XP,Hd,He,hTk,hS⟩:=fin (some .ret) Wc (Ix .ret (pre++ [x])) (fun T T' W W'=>Uh .ret (pre++ [x]) T T' W W') yF XN;exact⟨_,Wd,hend,.inr ⟨rfl,⟨_,hg,⟨_,rfl,XP⟩,Hd,He⟩,hTk⟩⟩
   | exit id=>
    obtain⟨yF,XN⟩:=hp;obtain⟨Wd,hend,hg,XP,Hd,He,hTk,hS⟩:=fin (some (.exit id)) Wc (Ix (.exit id) (pre++ [x])) (fun T T' W W'=>Uh (.exit id) (pre++ [x]) T T' W W') yF XN;exact⟨_,Wd,hend,.inr ⟨rfl,⟨_,hg,⟨_,rfl,XP⟩,Hd,He⟩,hTk⟩⟩
   | goto t=>
    obtain⟨yF,XN⟩:=hp;obtain⟨Wd,hend,hg,XP,Hd,He,hTk,hS⟩:=fin (some (.goto t)) Wc (Ix (.goto t) (pre++ [x])) (fun T T' W W'=>Uh (.goto t) (pre++ [x]) T T' W W') yF XN;exact⟨_,Wd,hend,.inr ⟨rfl,⟨_,hg,⟨_,rfl,XP⟩,Hd,He⟩,hTk⟩⟩
   | panic ch=>exact hp.elim
   | outgrown=>exact hp.elim
  | exit id=>exact hp.elim
  | goto t=>exact hp.elim
  | ret=>exact hp.elim
  | panic ch=>exact hp.elim
  | outgrown=>exact hp.elim
 ·-- behind the iterator
  rintro e W2 ⟨hv,T,hT,h⟩;refine⟨hv,fun k=>T k\/T0 k,?_⟩
  have fin:∀ (st:LoopState) (jump:Option Code) (G:(Nat->Prop)->World->Prop),st≠ .busy->(∀ T T' W W',G T W->(∀ k,T k->w.heap.size<=k/\k<W.heap.size)->(∀ k,T' k->w.heap.size<=k/\k<W'.heap.size)->(∀ k,T k->T' k)->(∀ k,T' k->T k\/W.heap.size<=k)->Move d T W W'->G T' W')->
    G (fun k=>T k\/T0 k) W2->W2.heap[l]? =some (.loop (rec st jump))->(∀ k,T0 k->k≠l->W2.heap[k]? =W1.heap[k]?)->l<W2.heap.size->
    ∃ W4,(Instr.endLoop l).run P W2=.ok jump W4/\(∀ k,(T k\/T0 k)->w.heap.size<=k/\k<W4.heap.size)/\(∀ k,T0 k->k≠l->W4.heap[k]? =W1.heap[k]?)/\G (fun k=>T k\/T0 k) W4:=by
   intro st jump G hst hG hg hl2 hk2 Hf;have hend:=run_endLoop (P:=P) hl2 (by rw[sK];exact hst);rw[sK]at hend;have TH:=hTu hT Hf;exact⟨_,hend,fun k hk=>by simpa using TH k hk,fun k hk hne=>(World.putObj_heap_other hne).trans (hk2 k hk hne),hG _ _ W2 _ hg TH (fun k hk=>by simpa using TH k hk) (fun _ h=>h) (fun _ h=>.inl h) (.put (.inr XL) _)⟩
  rcases h with⟨hi,⟨r,hr,hl2⟩,hk2,Hf⟩ | ⟨pre,bS,c,hi,⟨r,hr,hl2⟩,hk2,Hf⟩
  ·subst hr
   obtain⟨W4,h1,h2,h3,h4⟩:=fin .ready none (I xs) (by decide) (fun T T' W W'=>hI xs T T' W W') hi hl2 hk2 Hf;exact⟨W4,none,h1,fun k hk=>.inr hk,h2,h3,ae.refl _ _,h4⟩
  ·subst hr
   obtain⟨W4,h1,h2,h3,h4⟩:=fin .done (some c) (Ix c pre) (by decide) (fun T T' W W'=>Uh c pre T T' W W') hi hl2 hk2 Hf;exact⟨W4,some c,h1,fun k hk=>.inr hk,h2,h3,ae.refl _ _,pre,bS,h4⟩
theorem aA {c:Code} {Q:Exit->Act->World->Prop} {a:Act} {w:World} (h:∀ W,W=w->c.wp P Q a W):c.wp P Q a w:=h w rfl
theorem Hg {F:Fence} {n:Nat} {c:Code} {Q:Exit->Act->World->Prop} {a:Act} {w:World} (h:∀ W,W=w->c.wpIn F n P Q a W):c.wpIn F n P Q a w:=h w rfl
theorem vH {α:Type} {g:Operand} {ps:Array Tmp} {assign body:Code} {Q:Exit->Act->World->Prop} {a:Act} {w:World} {gf:Nat} {lb:Array Value} {mZ:α->Array Value} {R:Nat->Prop} {xs:List α} (hseq:Seq d P gf lb mZ R xs w) (hg:a.eval g=.func (.func gf) #[] lb) (eg:∀ args w,(callFunc gf args).run P w=.ok (.enter gf args) w) (TG:∀ x,(mZ x).size=ps.size) (Ug:∀ k,R k->k<w.heap.size) (I:List α->(Nat->Prop)->World->Prop) (Ix:Code->List α->(Nat->Prop)->World->Prop) (hI:eP d w.heap.size I) (Uh:∀ c,eP d w.heap.size (Ix c)) (h0:I [] (fun _=>False) w) (Ia:List α×α×Act->(Nat->Prop)->World->Prop) (hIa:eP d w.heap.size Ia) (qZ:∀ l pre x T W,pre++ [x]<+:xs->(∀ k,T k->w.heap.size<=k/\k<W.heap.size)->ae R w W->I pre T W-> assign.wpIn (Fence.wide.inRound l) 0 P (Exit.then (fun a1 W'=>ae (fun k=>R k\/T k) W W'/\Ia (pre,x,a1) T W') (fun _ _ _=>False)) {tmps:=(ps.zip (mZ x)).foldl (fun t (p,v)=>t.setIfInBounds p v) a.tmps,defers:=[]} W)
  (DD:∀ l pre x T a1 W,pre++ [x]<+:xs->(∀ k,T k->w.heap.size<=k/\k<W.heap.size)->ae R w W->T l->(∃ r:Loop,W.heap[l]? =some (.loop r))->Ia (pre,x,a1) T W->
   body.wpIn (Fence.wide.inRound l) 0 P (Hb R T W I Ix (pre++ [x])) a1 W)
  (hdone:∀ D T W,w.heap.size<=D->T D->(∀ k,T k->w.heap.size<=k/\k<W.heap.size)->I xs T W->W.heap[D]? =some (.deferred (some []))->Q .normal {a with defers:= {target:=.collected D,args:= #[]} ::a.defers} W)
  (Pe:∀ D c pre T W,w.heap.size<=D->T D->(∀ k,T k->w.heap.size<=k/\k<W.heap.size)->pre<+:xs->Ix c pre T W->W.heap[D]? =some (.deferred (some []))->c.wp P Q {a with defers:= {target:=.collected D,args:= #[]} ::a.defers} W):
  (Code.rangeFunc g ps assign body).wp P Q a w:=by
 refine wpIn_wide.1 (wpIn_rangeFunc (n:=0) ?_);intro fn hfn;obtain⟨W1,hW1⟩:∃ W1,W1=(w.alloc (.deferred (some []))).alloc (.loop {state:=.ready,pending:=none,fn,tmps:=a.tmps,params:=ps,assign,body,defers:=w.heap.size}):=⟨_,rfl⟩;have hL1:W1.heap[w.heap.size+1]? =some (.loop {state:=.ready,pending:=none,fn,tmps:=a.tmps,params:=ps,assign,body,defers:=w.heap.size}):=by
  rw[hW1];have:=World.alloc_heap_new (w.alloc (.deferred (some []))) (.loop {state:=.ready,pending:=none,fn,tmps:=a.tmps,params:=ps,assign,body,defers:=w.heap.size});rwa[World.size_alloc]at this
 have hK1:W1.heap[w.heap.size]? =some (.deferred (some [])):=by rw[hW1];exact(Below.heap_alloc _ _ _ (by simp)).trans (World.alloc_heap_new w _)
 have hsz:W1.heap.size=w.heap.size+1+1:=by rw[hW1];simp
 have hx1:Ext w W1:=by rw[hW1];exact((Ext.refl w).alloc _).alloc _
 refine⟨w.heap.size+1,[{target:=.collected w.heap.size,args:= #[]}],W1, {target:=.fn (.func gf) lb,args:= #[.func (.yield (w.heap.size+1)) #[] #[]]},W1,gf,
  #[.func (.yield (w.heap.size+1)) #[] #[]]++lb,W1,?_,?_,?_,?_,fun h=>(by cases h),?_⟩
 ·rw[hW1];exact run_enterLoop_outer _ _ _ _ _
 ·simp only[resolve,hg]
  simp[go_sem]
 ·intro f' _;trivial
 ·simp[invoke,go_sem,eg]
 ·refine(Hc (F:=Fence.wide) (fun _=>trivial) (fun h=>callsIn_wide.2 h) (fun h=>h) hseq a.tmps w.heap.size TG Ug (w.heap.size+1) (fun k=>k=w.heap.size\/k=w.heap.size+1) (fun k hk=>by omega) (.inr rfl) W1 hsz hL1 hx1 I Ix hI Uh
   (hI _ _ _ w W1 h0 (fun _ h=>h.elim) (fun k hk=>by omega) (fun _ h=>h.elim) (fun k hk=>.inr (by omega)) (.ext hx1)) Ia hIa
   (fun pre x T W h1 _ h3 h4 h5=>qZ _ pre x T W h1 h3 h4 h5) (fun pre x T a1 W h1 h2 h3 h4 ⟨r,h5,_⟩ h6=>DD _ pre x T a1 W h1 h3 h4 (h2 _ (.inr rfl)) ⟨r,h5⟩ h6)).mono ?_
  rintro e W3 ⟨⟨v,rfl⟩,T,W4,jump,hend,OA,hT,hk,_,hj⟩;refine⟨jump,W4,hend,?_⟩;have hD:W4.heap[w.heap.size]? =some (.deferred (some [])):=(hk _ (.inl rfl) (by omega)).trans hK1;cases jump with
  | none=>exact hdone _ T W4 (aG _) (OA _ (.inl rfl)) hT hj hD
  | some c=>
   obtain⟨pre,bS,hx⟩:=hj;exact wpIn_wide.2 (Pe _ c pre T W4 (aG _) (OA _ (.inl rfl)) hT bS hx hD)
theorem ir {α:Type} {g:Operand} {ps:Array Tmp} {assign body:Code} {Q:Exit->Act->World->Prop} {a:Act} {w:World} {gf:Nat} {lb:Array Value} {mZ:α->Array Value} {R:Nat->Prop} {xs:List α} (hseq:Seq d P gf lb mZ R xs w) (hg:a.eval g=.func (.func gf) #[] lb) (eg:∀ args w,(callFunc gf args).run P w=.ok (.enter gf args) w) (TG:∀ x,(mZ x).size=ps.size) (Ug:∀ k,R k->k<w.heap.size) (I:List α->(Nat->Prop)->World->Prop) (Ix:Code->List α->(Nat->Prop)->World->Prop) (hI:eP d w.heap.size I) (Uh:∀ c,eP d w.heap.size (Ix c)) (h0:I [] (fun _=>False) w) (a₁:α->Act) (qZ:∀ l x W (K:Act->World->Prop),K (a₁ x) W->assign.wpIn (Fence.wide.inRound l) 0 P (Exit.then K (fun _ _ _=>False)) {tmps:=(ps.zip (mZ x)).foldl (fun t (p,v)=>t.setIfInBounds p v) a.tmps,defers:=[]} W)
  (DD:∀ l pre x T W,pre++ [x]<+:xs->(∀ k,T k->w.heap.size<=k/\k<W.heap.size)->ae R w W->T l->(∃ r:Loop,W.heap[l]? =some (.loop r))->I pre T W->
   body.wpIn (Fence.wide.inRound l) 0 P (Hb R T W I Ix (pre++ [x])) (a₁ x) W)
  (hdone:∀ D T W,w.heap.size<=D->T D->(∀ k,T k->w.heap.size<=k/\k<W.heap.size)->I xs T W->W.heap[D]? =some (.deferred (some []))->Q .normal {a with defers:= {target:=.collected D,args:= #[]} ::a.defers} W)
  (Pe:∀ D c pre T W,w.heap.size<=D->T D->(∀ k,T k->w.heap.size<=k/\k<W.heap.size)->pre<+:xs->Ix c pre T W->W.heap[D]? =some (.deferred (some []))->c.wp P Q {a with defers:= {target:=.collected D,args:= #[]} ::a.defers} W):
  (Code.rangeFunc g ps assign body).wp P Q a w:=
 vH hseq hg eg TG Ug I Ix hI Uh h0 (fun z T W=>z.2.2=a₁ z.2.1/\I z.1 T W) (fun z T T' W W' hz h1 h2 h3 h4 h5=>⟨hz.1,hI z.1 T T' W W' hz.2 h1 h2 h3 h4 h5⟩)
  (fun l pre x T W _ _ _ hi=>qZ l x W _ ⟨ae.refl _ _,rfl,hi⟩) (fun l pre x T a1 W h1 h2 h3 h4 h5 h6=>by obtain⟨h6,h7⟩:=h6;dsimp only at h6;subst h6;exact DD l pre x T W h1 h2 h3 h4 h5 h7) hdone Pe
theorem cC {f:FuncId} {fn:Func} {c:Code} {args:Array Value} {w:World} {R:Ending->World->Prop} (hf:P.funcs[f]? =some fn) (hb:fn.body=some c) (h:c.wp P (bodyPostM Fence.wide 0 P fn R) {tmps:=args++Array.replicate (fn.ntmps-args.size) undef,defers:=[]} w):Calls P f args w R:=
 callsIn_wide.1 (callsIn_of_wp_marks hf hb trivial (wpIn_wide.2 h))
theorem dz {fn:Func} {R:Ending->World->Prop} {a:Act} {W:World} {D:Nat} {v:Value} (hd:a.defers=[{target:=.collected D,args:= #[]}]) (hD:W.heap[D]? =some (.deferred (some []))) (hr:(results fn a.tmps).run P (W.putObj D (.deferred none))=.ok v (W.putObj D (.deferred none))) (hR:R (.returned v) (W.putObj D (.deferred none))):bodyPostM Fence.wide 0 P fn R .ret a W:=by show LeavesInM Fence.wide 0 P fn a.tmps R a.defers .returning W;rw[hd];exact⟨by simp,.inl ⟨_,_,rfl,run_takeDeferred hD,v,hr,hR⟩⟩
theorem uL {fn:Func} {R:Ending->World->Prop} {a:Act} {W:World} {D:Nat} {v:Value} (hd:a.defers=[{target:=.collected D,args:= #[]}]) (hD:W.heap[D]? =some (.deferred (some []))) (hr:(results fn a.tmps).run P (W.putObj D (.deferred none))=.ok v (W.putObj D (.deferred none))) (hR:R (.returned v) (W.putObj D (.deferred none))):bodyPostM Fence.wide 0 P fn R .normal a W:=
 dz hd hD hr hR
theorem yH {fn:Func} {R:Ending->World->Prop} {a:Act} {W:World} {v:Value} (hd:a.defers=[]) (hr:(results fn a.tmps).run P W=.ok v W) (hR:R (.returned v) W):bodyPostM Fence.wide 0 P fn R .ret a W:=by show LeavesInM Fence.wide 0 P fn a.tmps R a.defers .returning W;rw[hd];exact⟨v,hr,hR⟩
theorem DG {W:World} {D:Nat} {o o':Obj} (h:W.heap[D]? =some o) (ho:o.isCells=false) (GJ:o'.isCells=false) (a:Addr):(W.putObj D o').cell? a=W.cell? a:=by
 by_cases hb:a.block=D
 ·have h1:=World.putObj_heap_same (o:=o') (Array.getElem?_eq_some_iff.1 h).1
  simp only[World.cell?,hb,h,h1];cases o<;>cases o'<;>first | rfl | (simp[Obj.isCells]at ho GJ)
 ·exact World.cell?_of_block (World.putObj_heap_other hb)
end
end
section
open Go Go.RowKit
section
variable {F:Fence} {n:Nat} {P:Program} {C:World→Prop} {ops:Array Oper}
structure er (p:Prop):Prop where
 out:p
theorem ft {eff:Nat->Bool} {Q:Act->World->Prop} {o:Oper} {rest:List Oper} {k:Nat} {a:Act} {w:World} (h:∀ K:Act->World->Prop,(∀ a w,er (kr F n P C ops eff Q rest (k+1) a w)->K a w)->dU F n P C ops (eff k) o K a w):er (kr F n P C ops eff Q (o::rest) k a w):=⟨bR fun K hK=>h K fun a w hl=>hK a w hl.out⟩
theorem DI {eff:Nat->Bool} {Q:Act->World->Prop} {k:Nat} {a:Act} {w:World} (h:Q a w):er (kr F n P C ops eff Q [] k a w):=⟨h⟩
theorem Uk {eM:Bool} {o:Oper} {K:Act->World->Prop} {a:Act} {w:World} (he:eM=false) (hw:Region.wanted o (yielded ops a.tmps)=true) (h:∃ v,(∀ W: {W//C W},aF P o a v W.1)/\K (a.put o.dst v) w):dU F n P C ops eM o K a w:=by subst he;exact dE hw h
theorem Pf {eM:Bool} {o:Oper} {K:Act->World->Prop} {a:Act} {w:World} (he:eM=true) (hw:Region.wanted o (yielded ops a.tmps)=true) (h:je F n P C o.dst a K ((execOp a.eval o).run P w)):dU F n P C ops eM o K a w:=by subst he;exact eH hw h
theorem jm {op:Oper} {a:Act} {W:World} (ty:TypeId) (x:Operand) (ho:op.op=.load ty x) (b o:Nat) (hx:a.eval x=.pointer (some ⟨b,o,none⟩)) (cs:Array Value) (d:TypeDesc) (hc:W.rangeAt b o cs.toList) (hu:P.underlying ty=some d) (hd:d.isRow=true) (hi:(P.info? ty).map (·.size)=some cs.size):aF P op a (.agg cs) W:=by refine .inl ?_;unfold execOp;simp only[ho,hx,Instr.loadAt,Instr.sureAddr,Sem.run_bind,Sem.run_pure,Result.andThen_ok,run_loadVar_mid W b o ty cs.toList d hc hu hd (by rw[Array.length_toList];exact hi)]
theorem fJ {w w':World} {R:Nat->Prop} {b o:Nat} {cs:List Value} (h:w.rangeAt b o cs) (hk:ae R w w') (hb:R b):w'.rangeAt b o cs:=fun j v hj=>(hk.cell (p:=⟨b,o+j,none⟩) hb).trans (h j v hj)
theorem rh {o:Oper} {a:Act} {w:World} {K:Act->World->Prop} (s x:Operand) (t:TypeId) (ho:o.op=.call {callee:=.builtin .append,args:= #[s,x],argTypes:= #[t,t]}) (base:Nat) (e:TypeId) (i:TypeInfo) (z:Value) (size bytes:Nat) (ht:P.underlying t=some (.slice e)) (hi:P.info? e=some i) (hz:i.zero=some z) (hsize:i.size=size) (hby:i.bytes=bytes) (hzs:z.cells.size=size) (hsz:0<size) (v:Value) (m:Nat) (xs:List Value) (hs:a.eval s=v) (hown:w.ownsRow base e size v m xs) (ad:Addr) (k c:Nat) (news:List Value) (hx:a.eval x=.slice (some ad) k c) (hl:news.length=k*size) (hnews:∀ j u,news[j]? =some u->w.cell? (ad.add j)=some u) (h1:∀ u∈news,u.oneCell'=true) (h63:m+k<=maxLen) (hbytes:(m+k)*bytes<=140737488355328) (hbase:base<=w.heap.size) (h:∀ v' w',w'.ownsRow base e size v' (m+k) (xs++news)->w.grownBy w' v.ownBlock->(v'.ownBlock=v.ownBlock\/v'.ownBlock=some w.heap.size)->C w'/\K (a.put o.dst v') w'): je F n P C o.dst a K ((execOp a.eval o).run P w):=by obtain⟨v',w',hr,h2,h3,h4,h5⟩:=run_append_own_at (P:=P) w base t o.type e i z size bytes ht hi hz hsize hby hzs hsz v m xs hown ad k c news hl hnews h1 h63 hbytes hbase;unfold execOp;simp only[ho,resolve,invoke,builtin,Sem.run_bind,Sem.run_pure,Result.andThen_ok,List.map_toArray,List.map_cons,List.map_nil,hs,hx,hr];exact h v' w' h2 h3 h5
end
end
section
open Go Go.RowKit
structure aX (M:World->World->Prop) where
 P:Value->Prop
 H:Value->World->Prop
 ot:Value
 pw:P ot
 st:∀ v W W',M W W'->P v->H v W->H v W'
theorem Move.trans {d:Bool} {T:Nat->Prop} {A B C:World} (h:Move d T A B) (k:Move d T B C):Move d T A C:=
 ⟨h.1.trans k.1 fun _ hk=>⟨aD hk.1 h.1.size,hk.2⟩,fun hd=>Nat.le_trans (h.2 hd) (k.2 hd)⟩
def dM (ops:Array Oper) (j:Nat):Option Tmp:=(ops[j]?).bind (·.dst)
def jD (Cl:FuncId->Array Value->World->(Ending->World->Prop)->Prop) (Rd:Nat->FuncId->Array Value->Code->Code->World->(Ending->World->Prop)->Prop) (post:Value->World->Prop):Result Next->Prop
 | .ok (.value v) w'=>post v w'
 | .ok .skip w'=>post undef w'
 | .ok (.enter f args) w'=>Cl f args w' fun e w''=>∃ v,e=.returned v/\post v w''
 | .ok (.round l f tmps Dw body) w'=>Rd l f tmps Dw body w' fun e w''=>∃ v,e=.returned v/\post v w''
 | _=>False
def Ul (S:Nat->(Act->World->Prop)->Act->World->Prop) (md:Region.Mode) (ops:Array Oper) (Qn:Act->World->Prop):Nat->Array Bool->Act->World->Prop
 | 0,listed,a,w=>Region.ready md ops listed=[]/\Qn a w
 | fuel+1,listed,a,w=>
  (Region.ready md ops listed=[]->Qn a w)/\
  ∀ i∈Region.ready md ops listed,S i (Ul S md ops Qn fuel (listed.setIfInBounds i true)) a w
def zw (S:Nat->(Act->World->Prop)->Act->World->Prop) (Qn:Act->World->Prop):List Nat->Act->World->Prop
 | [],a,w=>Qn a w
 | i::rest,a,w=>S i (zw S Qn rest) a w
def needs (m:Nat) (aR:List (Nat× (World->Prop))) (W:World):Prop:=∀ x∈aR,m.testBit x.1=true->x.2 W
theorem needs.at {m:Nat} {aR:List (Nat× (World->Prop))} {W:World} (h:needs m aR W) (i:Nat) {x:Nat× (World->Prop)} (hx:aR[i]? =some x) (hm:m.testBit x.1=true):x.2 W:=h x (aw hx) hm
section
variable {P:Program} {Cl:FuncId→Array Value→World→(Ending→World→Prop)→Prop} {Rd:Nat→FuncId→Array Value→Code→Code→World→(Ending→World→Prop)→Prop}
  {ops:Array Oper} {eff:Nat→Bool} {cE:Nat→Nat} {M:World→World→Prop} {EP:Nat→aX M} {C:World→Prop} {md:Region.Mode} {m:Nat}
def gL (ops:Array Oper) (a:Act) (val:Nat->Value):Nat->Act
 | 0=>a
 | i+1=>(gL ops a val i).put (dM ops i) (val i)
theorem fy {a:Act} {val val':Nat->Value} :∀ (i:Nat),(∀ j,j<i->val j=val' j)->gL ops a val i=gL ops a val' i
 | 0,_=>rfl
 | i+1,h=>by unfold gL;rw[fy i fun j hj=>h j (by omega),h i (by omega)]
def wantedAt (ops:Array Oper) (a:Act) (val:Nat->Value) (j:Nat):Prop:=∃ o,ops[j]? =some o/\Region.wanted o (yielded ops (gL ops a val j).tmps)=true
def sL (ops:Array Oper) (eff:Nat->Bool) (cE:Nat->Nat) (EP:Nat->aX M) (a:Act) (val:Nat->Value) (i:Nat) (W:World):Prop:=
 ∀ j,j<i->wantedAt ops a val j->eff j=true->(cE i).testBit j=true->(EP j).H (val j) W
theorem jE {a:Act} {val val':Nat->Value} {j:Nat} (h:∀ k,k<j->val k=val' k):wantedAt ops a val j↔wantedAt ops a val' j:=by unfold wantedAt;rw[fy j h]
theorem pW {a:Act} {val val':Nat->Value} {i:Nat} (h:∀ k,k<i->val k=val' k):sL ops eff cE EP a val i=sL ops eff cE EP a val' i:=by
 funext W
 unfold sL;refine propext (forall_congr' fun j=>forall_congr' fun hj=>?_);rw[jE (val':=val') fun k hk=>h k (by omega),h j hj]
structure J7 (ops:Array Oper) (a0:Act) (L:Nat->Prop) (val:Nat->Value) (a:Act):Prop where
 defers:a.defers=a0.defers
 size:a.tmps.size=a0.tmps.size
 old:∀ t,(∀ j,L j->dM ops j≠some t)->a.tmps[t]? =a0.tmps[t]?
 new:∀ j t,L j->dM ops j=some t->t<a0.tmps.size->a.tmps[t]? =some (val j)
theorem J7.start (a0:Act) (val:Nat->Value) {L:Nat->Prop} (hL:∀ j,¬L j):J7 ops a0 L val a0:=⟨rfl,rfl,fun _ _=>rfl,fun j _ h=>(hL j h).elim⟩
theorem J7.put {a0 a:Act} {L L':Nat->Prop} {val:Nat->Value} (h:J7 ops a0 L val a) (i:Nat) (hL:∀ j,L' j↔L j\/j=i) (hi:∀ j t,L j->dM ops j=some t->dM ops i≠some t):J7 ops a0 L' val (a.put (dM ops i) (val i)):=by
 cases hd:dM ops i with
 | none=>
  refine⟨h.defers,h.size,fun t ht=>h.old t fun j hj=>ht j ((hL j).2 (.inl hj)),fun j t hj Wl Pg=>?_⟩;rcases(hL j).1 hj with hj | rfl
  ·exact h.new j t hj Wl Pg
  ·rw[hd]at Wl;cases Wl
 | some e=>
  refine⟨h.defers,by simp[Act.put,h.size],fun t ht=>?_,fun j t hj Wl Pg=>?_⟩
  ·have hne:e≠t:=fun he=>ht i ((hL i).2 (.inr rfl)) (by rw[hd,he])
   simp only[Act.put,Array.getElem?_setIfInBounds_ne hne];exact h.old t fun j hj=>ht j ((hL j).2 (.inl hj))
  ·rcases(hL j).1 hj with hj | rfl
   ·have hne:e≠t:=fun he=>hi j t hj Wl (by rw[hd,he])
    simp only[Act.put,Array.getElem?_setIfInBounds_ne hne];exact h.new j t hj Wl Pg
   ·rw[hd]at Wl;cases Wl
    simp only[Act.put];rw[Array.getElem?_setIfInBounds_self_of_lt (by rw[h.size];exact Pg)]
theorem J7.agree {a0 a a':Act} {L L':Nat->Prop} {val val':Nat->Value} (h:J7 ops a0 L val a) (h':J7 ops a0 L' val' a') {t:Nat} (hj:∀ j,dM ops j=some t->((L j↔L' j)/\(L j->val j=val' j))):a.tmps[t]? =a'.tmps[t]? :=by
 by_cases hex:∃ j,L j/\dM ops j=some t
 ·obtain⟨j,h1,h2⟩:=hex
  obtain⟨h3,h4⟩:=hj j h2;rcases Nat.lt_or_ge t a0.tmps.size with hlt | Wm
  ·rw[h.new j t h1 h2 hlt,h'.new j t (h3.1 h1) h2 hlt,h4 h1]
  ·rw[Array.getElem?_eq_none (by rw[h.size];exact Wm),Array.getElem?_eq_none (by rw[h'.size];exact Wm)]
 ·rw[h.old t fun j h1 h2=>hex ⟨j,h1,h2⟩,h'.old t fun j h1 h2=>hex ⟨j,((hj j h2).1).2 h1,h2⟩]
theorem sM {o:Oper} (hs:∀ cs b,o.op≠ .select cs b) {a a':Act} (h:∀ t,t∈o.looksAt ops->a.tmps[t]? =a'.tmps[t]?): execOp a.eval o=execOp a'.eval o/\Region.wanted o (yielded ops a.tmps)=Region.wanted o (yielded ops a'.tmps):=by
 constructor
 ·refine execOp_congr o hs fun x hx=>?_
  cases x with
  | tmp t=>
   have:=h t (List.mem_append_left _ (List.mem_filterMap.2 ⟨.tmp t,by simpa using hx,rfl⟩));simp[Act.eval,this]
  | _=>rfl
 ·unfold Region.wanted
  cases hg:o.guard with
  | none=>rfl
  | some gw=>
   obtain⟨g,want⟩:=gw;have hy:yielded ops a.tmps g=yielded ops a'.tmps g:=by
    unfold yielded;cases ht:(ops[g]?).bind (·.dst)with
    | none=>rfl
    | some t=>
     have:=h t (by simp[Oper.looksAt,hg,ht]);simp[this]
   simp only[hy]
structure vI (md:Region.Mode) (ops:Array Oper) (cE:Nat->Nat) (m:Nat):Prop where
 le:m<=ops.size
 sel:∀ (j:Nat) (o:Oper) cs b,ops[j]? =some o->o.op≠ .select cs b
 DJ:∀ (i:Nat) (o:Oper),ops[i]? =some o->∀ e∈o.after,Region.binds md e=true->e.on<i
 sound:∀ (i:Nat) (o:Oper) (j:Nat),ops[i]? =some o->(cE i).testBit j=true->∃ e∈o.after,Region.binds md e=true/\(e.on=j\/(cE e.on).testBit j=true)
 looks:∀ (i:Nat) (o:Oper) (t j:Nat),i<m->ops[i]? =some o->t∈o.looksAt ops->dM ops j=some t->(j<i->(cE i).testBit j=true)/\(i<j->(cE j).testBit i=true)
 Um:∀ i j t,i<j->dM ops i=some t->dM ops j≠some t
 tail:∀ i j,m<=i->i<ops.size->j<i->(cE i).testBit j=true
theorem vI.XQ (ok:vI md ops cE m):∀ (i j:Nat) (o:Oper),ops[i]? =some o->(cE i).testBit j=true->j<i:=by
 intro i;induction i using Nat.strongRecOn with
 | ind i ih=>
  intro j o ho hj;obtain⟨e,he,hb,h⟩:=ok.sound i o j ho hj;have hlt:=ok.DJ i o ho e he hb;rcases h with h | h
  ·omega
  ·have hes:e.on<ops.size:=by have:=(Array.getElem?_eq_some_iff.1 ho).1;omega
   have:=ih e.on hlt j _ (Array.getElem?_eq_getElem hes) h;omega
theorem vI.gL (ok:vI md ops cE m) (a0:Act) (val:Nat->Value):∀ i,J7 ops a0 (fun j=>j<i) val (gL ops a0 val i)
 | 0=>J7.start a0 val fun j h=>by omega
 | i+1=>(ok.gL a0 val i).put i (fun j=>by constructor<;>intro h<;>omega) fun j t hj hd=>fun h=>ok.Um j i t hj hd h
theorem count_set:∀ (l:List Bool) (i:Nat),l[i]? =some false->(l.set i true).count false+1=l.count false
 | [],_,h=>by simp at h
 | b::l,0,h=>by
  simp only[List.getElem?_cons_zero,Option.some.injEq]at h;subst h;simp
 | b::l,i+1,h=>by
  simp only[List.getElem?_cons_succ]at h;have:=count_set l i h;simp only[List.set_cons_succ,List.count_cons];omega
variable {S:Nat→(Act→World→Prop)→Act→World→Prop} {Qn:Act→World→Prop}
structure Hh (P:Program) (Cl:FuncId->Array Value->World->(Ending->World->Prop)->Prop) (Rd:Nat->FuncId->Array Value->Code->Code->World->(Ending->World->Prop)->Prop)
  (ops:Array Oper) (eff:Nat->Bool) (S:Nat->(Act->World->Prop)->Act->World->Prop):Prop where
 flt:∀ (i:Nat) (o:Oper) (K:Act->World->Prop) (a:Act) (w:World) (v:Value),ops[i]? =some o->eff i=false->Region.wanted o (yielded ops a.tmps)=true->aF P o a v w->K (a.put o.dst v) w->S i K a w
 eff:∀ (i:Nat) (o:Oper) (K:Act->World->Prop) (a:Act) (w:World),ops[i]? =some o->eff i=true->Region.wanted o (yielded ops a.tmps)=true->jD Cl Rd (fun v w'=>K (a.put o.dst v) w') ((execOp a.eval o).run P w)->S i K a w
 un:∀ (i:Nat) (o:Oper) (K:Act->World->Prop) (a:Act) (w:World),ops[i]? =some o->Region.wanted o (yielded ops a.tmps)=false->K (a.put o.dst undef) w->S i K a w
 mono:∀ (i:Nat) (K K':Act->World->Prop) (a:Act) (w:World),(∀ a w,K a w->K' a w)->S i K a w->S i K' a w
 Wn:∀ (post post':Value->World->Prop) (r:Result Next),(∀ v w,post v w->post' v w)->jD Cl Rd post r->jD Cl Rd post' r
theorem Hi {listed:Array Bool} {j:Nat} (hj:j<listed.size):listed.getD j false=true\/listed.getD j true=false:=by simp[hj]
theorem zz (ok:vI md ops cE m) (so:Hh P Cl Rd ops eff S):∀ (r k:Nat) (fuel:Nat) (listed:Array Bool) (a:Act) (w:World),m<=k->k+r=ops.size->r<=fuel->listed.size=ops.size->(∀ j,j<ops.size->(listed.getD j false=true↔j<k))-> zw S Qn (List.range' k r) a w->Ul S md ops Qn fuel listed a w:=by
 intro r;induction r with
 | zero=>
  intro k fuel listed a w hm hk hf hs hl h;have hnil:Region.ready md ops listed=[]:=by
   rw[List.eq_nil_iff_forall_not_mem];intro j hj;obtain⟨h1,o,ho,_⟩:=mem_ready.1 hj;have hjs:j<ops.size:=(Array.getElem?_eq_some_iff.1 ho).1;have h2:=(hl j hjs).2 (by omega);have DK:j<listed.size:=by omega
   simp[DK]at h1 h2;rw[h1]at h2;cases h2
  cases fuel with
  | zero=>exact⟨hnil,h⟩
  | succ fuel=>exact⟨fun _=>h,fun i hi=>by rw[hnil]at hi;cases hi⟩
 | succ r ih=>
  intro k fuel listed a w hm hk hf hs hl h;obtain⟨fuel,rfl⟩:∃ f,fuel=f+1:=⟨fuel-1,by omega⟩;have TI:k<ops.size:=by omega
  have Ph:∀ i,i∈Region.ready md ops listed↔i=k:=by
   intro i;rw[mem_ready];constructor
   ·rintro⟨h1,o,ho,hall⟩
    have Un:i<ops.size:=(Array.getElem?_eq_some_iff.1 ho).1;have gJ:i<listed.size:=by omega
    have tK:¬listed.getD i false=true:=by simp[gJ]at h1 ⊢;exact h1
    rw[hl i Un]at tK;by_cases hik:i=k
    ·exact hik
    ·exfalso
     obtain⟨e,he,hb,kK⟩:=ok.sound i o k ho (ok.tail i k (by omega) Un (by omega));have he1:=hall e he hb;have hes:=ok.DJ i o ho e he hb;rw[hl e.on (by omega)]at he1;rcases kK with rfl | kK
     ·omega
     ·have:=ok.XQ e.on k _ (Array.getElem?_eq_getElem (by omega)) kK
      omega
   ·rintro rfl
    have gJ:i<listed.size:=by omega
    have tK:¬listed.getD i false=true:=by rw[hl i TI];omega
    refine⟨by simp[gJ]at tK ⊢;exact tK,_,Array.getElem?_eq_getElem TI,fun e he hb=>?_⟩;have hes:=ok.DJ i _ (Array.getElem?_eq_getElem TI) e he hb;exact(hl e.on (by omega)).2 hes
  refine⟨fun hnil=>?_,fun i hi=>?_⟩
  ·have:=(Ph k).2 rfl
   rw[hnil]at this;cases this
  ·obtain rfl:=(Ph i).1 hi
   rw[List.range'_succ]at h;refine so.mono i _ _ a w (fun a' w' h'=>?_) h;refine ih (i+1) fuel _ a' w' (by omega) (by omega) (by omega) (by simpa using hs) (fun j hj=>?_) h';by_cases mF:i=j
   ·subst mF
    have:i<listed.size:=by omega
    simp[this]
   ·rw[getD_set_ne false mF,hl j hj];omega
end
end
section
open Go Go.RowKit
def ng (md:Region.Mode) (ops:Array Oper) (cE:List Nat) (m:Nat):Bool:=
 Region.noSelect ops&&decide (m<=ops.size)&&(List.range ops.size).all fun i=>match ops[i]? with
  | none=>true
  | some o=>decide (cE.getD i 0<2^i)&&(o.after.all fun e=> !Region.binds md e || decide (e.on<i))&&
   (List.range ops.size).all fun j=>
    (!(cE.getD i 0).testBit j || o.after.any fun e=>Region.binds md e&&(e.on==j || (cE.getD e.on 0).testBit j))&&
    (match dM ops j with
     | none=>true
     | some t=>(decide (j<=i) || !(dM ops i==some t))&&(!decide (i<m) || !(o.looksAt ops).contains t || ((!decide (j<i) || (cE.getD i 0).testBit j)&&(!decide (i<j) || (cE.getD j 0).testBit i))))&&
    (!(decide (m<=i)&&decide (j<i)) || (cE.getD i 0).testBit j)
theorem LQ {md:Region.Mode} {ops:Array Oper} {cE:List Nat} {m:Nat} (h:ng md ops cE m=true):vI md ops (fun i=>cE.getD i 0) m:=by
 unfold ng at h;rw[Bool.and_eq_true,Bool.and_eq_true,List.all_eq_true]at h;obtain⟨⟨hs,hm⟩,hall⟩:=h
 have hi:∀ (i:Nat) (o:Oper),ops[i]? =some o->cE.getD i 0<2^i/\(∀ e∈o.after,Region.binds md e=true->e.on<i)/\
   ∀ j,j<ops.size->((cE.getD i 0).testBit j=true->∃ e∈o.after,Region.binds md e=true/\(e.on=j\/(cE.getD e.on 0).testBit j=true))/\
    (∀ t,dM ops j=some t->(j<=i\/dM ops i≠some t)/\(i<m->t∈o.looksAt ops->(j<i->(cE.getD i 0).testBit j=true)/\(i<j->(cE.getD j 0).testBit i=true)))/\
    (m<=i->j<i->(cE.getD i 0).testBit j=true):=by
  intro i o ho;have Un:i<ops.size:=(Array.getElem?_eq_some_iff.1 ho).1;have h1:=hall i (List.mem_range.2 Un);simp only[ho,Bool.and_eq_true,decide_eq_true_eq,List.all_eq_true,Array.all_eq_true_iff_forall_mem]at h1;obtain⟨⟨h1,h2⟩,h3⟩:=h1;refine⟨h1,fun e he hb=>?_,fun j hj=>?_⟩
  ·have:=h2 e he
   rw[hb]at this;simpa using this
  ·obtain⟨⟨h4,h5⟩,h6⟩:=h3 j (List.mem_range.2 hj)
   refine⟨fun hb=>?_,fun t ht=>?_,fun h7 h8=>?_⟩
   ·rw[hb,Bool.or_eq_true]at h4
    obtain⟨e,he,hx⟩:=Array.any_eq_true'.1 (h4.resolve_left (by decide));rw[Bool.and_eq_true,Bool.or_eq_true,beq_iff_eq]at hx;exact⟨e,he,hx.1,hx.2⟩
   ·rw[ht]at h5
    simp only[Bool.and_eq_true,Bool.or_eq_true,decide_eq_true_eq,Bool.not_eq_true',beq_eq_false_iff_ne,decide_eq_false_iff_not]at h5;refine⟨h5.1,fun h7 h8=>?_⟩;rcases h5.2 with(h9 | h9) | h9
    ·exact absurd h7 h9
    ·have:(o.looksAt ops).contains t=true:=List.contains_iff_mem.2 h8
     rw[h9]at this;cases this
    ·exact⟨fun h10=>h9.1.resolve_left (fun h=>h h10),fun h10=>h9.2.resolve_left (fun h=>h h10)⟩
   ·simp only[Bool.or_eq_true,Bool.not_eq_true',Bool.and_eq_false_iff,decide_eq_false_iff_not]at h6
    rcases h6 with(h6 | h6) | h6
    ·exact absurd h7 h6
    ·exact absurd h8 h6
    ·exact h6
 have hd:∀ j t,dM ops j=some t->j<ops.size:=fun j t h=>by
  rcases Nat.lt_or_ge j ops.size with h' | h'
  ·exact h'
  ·unfold dM at h;rw[Array.getElem?_eq_none h']at h;cases h
 have hlt:∀ (i:Nat) (o:Oper) (j:Nat),ops[i]? =some o->(cE.getD i 0).testBit j=true->j<i:=fun i o j ho hb=>by
  rcases Nat.lt_or_ge j i with h | h
  ·exact h
  ·rw[Nat.testBit_lt_two_pow (aD (hi i o ho).1 (Nat.pow_le_pow_right (by decide) h))]at hb;cases hb
 exact {
  le:=by simpa using hm
  sel:=fun j o cs b ho=>Region.noSelect_spec hs j o cs b ho
  DJ:=fun i o ho=>(hi i o ho).2.1
  sound:=fun i o j ho hb=>((hi i o ho).2.2 j (by have:=hlt i o j ho hb;have:=(Array.getElem?_eq_some_iff.1 ho).1;omega)).1 hb
  looks:=fun i o t j XS ho ht hj=>(((hi i o ho).2.2 j (hd j t hj)).2.1 t hj).2 XS ht
  Um:=fun i j t mF h1 h2=>by
   obtain⟨o,ho⟩:∃ o,ops[i]? =some o:=⟨_,Array.getElem?_eq_getElem (hd i t h1)⟩;rcases(((hi i o ho).2.2 j (hd j t h2)).2.1 t h2).1 with h | h
   ·omega
   ·exact h h1
  tail:=fun i j h1 h2 h3=>((hi i _ (Array.getElem?_eq_getElem h2)).2.2 j (by omega)).2.2 h1 h3}
def gz:Nat->FuncId->Array Value->Code->Code->World->(Ending->World->Prop)->Prop:=fun _ _ _ _ _ _ _=>False
section
variable {P:Program} {ops:Array Oper} {Q:Exit→Act→World→Prop} {eff:Nat→Bool}
theorem DL:Hh P (Calls P) gz ops eff (wpOp P ops Q) where
 flt:=fun i o K a w v ho _ hw hf hK=>by
  unfold wpOp;simp only[ho,hw,if_true];refine .inl ?_;unfold Oper.wp;unfold aF at hf;rcases hf with hf | ⟨hf,rfl⟩<;>rw[hf]<;>exact hK
 eff:=fun i o K a w ho _ hw he=>by
  unfold wpOp;simp only[ho,hw,if_true];refine .inl ?_;unfold Oper.wp;generalize (execOp a.eval o).run P w=r at he;cases r with
  | halt x w=>exact he.elim
  | ok x w=>
   cases x<;>simp only[jD]at he<;>simp only[Oper.upon]
   case value v=>exact he
   case skip=>exact he
   case enter f args=>exact Calls.mono he fun e w' ⟨v,hv,hK⟩=>by subst hv;exact hK
   case round=>exact he.elim
 un:=fun i o K a w ho hw hK=>by
  unfold wpOp;simp only[ho,hw,Bool.false_eq_true,if_false];exact hK
 mono:=fun i K K' a w h hS=>wpOp_mono h hS
 Wn:=fun post post' r h he=>by
  cases r with
  | halt x w=>exact he.elim
  | ok x w=>
   cases x<;>simp only[jD]at he ⊢
   case value v=>exact h _ _ he
   case skip=>exact h _ _ he
   case enter f args=>exact Calls.mono he fun e w' ⟨v,hv,hK⟩=>⟨v,hv,h _ _ hK⟩
   case round=>exact he
theorem vJ {md:Region.Mode} :∀ (fuel:Nat) (listed:Array Bool) (a:Act) (w:World),Ul (wpOp P ops Q) md ops (fun a w=>Q .normal a w) fuel listed a w->wpAny P md ops Q fuel listed a w
 | 0,_,_,_,h=>h
 | fuel+1,_,_,_,h=>⟨h.1,fun i hi=>wpOp_mono (fun a w h=>vJ fuel _ a w h) (h.2 i hi)⟩
theorem zA:∀ (l:List Nat) (a:Act) (w:World),(∀ i∈l,i<ops.size)->wpOps P ops Q l a w->zw (wpOp P ops Q) (fun a w=>Q .normal a w) l a w
 | [],_,_,_,h=>h
 | i::l,a,w,hl,h=>by
  rw[wpOps_cons]at h;exact wpOp_mono (fun a w h=>zA l a w (fun j hj=>hl j (bC _ hj)) h) h
end
section
variable {P:Program} {Cl:FuncId→Array Value→World→(Ending→World→Prop)→Prop} {Rd:Nat→FuncId→Array Value→Code→Code→World→(Ending→World→Prop)→Prop}
  {ops:Array Oper} {eff:Nat→Bool} {cE:Nat→Nat} {M:World→World→Prop} {EP:Nat→aX M} {C:World→Prop} {Fin:List Oper→Act→World→Prop}
theorem bI {f:FuncId} {args:Array Value} {W:World} {post:Value->World->Prop} (h:Cl f args W fun e w'=>∃ v,e=.returned v/\post v w'):jD Cl Rd post (.ok (.enter f args) W):=h
end
def aX.yw (M:World->World->Prop) (x:Value):aX M:=⟨fun v=>v=x,fun _ _=>True,x,rfl,fun _ _ _ _ _ _=>trivial⟩
def aX.any (M:World->World->Prop):aX M:=⟨fun _=>True,fun _ _=>True,undef,trivial,fun _ _ _ _ _ _=>trivial⟩
theorem Move.XT {d:Bool} {T:Nat->Prop} {W W':World} (h:Ext W W'):Move d T W W':=Move.ext h
theorem Move.ai {T:Nat->Prop} {W W':World} (h:aa W W'):Move false T W W':=⟨ae.ai h fun _ hk=>hk.1,fun h=>by cases h⟩
theorem Move.keeps {d:Bool} {T:Nat->Prop} {W W':World} (h:Move d T W W'):ae (fun k=>k<W.heap.size/\¬T k) W W':=h.1
theorem Move.below {d:Bool} {W W':World} (h:Move d (fun _=>False) W W'):aa W W':=(h.1.mono fun _ hk=>⟨hk,fun h=>h⟩:ae (· <W.heap.size) W W').below
theorem Move.size {d:Bool} {T:Nat->Prop} {W W':World} (h:Move d T W W'):W.heap.size<=W'.heap.size:=h.1.size
end
end Go.Proofs.YtjgccapbphadjaaGreatDoor
namespace Go.Proofs.YtjgccapbphadjaaGreatDoor.RegG
open Go Go.RowKit
structure aX (M:World->World->Prop) where
 P:Value->Prop
 H:Value->Value->World->Prop
 ot:Value
 pw:P ot
 st:∀ x v W W',M W W'->P v->H x v W->H x v W'
def aX.yw (M:World->World->Prop) (x:Value):aX M:=⟨fun v=>v=x,fun _ _ _=>True,x,rfl,fun _ _ _ _ _ _ _=>trivial⟩
def aX.any (M:World->World->Prop):aX M:=⟨fun _=>True,fun _ _ _=>True,undef,trivial,fun _ _ _ _ _ _ _=>trivial⟩
def eQ (s:Option Tmp) (a:Act):Value:=match s with | none=>undef | some t=>a.tmps[t]?.getD undef
theorem tL {s:Option Tmp} {a a':Act} (h:∀ t,s=some t->a.tmps[t]? =a'.tmps[t]?):eQ s a=eQ s a':=by
 cases s with
 | none=>rfl
 | some t=>unfold eQ;simp only;rw[h t rfl]
def J8 (ops:Array Oper) (cE:List Nat) (on:Nat->Option Tmp):Bool:=(List.range ops.size).all fun j=>(List.range j).all fun k=>match on j with
 | some t=> !(dM ops k==some t) || (cE.getD j 0).testBit k
 | none=>true
theorem Pj {ops:Array Oper} {cE:List Nat} {on:Nat->Option Tmp} (hz:∀ j,ops.size<=j->on j=none) (h:J8 ops cE on=true):∀ (j t k:Nat),on j=some t->dM ops k=some t->k<j->(cE.getD j 0).testBit k=true:=fun j t k ht hk hkj=>by
 unfold J8 at h;have hj:j<ops.size:=by
  rcases Nat.lt_or_ge j ops.size with h' | h'
  ·exact h'
  ·rw[hz j h']at ht;cases ht
 have:=List.all_eq_true.1 (List.all_eq_true.1 h j (List.mem_range.2 hj)) k (List.mem_range.2 hkj);rw[ht,hk]at this;simpa using this
end Go.Proofs.YtjgccapbphadjaaGreatDoor.RegG
namespace Go.Proofs.YtjgccapbphadjaaGreatDoor.fR
open Go Go.RowKit
def LS:Value->Option Nat
 | .pointer (some ⟨b,_,_⟩)=>some b
 | .slice (some ⟨b,_,_⟩) _ _=>some b
 | _=>none
def DN (W:World) (v:Value) (W':World):Prop:=∃ b,LS v=some b/\W.heap.size<=b/\b<W'.heap.size
def fre (b:Bool) (F G:Prop):Prop:=match b with | true=>F/\G | false=>G
theorem Uo {F G:Prop} :∀ {b:Bool},fre b F G->G
 | true,h=>h.2
 | false,h=>h
theorem Up {F G:Prop} {b:Bool} (hb:b=true) (h:fre b F G):F:=by subst hb;exact h.1
def nh (al:Nat->Bool) (m:Nat) (val:Nat->Value):Prop:=∀ j k,j<m->k<m->al j=true->al k=true->j≠k->LS (val j)≠LS (val k)
structure vK (al:Nat->Bool) (L:Nat->Prop) (val:Nat->Value) (W:World):Prop where
 old:∀ j,L j->al j=true->∃ b,LS (val j)=some b/\b<W.heap.size
 ne:∀ j k,L j->L k->al j=true->al k=true->j≠k->LS (val j)≠LS (val k)
theorem vK.skip {al:Nat->Bool} {L L':Nat->Prop} {val:Nat->Value} {W:World} {i:Nat} (h:vK al L val W) (hi:al i=false) (hL:∀ j,L' j->L j\/j=i):vK al L' val W:=by
 have key:∀ j,L' j->al j=true->L j:=fun j hj ha=>(hL j hj).resolve_right fun e=>by subst e;rw[hi]at ha;cases ha
 exact⟨fun j hj ha=>h.old j (key j hj ha) ha,fun j k hj hk h1 h2 h3=>h.ne j k (key j hj h1) (key k hk h2) h1 h2 h3⟩
theorem vK.step {al:Nat->Bool} {L L':Nat->Prop} {val val':Nat->Value} {W W':World} {i:Nat} (h:vK al L val W) (hs:(∃ j,al j=true)->W.heap.size<=W'.heap.size) (hL:∀ j,L' j->L j\/j=i) (hv:∀ j,L j->val' j=val j) (hn:al i=true->DN W (val' i) W'):vK al L' val' W':=by
 have key:∀ j,L j->al j=true->∃ b,LS (val' j)=some b/\b<W.heap.size:=fun j hj ha=>by rw[hv j hj];exact h.old j hj ha
 refine⟨fun j hj ha=>?_,fun j k hj hk h1 h2 h3=>?_⟩
 ·rcases hL j hj with hj | rfl
  ·obtain⟨b,e,hb⟩:=key j hj ha
   exact⟨b,e,aD hb (hs ⟨j,ha⟩)⟩
  ·obtain⟨b,e,_,hb⟩:=hn ha
   exact⟨_,e,hb⟩
 ·rcases hL j hj with hj | rfl
  ·rcases hL k hk with hk | rfl
   ·rw[hv j hj,hv k hk];exact h.ne j k hj hk h1 h2 h3
   ·obtain⟨b,e,hb⟩:=key j hj h1
    obtain⟨c,e2,hc,_⟩:=hn h2;rw[e,e2];intro e3;injection e3 with e3
    omega
  ·rcases hL k hk with hk | rfl
   ·obtain⟨b,e,hb⟩:=key k hk h2
    obtain⟨c,e2,hc,_⟩:=hn h1;rw[e,e2];intro e3;injection e3 with e3
    omega
   ·exact absurd rfl h3
section
variable {P:Program} {Cl:FuncId→Array Value→World→(Ending→World→Prop)→Prop} {Rd:Nat→FuncId→Array Value→Code→Code→World→(Ending→World→Prop)→Prop}
  {ops:Array Oper} {eff:Nat→Bool} {cE:Nat→Nat} {M:World→World→Prop} {on:Nat→Option Tmp} {EP:Nat→RegG.aX M} {C:World→Prop} {D:Nat→World→Prop} {al:Nat→Bool} {md:Region.Mode} {m:Nat}
def cN (P:Program) (Cl:FuncId->Array Value->World->(Ending->World->Prop)->Prop) (Rd:Nat->FuncId->Array Value->Code->Code->World->(Ending->World->Prop)->Prop) (ops:Array Oper) (eM:Bool) (m:Nat) (s:Option Tmp) (E:RegG.aX M) (C:World->Prop) (D:Nat->World->Prop) (al:Nat->Bool) (o:Oper) (k:Nat) (aR:List (Nat× (World->Prop))) (a:Act) (K:List (Nat× (World->Prop))->Act->Prop):Prop:=
 if Region.wanted o (yielded ops a.tmps)then
  if eM then(∀ W,C W->D k W->needs m aR W->jD Cl Rd (fun v W'=>fre (al k) (DN W v W') ((M W W'/\∀ j,j≠k->m.testBit j=false->D j W->D j W')/\E.P v/\E.H (RegG.eQ s a) v W')) ((execOp a.eval o).run P W))/\∀ v,E.P v->K ((k,E.H (RegG.eQ s a) v)::aR) (a.put o.dst v)
  else ∃ v,(∀ W,C W->needs m aR W->aF P o a v W)/\K aR (a.put o.dst v)
 else K aR (a.put o.dst undef)
def Pk (P:Program) (Cl:FuncId->Array Value->World->(Ending->World->Prop)->Prop) (Rd:Nat->FuncId->Array Value->Code->Code->World->(Ending->World->Prop)->Prop) (ops:Array Oper) (eff:Nat->Bool) (cE:Nat->Nat) (on:Nat->Option Tmp) (EP:Nat->RegG.aX M) (C:World->Prop) (D:Nat->World->Prop) (al:Nat->Bool) (Fin:Act->World->Prop):List Oper->Nat->List (Nat× (World->Prop))->Act->Prop
 | [],_,aR,a=>∀ W,C W->(∀ x∈aR,x.2 W)->Fin a W
 | o::rest,k,aR,a=>cN P Cl Rd ops (eff k) (cE k) (on k) (EP k) C D al o k aR a (Pk P Cl Rd ops eff cE on EP C D al Fin rest (k+1))
def sL (ops:Array Oper) (eff:Nat->Bool) (cE:Nat->Nat) (on:Nat->Option Tmp) (EP:Nat->RegG.aX M) (a:Act) (val:Nat->Value) (i:Nat) (W:World):Prop:=
 ∀ j,j<i->wantedAt ops a val j->eff j=true->(cE i).testBit j=true->(EP j).H (RegG.eQ (on j) (gL ops a val j)) (val j) W
def yI (P:Program) (Cl:FuncId->Array Value->World->(Ending->World->Prop)->Prop) (Rd:Nat->FuncId->Array Value->Code->Code->World->(Ending->World->Prop)->Prop) (ops:Array Oper) (eM:Bool) (m:Nat) (s:Option Tmp) (E:RegG.aX M) (C:World->Prop) (D:Nat->World->Prop) (al:Nat->Bool) (k:Nat) (o:Oper) (f:Act) (v uv:Value) (N:World->Prop):Prop:=
 if Region.wanted o (yielded ops f.tmps)then
  if eM then v=uv/\∀ W,C W->D k W->N W->jD Cl Rd (fun v W'=>fre (al k) (DN W v W') ((M W W'/\∀ j,j≠k->m.testBit j=false->D j W->D j W')/\E.P v/\E.H (RegG.eQ s f) v W')) ((execOp f.eval o).run P W)
  else ∀ W,C W->N W->aF P o f v W
 else v=undef
def DO (P:Program) (Cl:FuncId->Array Value->World->(Ending->World->Prop)->Prop) (Rd:Nat->FuncId->Array Value->Code->Code->World->(Ending->World->Prop)->Prop) (ops:Array Oper) (eff:Nat->Bool) (cE:Nat->Nat) (on:Nat->Option Tmp) (EP:Nat->RegG.aX M) (C:World->Prop) (D:Nat->World->Prop) (al:Nat->Bool) (a:Act) (u val:Nat->Value) (i:Nat):Prop:=
 ∀ o,ops[i]? =some o->yI P Cl Rd ops (eff i) (cE i) (on i) (EP i) C D al i o (gL ops a val i) (val i) (u i) (sL ops eff cE on EP a val i)
theorem pW {a:Act} {val val':Nat->Value} {i:Nat} (h:∀ k,k<i->val k=val' k):sL ops eff cE on EP a val i=sL ops eff cE on EP a val' i:=by
 funext W
 unfold sL;refine propext (forall_congr' fun j=>forall_congr' fun hj=>?_);rw[jE (val':=val') fun k hk=>h k (by omega),fy j fun k hk=>h k (by omega),h j hj]
theorem Hj {a:Act} {u val val':Nat->Value} {i:Nat} (h:∀ k,k<=i->val k=val' k) (hb:DO P Cl Rd ops eff cE on EP C D al a u val i):DO P Cl Rd ops eff cE on EP C D al a u val' i:=fun o ho=>by
 have:=hb o ho;rwa[fy i fun k hk=>h k (by omega),pW fun k hk=>h k (by omega),h i (aG _)]at this
theorem branch {Fin:Act->World->Prop} {a:Act} {u:Nat->Value} (hu:∀ j,(EP j).P (u j)):∀ (l:List Oper) (k:Nat) (val:Nat->Value) (aR:List (Nat× (World->Prop))), k+l.length=m->(∀ j,j<l.length->l[j]? =ops[k+j]?)->(∀ x∈aR,∃ j,j<k/\wantedAt ops a val j/\eff j=true/\x.1=j/\x.2=(EP j).H (RegG.eQ (on j) (gL ops a val j)) (val j))-> (∀ i,i<k->DO P Cl Rd ops eff cE on EP C D al a u val i)->Pk P Cl Rd ops eff cE on EP C D al Fin l k aR (gL ops a val k)-> ∃ val',(∀ i,i<m->DO P Cl Rd ops eff cE on EP C D al a u val' i)/\∀ W,C W->(∀ j,j<m->wantedAt ops a val' j->eff j=true->(EP j).H (RegG.eQ (on j) (gL ops a val' j)) (val' j) W)->Fin (gL ops a val' m) W
 | [],k,val,aR,hk,_,hh,hb,h=>by
  obtain rfl:k=m:=by simpa using hk
  refine⟨val,hb,fun W hW hN=>h W hW fun x hx=>?_⟩;obtain⟨j,hj,hw,he,_,hx2⟩:=hh x hx;rw[hx2];exact hN j hj hw he
 | o::l,k,val,aR,hk,hl,hh,hb,h=>by
  have ho:ops[k]? =some o:=by simpa using(hl 0 (by simp)).symm
  have step:∀ (v:Value) (J9:List (Nat× (World->Prop))),yI P Cl Rd ops (eff k) (cE k) (on k) (EP k) C D al k o (gL ops a val k) v (u k) (sL ops eff cE on EP a val k)->
    (∀ x∈J9,x∈aR\/(Region.wanted o (yielded ops (gL ops a val k).tmps)=true/\eff k=true/\x.1=k/\x.2=(EP k).H (RegG.eQ (on k) (gL ops a val k)) v))->Pk P Cl Rd ops eff cE on EP C D al Fin l (k+1) J9 ((gL ops a val k).put o.dst v)->
    ∃ val',(∀ i,i<m->DO P Cl Rd ops eff cE on EP C D al a u val' i)/\∀ W,C W->(∀ j,j<m->wantedAt ops a val' j->eff j=true->(EP j).H (RegG.eQ (on j) (gL ops a val' j)) (val' j) W)->Fin (gL ops a val' m) W:=by
   intro v J9 pE hh' ht;obtain⟨LU,Wo⟩:=ag (fun j=>if j=k then v else val j:Nat->Value);have e1:∀ j,j<k->val j=LU j:=fun j hj=>by rw[Wo];simp[show j≠k by omega]
   have ek:LU k=v:=by rw[Wo];simp
   refine branch hu l (k+1) LU J9 (by simp at hk;omega) (fun j hj=>?_) (fun x hx=>?_) (fun i hi=>?_) ?_
   ·have:=hl (j+1) (by simp;omega)
    rw[List.getElem?_cons_succ]at this;rw[this];congr 1;omega
   ·rcases hh' x hx with hx | ⟨h1,h2,h3,h4⟩
    ·obtain⟨j,hj,hw,he,h1,h2⟩:=hh x hx
     exact⟨j,by omega,(jE fun i hi=>e1 i (by omega)).1 hw,he,h1,by rw[h2,e1 j hj,fy j fun i hi=>e1 i (by omega)]⟩
    ·exact⟨k,by omega,⟨o,ho,by rw[<-fy k e1];exact h1⟩,h2,h3,by rw[h4,ek,fy k e1]⟩
   ·by_cases hik:i=k
    ·subst hik
     intro o' GJ;rw[ho]at GJ;cases GJ;rw[<-fy i e1,ek, <-pW e1];exact pE
    ·exact Hj (fun j hj=>e1 j (by omega)) (hb i (by omega))
   ·have:gL ops a LU (k+1)=(gL ops a val k).put o.dst v:=by
     show(gL ops a LU k).put (dM ops k) (LU k)=_;rw[<-fy k e1,ek];unfold dM;rw[ho];rfl
    rw[this];exact ht
  have Pm:∀ W,sL ops eff cE on EP a val k W->needs (cE k) aR W:=fun W hN x hx hm=>by
   obtain⟨j,hj,hw,he,h1,h2⟩:=hh x hx;rw[h2];rw[h1]at hm;exact hN j hj hw he hm
  unfold Pk cN at h;split at h
  ·rename_i hw
   split at h
   ·rename_i he
    refine step (u k) _ ?_ ?_ (h.2 (u k) (hu k))
    ·unfold yI;rw[if_pos hw,if_pos he];exact⟨rfl,fun W hW hD hN=>h.1 W hW hD (Pm W hN)⟩
    ·intro x hx
     rcases List.mem_cons.1 hx with rfl | hx
     ·exact .inr ⟨hw,he,rfl,rfl⟩
     ·exact .inl hx
   ·rename_i he
    obtain⟨v,h1,h2⟩:=h;refine step v _ ?_ (fun x hx=>.inl hx) h2;unfold yI;rw[if_pos hw,if_neg he];exact fun W hW hN=>h1 W hW (Pm W hN)
  ·rename_i hw
   refine step undef _ ?_ (fun x hx=>.inl hx) h;unfold yI;rw[if_neg hw]
variable {S:Nat→(Act→World→Prop)→Act→World→Prop} {Qn:Act→World→Prop}
theorem Pn (ow:∀ (i:Nat) (o:Oper),ops[i]? =some o->al i=true->eff i=true/\∀ y,Region.wanted o y=true) (hMs:(∃ j,al j=true)->∀ A B,M A B->A.heap.size<=B.heap.size) (ok:vI md ops cE m) (so:Hh P Cl Rd ops eff S) (hO:∀ (j t k:Nat),on j=some t->dM ops k=some t->k<j->(cE j).testBit k=true) (hCm:∀ W W',C W->M W W'->C W') {a0:Act} (hT:∀ u:Nat->Value,(∀ j,(EP j).P (u j))->∃ val,(∀ i,i<m->DO P Cl Rd ops eff cE on EP C D al a0 u val i)/\∀ W,C W->(∀ j,j<m->wantedAt ops a0 val j->eff j=true->(EP j).H (RegG.eQ (on j) (gL ops a0 val j)) (val j) W)->nh al m val->zw S Qn (List.range' m (ops.size-m)) (gL ops a0 val m) W): ∀ (fuel:Nat) (listed:Array Bool) (a:Act) (W:World),listed.size=ops.size->listed.toList.count false<=fuel->C W-> (∀ i j,listed.getD i false=true->(cE i).testBit j=true->listed.getD j false=true)->(∀ i,m<=i->listed.getD i false=false)->(∀ i,¬listed.getD i false=true->i<m->D i W)-> (∃ u val,(∀ j,(EP j).P (u j))/\(∀ i,i<m->DO P Cl Rd ops eff cE on EP C D al a0 u val i)/\ (∀ W,C W->(∀ j,j<m->wantedAt ops a0 val j->eff j=true->(EP j).H (RegG.eQ (on j) (gL ops a0 val j)) (val j) W)->nh al m val->zw S Qn (List.range' m (ops.size-m)) (gL ops a0 val m) W)/\ (∀ j,listed.getD j false=true->wantedAt ops a0 val j->eff j=true->(EP j).H (RegG.eQ (on j) (gL ops a0 val j)) (val j) W)/\J7 ops a0 (fun j=>listed.getD j false=true) val a/\vK al (fun j=>listed.getD j false=true) val W)-> Ul S md ops Qn fuel listed a W:=by
 intro fuel;induction fuel with
 | zero=>
  intro listed a W hs hc hC tM AY mO hex
  -- nothing is left
  obtain⟨u,val,hu,hb,kW,hH,DR,hold⟩:=hex;have hall:∀ j,j<ops.size->listed.getD j false=true:=fun j hj=>by
   rcases Hi (listed:=listed) (j:=j) (by omega)with h | h
   ·exact h
   ·have h0:listed.toList.count false=0:=by omega
    rw[List.count_eq_zero]at h0;have DK:j<listed.size:=by omega
    refine absurd ?_ h0;have:listed[j]=false:=by simpa[DK]using h
    rw[<-this];exact Array.getElem_mem_toList DK
  have hm:m=ops.size:=by
   rcases Nat.lt_or_ge m ops.size with h | h
   ·have h1:=hall m h;rw[AY m (aG _)]at h1;cases h1
   ·have:=ok.le;omega
  have hae:a=gL ops a0 val m:=by
   have h2:=ok.gL a0 val m;have:a.tmps=(gL ops a0 val m).tmps:=Array.ext_getElem? fun t=>DR.agree h2 fun j hj=>by
    have hjs:j<ops.size:=by
     rcases Nat.lt_or_ge j ops.size with h | h
     ·exact h
     ·unfold dM at hj;rw[Array.getElem?_eq_none h]at hj;cases hj
    exact⟨⟨fun _=>by omega,fun _=>hall j hjs⟩,fun _=>rfl⟩
   cases a
   have hd:=DR.defers.trans h2.defers.symm;cases hf:gL ops a0 val m;rw[hf]at this hd;simp only at this hd;rw[this,hd]
  refine zz ok so 0 ops.size 0 listed a W (by omega) (by omega) (aG _) hs (fun j hj=>⟨fun _=>hj,fun _=>hall j hj⟩) ?_;have:=kW W hC (fun j hj=>hH j (hall j (by omega))) fun j k hj hk=>hold.ne j k (hall j (by omega)) (hall k (by omega))
  rw[hae];rw[hm,Nat.sub_self]at this;rw[hm];exact this
 | succ fuel ih=>
  intro listed a W hs hc hC tM AY mO hex;obtain⟨u,val,hu,hb,kW,hH,DR,hold⟩:=hex;by_cases hall:∀ j,j<m->listed.getD j false=true
  ·have hae:a=gL ops a0 val m:=by
    have h2:=ok.gL a0 val m;have:a.tmps=(gL ops a0 val m).tmps:=Array.ext_getElem? fun t=>DR.agree h2 fun j hj=>by
     refine⟨⟨fun hj'=>?_,fun hj'=>hall j hj'⟩,fun _=>rfl⟩;rcases Nat.lt_or_ge j m with h | h
     ·exact h
     ·rw[AY j h]at hj';cases hj'
    cases a
    have hd:=DR.defers.trans h2.defers.symm;cases hf:gL ops a0 val m;rw[hf]at this hd;simp only at this hd;rw[this,hd]
   have XU:ops.size-m<=fuel+1:=by
    refine Nat.le_trans ?_ hc;have h1:(listed.toList.drop m).count false=(listed.toList.drop m).length:=by
     rw[List.count_eq_length];intro b hb';obtain⟨k,hk,rfl⟩:=List.getElem_of_mem hb';rw[List.getElem_drop];have tI:m+k<listed.size:=by simp at hk;omega
     have:=AY (m+k) (by omega);simp[tI]at this;simp[this]
    have h2:(listed.toList.drop m).count false<=listed.toList.count false:=List.Sublist.count_le _ (List.drop_sublist _ _);rw[h1]at h2;simp at h2 ⊢;omega
   refine zz ok so (ops.size-m) m (fuel+1) listed a W (aG _) (by have:=ok.le;omega) XU hs (fun j hj=>⟨fun h=>?_,fun h=>hall j h⟩) ?_
   ·rcases Nat.lt_or_ge j m with h' | h'
    ·exact h'
    ·rw[AY j h']at h;cases h
   ·rw[hae];exact kW W hC (fun j hj=>hH j (hall j hj)) fun j k hj hk=>hold.ne j k (hall j hj) (hall k hk)
  ·-- some operation of the free part is still to come
   have hex:∃ j,j<m/\¬listed.getD j false=true:=by refine Classical.byContradiction fun hno=>hall fun j hj=>Classical.byContradiction fun hn=>hno ⟨j,hj,hn⟩
   refine⟨fun hnil=>?_,fun i hi=>?_⟩
   ·exfalso
    -- the first of them is ready
    have key:∀ k,k<m->¬listed.getD k false=true->False:=by
     intro k;induction k using Nat.strongRecOn with
     | ind k ihk=>
      intro hk hn;have TI:k<ops.size:=by have:=ok.le;omega
      have AZ:k<listed.size:=by omega
      have:k∈Region.ready md ops listed:=by rw[mem_ready];refine⟨by simp[AZ]at hn ⊢;exact hn,_,Array.getElem?_eq_getElem TI,fun e he hb'=>?_⟩;have hes:=ok.DJ k _ (Array.getElem?_eq_getElem TI) e he hb';exact Classical.byContradiction fun h=>ihk e.on hes (by omega) h
      rw[hnil]at this;cases this
    obtain⟨j,hj,hn⟩:=hex;exact key j hj hn
   ·obtain⟨h1,o,ho,Po⟩:=mem_ready.1 hi
    have Un:i<ops.size:=(Array.getElem?_eq_some_iff.1 ho).1;have gJ:i<listed.size:=by omega
    have j7:¬listed.getD i false=true:=by simp[gJ]at h1 ⊢;exact h1
    have Hk:∀ j,(cE i).testBit j=true->listed.getD j false=true:=fun j hj=>by
     obtain⟨e,he,hb',kK⟩:=ok.sound i o j ho hj;rcases kK with rfl | kK
     ·exact Po e he hb'
     ·exact tM e.on j (Po e he hb') kK
    have XS:i<m:=by
     rcases Nat.lt_or_ge i m with h | h
     ·exact h
     ·exfalso
      obtain⟨j,hj,hn⟩:=hex;exact hn (Hk j (ok.tail i j h Un (by omega)))
    have af0:dM ops i=o.dst:=by unfold dM;rw[ho];rfl
    -- the frame where it looks
    have pF:∀ t,t∈o.looksAt ops->a.tmps[t]? =(gL ops a0 val i).tmps[t]? :=fun t ht=>DR.agree (ok.gL a0 val i) fun j hj=>by
     obtain⟨k1,k2⟩:=ok.looks i o t j XS ho ht hj;refine⟨⟨fun DK=>?_,fun ku=>Hk j (k1 ku)⟩,fun _=>rfl⟩;rcases Nat.lt_trichotomy j i with h | h | h
     ·exact h
     ·subst h;exact absurd DK j7
     ·exact absurd (tM j i DK (k2 h)) j7
    obtain⟨abL,XY⟩:=sM (ok.sel i o · · ho) pF;have hN:sL ops eff cE on EP a0 val i W:=fun j _ hw he ha=>hH j (Hk j ha) hw he
    have Uq:=hb i XS o ho
    -- what follows
    have hs':(listed.setIfInBounds i true).size=ops.size:=by simpa using hs
    have hc':(listed.setIfInBounds i true).toList.count false<=fuel:=by rw[Array.toList_setIfInBounds];have:=count_set listed.toList i (by simp[gJ]at h1;simp[gJ,h1]);omega
    have mP:∀ j,(listed.setIfInBounds i true).getD j false=true↔(listed.getD j false=true\/j=i):=fun j=>by
     by_cases mF:i=j
     ·subst mF;simp[gJ]
     ·rw[getD_set_ne false mF]
      constructor
      ·exact .inl
      ·rintro(h | h)
       ·exact h
       ·exact absurd h.symm mF
    have Hl:∀ k j,(listed.setIfInBounds i true).getD k false=true->(cE k).testBit j=true->(listed.setIfInBounds i true).getD j false=true:=fun k j hk hj=>by
     rw[mP]at hk ⊢;rcases hk with hk | rfl
     ·exact .inl (tM k j hk hj)
     ·exact .inl (Hk j hj)
    have XZ:∀ k,m<=k->(listed.setIfInBounds i true).getD k false=false:=fun k hk=>by
     rw[getD_set_ne false (by omega)];exact AY k hk
    have hput:∀ (val':Nat->Value),(∀ j,listed.getD j false=true->val' j=val j)->J7 ops a0 (fun j=>(listed.setIfInBounds i true).getD j false=true) val' (a.put o.dst (val' i)):=fun val' hv=>by
     have h0:J7 ops a0 (fun j=>listed.getD j false=true) val' a:=⟨DR.defers,DR.size,DR.old,fun j t h1 h2 h3=>by rw[hv j h1];exact DR.new j t h1 h2 h3⟩;have:=h0.put (L':=fun j=>(listed.setIfInBounds i true).getD j false=true) i mP fun j t g1 g2 g3=>by
      rcases Nat.lt_trichotomy j i with h | h | h
      ·exact ok.Um j i t h g2 g3
      ·exact j7 (h▸g1)
      ·exact ok.Um i j t h g3 g2
     rwa[af0]at this
    unfold yI at Uq;by_cases hw:Region.wanted o (yielded ops (gL ops a0 val i).tmps)=true
    ·rw[if_pos hw]at Uq
     cases he:eff i with
     | false=>
      rw[he,if_neg (by decide)]at Uq;have pG:=Uq W hC hN;unfold aF at pG;rw[<-abL]at pG;refine so.flt i o _ a W (val i) ho he (by rw[XY];exact hw) pG ?_;refine ih _ _ W hs' hc' hC Hl XZ (fun j hj GK=>mO j (fun h=>hj ((mP j).2 (.inl h))) GK) ⟨u,val,hu,hb,kW,fun j hj Ur AX=>?_,hput val fun _ _=>rfl,hold.skip (Bool.eq_false_iff.2 fun ha=>by rw[(ow i o ho ha).1]at he;cases he) fun j hj=>(mP j).1 hj⟩;rcases(mP j).1 hj with hj | rfl
      ·exact hH j hj Ur AX
      ·rw[he]at AX;cases AX
     | true=>
      rw[he,if_pos rfl]at Uq;have hef:=Uq.2 W hC (mO i j7 XS) hN;rw[<-abL]at hef;refine so.eff i o _ a W ho he (by rw[XY];exact hw) (so.Wn _ _ _ (fun v W' abM=>?_) hef);obtain⟨⟨Pp,hDv⟩,hPv,hHv⟩:=Uo abM
      -- another branch
      obtain⟨u',Ya⟩:=ag (fun j=>if j=i then v else u j:Nat->Value);have hu':∀ j,(EP j).P (u' j):=fun j=>by
       rw[Ya];show(EP j).P (if j=i then v else u j);split
       ·rename_i h;subst h;exact hPv
       ·exact hu j
      obtain⟨val',hb',abN⟩:=hT u' hu';have Dx:=hCm W W' hC Pp;have DT:∀ j,listed.getD j false=true->val' j=val j/\(wantedAt ops a0 val' j↔wantedAt ops a0 val j)/\RegG.eQ (on j) (gL ops a0 val' j)=RegG.eQ (on j) (gL ops a0 val j):=by
       intro j;induction j using Nat.strongRecOn with
       | ind j ihj=>
        intro hj;have GK:j<m:=by
         rcases Nat.lt_or_ge j m with h | h
         ·exact h
         ·rw[AY j h]at hj;cases hj
        have hjs:j<ops.size:=by have:=ok.le;omega
        have yC:=Array.getElem?_eq_getElem hjs;obtain⟨oj,vF⟩:∃ oj,ops[j]? =some oj:=⟨_,yC⟩;have hlk:∀ t,t∈oj.looksAt ops->(gL ops a0 val' j).tmps[t]? =(gL ops a0 val j).tmps[t]? :=fun t ht=>(ok.gL a0 val' j).agree (ok.gL a0 val j) fun k hk=>by
         refine⟨Iff.rfl,fun hkj=>(ihj k hkj ?_).1⟩;exact tM j k hj ((ok.looks j oj t k GK vF ht hk).1 hkj)
        obtain⟨he1,he2⟩:=sM (ok.sel j oj · · vF) hlk;have abP:wantedAt ops a0 val' j↔wantedAt ops a0 val j:=by
         unfold wantedAt;constructor
         ·rintro⟨o1,h1,h2⟩
          rw[vF]at h1;cases h1;exact⟨oj,vF,by rw[<-he2];exact h2⟩
         ·rintro⟨o1,h1,h2⟩
          rw[vF]at h1;cases h1;exact⟨oj,vF,by rw[he2];exact h2⟩
        refine⟨?_,abP,RegG.tL fun t ht=>(ok.gL a0 val' j).agree (ok.gL a0 val j) fun k hk=>⟨Iff.rfl,fun hkj=>(ihj k hkj (tM j k hj (hO j t k ht hk hkj))).1⟩⟩;have b1:=hb j GK oj vF;have b2:=hb' j GK oj vF;unfold yI at b1 b2;rw[he2]at b2;by_cases Ur:Region.wanted oj (yielded ops (gL ops a0 val j).tmps)=true
        ·rw[if_pos Ur]at b1 b2
         cases AX:eff j with
         | true=>
          rw[AX,if_pos rfl]at b1 b2;have ku:j≠i:=fun h=>by subst h;exact j7 hj
          rw[b1.1,b2.1,Ya];simp[ku]
         | false=>
          rw[AX,if_neg (by decide)]at b1 b2;have n1:sL ops eff cE on EP a0 val j W':=fun k hk hwk LP hak=>by
           have AZ:=tM j k hj hak;have hPk:(EP k).P (val k):=by have bk:=hb k (by omega);obtain⟨ok',pE,af2⟩:=hwk;have:=bk ok' pE;unfold yI at this;rw[if_pos af2,LP,if_pos rfl]at this;rw[this.1];exact hu k
           exact(EP k).st _ _ W W' Pp hPk (hH k AZ hwk LP)
          have n2:sL ops eff cE on EP a0 val' j W':=fun k hk hwk LP hak=>by
           obtain⟨s1,s2,s3⟩:=ihj k hk (tM j k hj hak);rw[s1,s3];exact n1 k hk (s2.1 hwk) LP hak
          have f1:=b1 W' Dx n1;have f2:=b2 W' Dx n2;unfold aF at f1 f2;rw[he1]at f2;rcases f1 with f1 | ⟨f1,g1⟩<;>rcases f2 with f2 | ⟨f2,g2⟩<;>rw[f1]at f2
          ·injection f2 with f2 _;injection f2 with f2;exact f2.symm
          ·injection f2 with f2 _;cases f2
          ·injection f2 with f2 _;cases f2
          ·rw[g1,g2]
        ·rw[if_neg Ur]at b1 b2
         rw[b1,b2]
      have af3:RegG.eQ (on i) (gL ops a0 val' i)=RegG.eQ (on i) (gL ops a0 val i):=RegG.tL fun t ht=>(ok.gL a0 val' i).agree (ok.gL a0 val i) fun k hk=>
        ⟨Iff.rfl,fun eE=>(DT k (Hk k (hO i t k ht hk eE))).1⟩
      have hvi:val' i=v:=by
       have b2:=hb' i XS o ho;have hlk:∀ t,t∈o.looksAt ops->(gL ops a0 val' i).tmps[t]? =(gL ops a0 val i).tmps[t]? :=fun t ht=>(ok.gL a0 val' i).agree (ok.gL a0 val i) fun k hk=>
        ⟨Iff.rfl,fun eE=>(DT k (Hk k ((ok.looks i o t k XS ho ht hk).1 eE))).1⟩
       obtain⟨_,he2⟩:=sM (ok.sel i o · · ho) hlk;unfold yI at b2;rw[he2,if_pos hw,he,if_pos rfl]at b2;rw[b2.1,Ya];simp
      have:=hput val' fun j hj=>(DT j hj).1
      rw[hvi]at this;refine ih _ _ W' hs' hc' Dx Hl XZ (fun j hj GK=>hDv j (fun e=>hj ((mP j).2 (.inr e))) (Bool.eq_false_iff.2 fun e=>hj ((mP j).2 (.inl (Hk j e)))) (mO j (fun h=>hj ((mP j).2 (.inl h))) GK)) ⟨u',val',hu',hb',abN,fun j hj Ur AX=>?_,this,hold.step (fun h=>hMs h _ _ Pp) (fun j hj=>(mP j).1 hj) (fun j hj=>(DT j hj).1) (fun ha=>by rw[hvi];exact Up ha abM)⟩;rcases(mP j).1 hj with hj | rfl
      ·obtain⟨s1,s2,s3⟩:=DT j hj
       have abQ:=s2.1 Ur;have hPj:(EP j).P (val j):=by
        have GK:j<m:=by
         rcases Nat.lt_or_ge j m with h | h
         ·exact h
         ·rw[AY j h]at hj;cases hj
        obtain⟨oj,yC,Yb⟩:=abQ;have:=hb j GK oj yC;unfold yI at this;rw[if_pos Yb,AX,if_pos rfl]at this;rw[this.1];exact hu j
       rw[s1,s3];exact(EP j).st _ _ W W' Pp hPj (hH j hj abQ AX)
      ·rw[hvi,af3];exact hHv
    ·rw[if_neg hw]at Uq
     have hwf:Region.wanted o (yielded ops a.tmps)=false:=by rw[XY];simpa using hw
     refine so.un i o _ a W ho hwf ?_;have h0:=hput val fun _ _=>rfl
     rw[Uq]at h0;refine ih _ _ W hs' hc' hC Hl XZ (fun j hj GK=>mO j (fun h=>hj ((mP j).2 (.inl h))) GK) ⟨u,val,hu,hb,kW,fun j hj Ur AX=>?_,h0,hold.skip (Bool.eq_false_iff.2 fun ha=>hw ((ow i o ho ha).2 _)) fun j hj=>(mP j).1 hj⟩;rcases(mP j).1 hj with hj | rfl
     ·exact hH j hj Ur AX
     ·obtain⟨oj,yC,Yb⟩:=Ur
      rw[ho]at yC;cases yC;exact absurd Yb hw
end
section
variable {P:Program} {Cl:FuncId→Array Value→World→(Ending→World→Prop)→Prop} {Rd:Nat→FuncId→Array Value→Code→Code→World→(Ending→World→Prop)→Prop}
  {ops:Array Oper} {eff:Nat→Bool} {cE:Nat→Nat} {M:World→World→Prop} {on:Nat→Option Tmp} {EP:Nat→RegG.aX M} {C:World→Prop} {D:Nat→World→Prop} {al:Nat→Bool} {Fin:List Oper→Act→World→Prop}
def fS (P:Program) (Cl:FuncId->Array Value->World->(Ending->World->Prop)->Prop) (Rd:Nat->FuncId->Array Value->Code->Code->World->(Ending->World->Prop)->Prop) (ops:Array Oper) (eff:Nat->Bool) (cE:Nat->Nat) (on:Nat->Option Tmp) (EP:Nat->RegG.aX M) (C:World->Prop) (D:Nat->World->Prop) (al:Nat->Bool) (Fin:List Oper->Act->World->Prop):Nat->List Oper->Nat->List (Nat× (World->Prop))->Act->Prop
 | 0,l,_,aR,a=>∀ W,C W->(∀ x∈aR,x.2 W)->Fin l a W
 | _+1,[],_,_,_=>False
 | m+1,o::rest,k,aR,a=>cN P Cl Rd ops (eff k) (cE k) (on k) (EP k) C D al o k aR a (fS P Cl Rd ops eff cE on EP C D al Fin m rest (k+1))
theorem Hm {eM:Bool} {m:Nat} {s:Option Tmp} {E:RegG.aX M} {o:Oper} {k:Nat} {aR:List (Nat× (World->Prop))} {a:Act} {K K':List (Nat× (World->Prop))->Act->Prop} (h:∀ hi a,K hi a->K' hi a) (hh:cN P Cl Rd ops eM m s E C D al o k aR a K):cN P Cl Rd ops eM m s E C D al o k aR a K':=by
 unfold cN at*;split
 ·rename_i hw
  rw[if_pos hw]at hh;split
  ·rename_i he
   rw[if_pos he]at hh;exact⟨hh.1,fun v hv=>h _ _ (hh.2 v hv)⟩
  ·rename_i he
   rw[if_neg he]at hh;obtain⟨v,h1,h2⟩:=hh;exact⟨v,h1,h _ _ h2⟩
 ·rename_i hw
  rw[if_neg hw]at hh;exact h _ _ hh
theorem ri:∀ (m:Nat) (l:List Oper) (k:Nat) (aR:List (Nat× (World->Prop))) (a:Act),fS P Cl Rd ops eff cE on EP C D al Fin m l k aR a->Pk P Cl Rd ops eff cE on EP C D al (Fin (l.drop m)) (l.take m) k aR a
 | 0,l,_,_,_,h=>by rw[List.take_zero,List.drop_zero];exact h
 | m+1,[],_,_,_,h=>h.elim
 | m+1,o::l,k,aR,a,h=>by
  rw[List.take_succ_cons,List.drop_succ_cons];exact Hm (fun hi a h=>ri m l (k+1) hi a h) h
theorem au {m:Nat} {o:Oper} {rest:List Oper} {k:Nat} {aR:List (Nat× (World->Prop))} {a:Act} (h:∀ K:List (Nat× (World->Prop))->Act->Prop,(∀ hi a,er (fS P Cl Rd ops eff cE on EP C D al Fin m rest (k+1) hi a)->K hi a)->cN P Cl Rd ops (eff k) (cE k) (on k) (EP k) C D al o k aR a K):er (fS P Cl Rd ops eff cE on EP C D al Fin (m+1) (o::rest) k aR a):=
 ⟨h _ fun _ _ h=>h.out⟩
theorem bM {l:List Oper} {k:Nat} {aR:List (Nat× (World->Prop))} {a:Act} (h:∀ W,C W->(∀ x∈aR,x.2 W)->Fin l a W):er (fS P Cl Rd ops eff cE on EP C D al Fin 0 l k aR a):=⟨h⟩
theorem bV {eM:Bool} {m:Nat} {s:Option Tmp} {E:RegG.aX M} {o:Oper} {k:Nat} {aR:List (Nat× (World->Prop))} {a:Act} {K:List (Nat× (World->Prop))->Act->Prop} (he:eM=false) (hw:Region.wanted o (yielded ops a.tmps)=true) (h:∃ v,(∀ W: {W//C W},aF P o a v W.1)/\K aR (a.put o.dst v)):cN P Cl Rd ops eM m s E C D al o k aR a K:=by subst he;unfold cN;rw[if_pos hw,if_neg (by decide)];obtain⟨v,h1,h2⟩:=h;exact⟨v,fun W hW _=>h1 ⟨W,hW⟩,h2⟩
theorem DU {eM:Bool} {m:Nat} {s:Option Tmp} {E:RegG.aX M} {o:Oper} {k:Nat} {aR:List (Nat× (World->Prop))} {a:Act} {K:List (Nat× (World->Prop))->Act->Prop} (he:eM=false) (hw:Region.wanted o (yielded ops a.tmps)=true) (v:Value) (h1:∀ W,C W->needs m aR W->aF P o a v W) (h2:K aR (a.put o.dst v)):cN P Cl Rd ops eM m s E C D al o k aR a K:=by subst he;unfold cN;rw[if_pos hw,if_neg (by decide)];exact⟨v,h1,h2⟩
theorem ct {eM:Bool} {m:Nat} {s:Option Tmp} {E:RegG.aX M} {o:Oper} {k:Nat} {aR:List (Nat× (World->Prop))} {a:Act} {K:List (Nat× (World->Prop))->Act->Prop} (he:eM=true) (hw:Region.wanted o (yielded ops a.tmps)=true) (E':RegG.aX M) (hE:E=E') (h1:∀ W,C W->D k W->needs m aR W->jD Cl Rd (fun v W'=>fre (al k) (DN W v W') ((M W W'/\∀ j,j≠k->m.testBit j=false->D j W->D j W')/\E'.P v/\E'.H (RegG.eQ s a) v W')) ((execOp a.eval o).run P W)) (h2:∀ v,E'.P v->K ((k,E'.H (RegG.eQ s a) v)::aR) (a.put o.dst v)):cN P Cl Rd ops eM m s E C D al o k aR a K:=by subst he hE;unfold cN;rw[if_pos hw,if_pos rfl];exact⟨h1,h2⟩
theorem cg {eM:Bool} {m:Nat} {s:Option Tmp} {E:RegG.aX M} {o:Oper} {k:Nat} {aR:List (Nat× (World->Prop))} {a:Act} {K:List (Nat× (World->Prop))->Act->Prop} (hw:Region.wanted o (yielded ops a.tmps)=false) (h:K aR (a.put o.dst undef)):cN P Cl Rd ops eM m s E C D al o k aR a K:=by unfold cN;rw[hw,if_neg (by decide)];exact h
end
def Pq (ops:Array Oper) (eff:Nat->Bool) (al:List Nat) (m:Nat):Bool:=
 al.all fun i=>decide (i<m)&&eff i&&match ops[i]? with
  | none=>false
  | some o=>o.guard.isNone
theorem vL {ops:Array Oper} {eff:Nat->Bool} {al:List Nat} {m:Nat} (h:Pq ops eff al m=true) (i:Nat) (hi:al.contains i=true):i<m/\eff i=true/\∃ o,ops[i]? =some o/\o.guard=none:=by
 have h1:=List.all_eq_true.1 h i (List.contains_iff_mem.1 hi);simp only[Bool.and_eq_true,decide_eq_true_eq]at h1;obtain⟨⟨h1,h2⟩,h3⟩:=h1;refine⟨h1,h2,?_⟩;split at h3
 ·cases h3
 ·rename_i o ho
  exact⟨o,ho,Option.isNone_iff_eq_none.1 h3⟩
def A0 (ops:Array Oper) (al:List Nat) (a:Act):Prop:=∀ i j s t u v,al.contains i=true->al.contains j=true->i≠j->dM ops i=some s->dM ops j=some t->s<a.tmps.size->t<a.tmps.size->a.tmps[s]? =some u->a.tmps[t]? =some v->LS u≠LS v
theorem jF {P:Program} {id:Nat} {Q:Exit->Act->World->Prop} {a:Act} {w:World} {l:List Oper} (M:World->World->Prop) (hd:M w w.drew) (Yc:∀ A B C,M A B->M B C->M A C) (hm:P.follows .mixedOrders=true) (m:Nat) (cE:List Nat) (eff:Nat->Bool) (hB:ng .any l.toArray cE m=true) (on:Nat->Option Tmp) (hz:∀ j,l.toArray.size<=j->on j=none) (hO:RegG.J8 l.toArray cE on=true) (EP:Nat->RegG.aX M) (D:Nat->World->Prop) (hD0:∀ j,j<m->D j w.drew) (al:List Nat) (alf:Nat->Bool) (hA:Pq l.toArray eff al m=true) (hf:∀ j,alf j=al.contains j) (hMs:(∃ j,alf j=true)->∀ A B,M A B->A.heap.size<=B.heap.size) (Fin:List Oper->Act->World->Prop) (hF:∀ r a W,A0 l.toArray al a->Fin r a W->wpList P l.toArray Q r a W) (h:∀ C:World->Prop,(∀ W,C W↔M w W)->Nonempty {W//C W} ->er (fS P (Calls P) gz l.toArray eff (fun i=>cE.getD i 0) on EP C D alf Fin m l 0 [] a)):(Code.region id l.toArray true).wp P Q a w:=by
 have ok:=LQ hB;have h0:M w w.drew:=hd;have hT:=ri m l 0 [] a (h (M w) (fun _=>Iff.rfl) ⟨⟨_,h0⟩⟩).out;have pd:m<=l.length:=by have:=ok.le;simpa using this
 have hbr:∀ u:Nat->Value,(∀ j,(EP j).P (u j))->∃ val,(∀ i,i<m->DO P (Calls P) gz l.toArray eff (fun i=>cE.getD i 0) on EP (M w) D alf a u val i)/\
   ∀ W,M w W->(∀ j,j<m->wantedAt l.toArray a val j->eff j=true->(EP j).H (RegG.eQ (on j) (gL l.toArray a val j)) (val j) W)->nh alf m val->zw (wpOp P l.toArray Q) (fun a w=>Q .normal a w) (List.range' m (l.toArray.size-m)) (gL l.toArray a val m) W:=fun u hu=>by
  obtain⟨val,h1,h2⟩:=branch (ops:=l.toArray) (m:=m) (a:=a) hu (l.take m) 0 (fun _=>undef) [] (by rw[List.length_take];omega) (fun j hj=>by rw[List.length_take]at hj;simp[List.getElem?_take];omega) (fun x hx=>by cases hx) (fun i hi=>by omega) hT;refine⟨val,h1,fun W hW hN hap=>zA _ _ _ (fun i hi=>?_) ?_⟩
  ·have:=(List.mem_range'.1 hi)
   obtain⟨k,hk,rfl⟩:=this;simp only[List.size_toArray]at*;omega
  ·have:=wpOps_eq_wpList (P:=P) (ops:=l.toArray) (Q:=Q) (l.drop m) m (fun j=>by simp[List.getElem?_drop])
   rw[List.length_drop]at this;simp only[List.size_toArray];rw[this];refine hF _ _ _ (fun i j s t u v hi hj mF hs ht h3 h4 h5 h6=>?_) (h2 W hW hN);have DR:=ok.gL a val m;rw[DR.size]at h3 h4;have hi2:=(vL hA i hi).1;have kX:=(vL hA j hj).1;rw[DR.new i s hi2 hs h3]at h5;rw[DR.new j t kX ht h4]at h6;cases h5;cases h6;exact hap i j hi2 kX (by rw[hf];exact hi) (by rw[hf];exact hj) mF
 have hno:∀ j,(Array.replicate l.toArray.size false).getD j false=false:=fun j=>by
  rcases Nat.lt_or_ge j l.length with h | h
  ·simp[h]
  ·simp[Nat.not_lt.2 h]
 refine wp_region_any hm (vJ _ _ _ _ ?_)
 refine Pn (eff:=eff) (on:=on) (EP:=EP) (C:=M w) (D:=D) (al:=alf) (fun i o ho ha=>by
  obtain⟨_,h1,o',GJ,hg⟩:=vL hA i (by rw[<-hf];exact ha);rw[ho]at GJ;cases GJ
  exact⟨h1,fun y=>by unfold Region.wanted;rw[hg]⟩) hMs ok DL (RegG.Pj hz hO) (fun W W' h h'=>Yc _ _ _ h h') (a0:=a) hbr _ _ _ _ (by simp) (by simp) h0 (fun i j hi=>by rw[hno]at hi;cases hi) (fun i _=>hno i) (fun i _ hi=>hD0 i hi) ?_
 obtain⟨val,h1,h2⟩:=hbr (fun j=>(EP j).ot) (fun j=>(EP j).pw);exact⟨_,val,fun j=>(EP j).pw,h1,h2,fun j hj=>by(rw[hno]at hj;cases hj),J7.start a _ (fun j hj=>by(rw[hno]at hj;cases hj)),⟨fun j hj=>by(rw[hno]at hj;cases hj),fun j _ hj=>by(rw[hno]at hj;cases hj)⟩⟩
end Go.Proofs.YtjgccapbphadjaaGreatDoor.fR
namespace Go.Proofs.YtjgccapbphadjaaGreatDoor
open Go Go.RowKit
theorem ox {P:Program} {p q:Value->World->Prop} (h:∀ v W,p v W->q v W):∀ {r:Result Next},jD (Calls P) gz p r->jD (Calls P) gz q r
 | .ok (.value _) _,hr=>h _ _ hr
 | .ok .skip _,hr=>h _ _ hr
 | .ok (.enter _ _) _,hr=>Calls.mono hr fun _ _ ⟨v,e,hv⟩=>⟨v,e,h _ _ hv⟩
 | .ok (.round _ _ _ _ _) _,hr=>nomatch hr
end Go.Proofs.YtjgccapbphadjaaGreatDoor
namespace Go.Proofs.YtjgccapbphadjaaGreatDoor.RegQ
open Go Go.RowKit
def up {M:World->World->Prop} (E:aX M):RegG.aX M:=⟨E.P,fun _=>E.H,E.ot,E.pw,fun _ v W W'=>E.st v W W'⟩
def fS {M:World->World->Prop} (P:Program) (Cl:FuncId->Array Value->World->(Ending->World->Prop)->Prop) (Rd:Nat->FuncId->Array Value->Code->Code->World->(Ending->World->Prop)->Prop) (ops:Array Oper) (eff:Nat->Bool) (cE:Nat->Nat) (EP:Nat->aX M) (C:World->Prop) (D:Nat->World->Prop) (Fin:List Oper->Act->World->Prop) (n:Nat) (l:List Oper) (k:Nat) (aR:List (Nat× (World->Prop))) (a:Act):Prop:=
 fR.fS P Cl Rd ops eff cE (fun _=>none) (fun i=>up (EP i)) C D (fun _=>false) Fin n l k aR a
def cN {M:World->World->Prop} (P:Program) (Cl:FuncId->Array Value->World->(Ending->World->Prop)->Prop) (Rd:Nat->FuncId->Array Value->Code->Code->World->(Ending->World->Prop)->Prop) (ops:Array Oper) (eM:Bool) (m:Nat) (E:aX M) (C:World->Prop) (D:Nat->World->Prop) (o:Oper) (k:Nat) (aR:List (Nat× (World->Prop))) (a:Act) (K:List (Nat× (World->Prop))->Act->Prop):Prop:=
 fR.cN P Cl Rd ops eM m none (up E) C D (fun _=>false) o k aR a K
section
variable {P:Program} {Cl:FuncId→Array Value→World→(Ending→World→Prop)→Prop} {Rd:Nat→FuncId→Array Value→Code→Code→World→(Ending→World→Prop)→Prop}
  {ops:Array Oper} {eff:Nat→Bool} {cE:Nat→Nat} {M:World→World→Prop} {on:Nat→Option Tmp} {EP:Nat→aX M} {C:World→Prop} {D:Nat→World→Prop} {Fin:List Oper→Act→World→Prop} {eM:Bool} {m:Nat} {s:Option Tmp} {E:aX M} {o:Oper} {k:Nat} {aR:List (Nat× (World→Prop))} {a:Act} {K:List (Nat× (World→Prop))→Act→Prop} {l:List Oper}
theorem au (h:∀ K:List (Nat× (World->Prop))->Act->Prop,(∀ hi a,er (fS P Cl Rd ops eff cE EP C D Fin m l (k+1) hi a)->K hi a)->cN P Cl Rd ops (eff k) (cE k) (EP k) C D o k aR a K):er (fS P Cl Rd ops eff cE EP C D Fin (m+1) (o::l) k aR a):=
 ⟨(fR.au (D:=D) (al:=fun _=>false) (on:=(fun _=>none)) fun K hK=>h K fun hi a hl=>hK hi a ⟨hl.out⟩).out⟩
theorem bM (h:∀ W,C W->(∀ x∈aR,x.2 W)->Fin l a W):er (fS P Cl Rd ops eff cE EP C D Fin 0 l k aR a):=⟨h⟩
theorem bV (he:eM=false) (hw:Region.wanted o (yielded ops a.tmps)=true) (h:∃ v,(∀ W: {W//C W},aF P o a v W.1)/\K aR (a.put o.dst v)):cN P Cl Rd ops eM m E C D o k aR a K:=fR.bV he hw h
theorem DU (he:eM=false) (hw:Region.wanted o (yielded ops a.tmps)=true) (v:Value) (h1:∀ W,C W->needs m aR W->aF P o a v W) (h2:K aR (a.put o.dst v)):cN P Cl Rd ops eM m E C D o k aR a K:=fR.DU he hw v h1 h2
theorem ct (he:eM=true) (hw:Region.wanted o (yielded ops a.tmps)=true) (E':aX M) (hE:E=E') (h1:∀ W,C W->D k W->needs m aR W->jD Cl Rd (fun v W'=>(M W W'/\∀ j,j≠k->m.testBit j=false->D j W->D j W')/\E'.P v/\E'.H v W') ((execOp a.eval o).run P W)) (h2:∀ v,E'.P v->K ((k,E'.H v)::aR) (a.put o.dst v)):cN P Cl Rd ops eM m E C D o k aR a K:=
 fR.ct (al:=fun _=>false) (s:=none) he hw (up E') (by rw[hE]) h1 h2
theorem cg (hw:Region.wanted o (yielded ops a.tmps)=false) (h:K aR (a.put o.dst undef)):cN P Cl Rd ops eM m E C D o k aR a K:=fR.cg hw h
end
theorem bL {P:Program} {id:Nat} {Q:Exit->Act->World->Prop} {a:Act} {w:World} {l:List Oper} (M:World->World->Prop) (hd:M w w.drew) (Yc:∀ A B C,M A B->M B C->M A C) (hm:P.follows .mixedOrders=true) (m:Nat) (cE:List Nat) (eff:Nat->Bool) (hB:ng .any l.toArray cE m=true) (EP:Nat->aX M) (D:Nat->World->Prop) (hD0:∀ j,j<m->D j w.drew) (h:∀ C:World->Prop,(∀ W,C W↔M w W)->Nonempty {W//C W} ->er (fS P (Calls P) gz l.toArray eff (fun i=>cE.getD i 0) EP C D (fun r a W=>wpList P l.toArray Q r a W) m l 0 [] a)):(Code.region id l.toArray true).wp P Q a w:=
 fR.jF M hd Yc hm m cE eff hB (fun _=>none) (fun _ _=>rfl) (List.all_eq_true.2 fun _ _=>List.all_eq_true.2 fun _ _=>rfl) (fun i=>up (EP i)) D hD0 [] (fun _=>false) rfl (fun _=>rfl) (fun h=>by obtain⟨_,h⟩:=h;cases h) _ (fun _ _ _ _ h=>h) fun C hC hne=>⟨(h C hC hne).out⟩
end Go.Proofs.YtjgccapbphadjaaGreatDoor.RegQ
namespace Go.Proofs.YtjgccapbphadjaaGreatDoor.RegG
open Go Go.RowKit
def fS {M:World->World->Prop} (P:Program) (Cl:FuncId->Array Value->World->(Ending->World->Prop)->Prop) (Rd:Nat->FuncId->Array Value->Code->Code->World->(Ending->World->Prop)->Prop) (ops:Array Oper) (eff:Nat->Bool) (cE:Nat->Nat) (on:Nat->Option Tmp) (EP:Nat->aX M) (C:World->Prop) (Fin:List Oper->Act->World->Prop) (n:Nat) (l:List Oper) (k:Nat) (aR:List (Nat× (World->Prop))) (a:Act):Prop:=
 fR.fS P Cl Rd ops eff cE on EP C (fun _ _=>True) (fun _=>false) Fin n l k aR a
def cN {M:World->World->Prop} (P:Program) (Cl:FuncId->Array Value->World->(Ending->World->Prop)->Prop) (Rd:Nat->FuncId->Array Value->Code->Code->World->(Ending->World->Prop)->Prop) (ops:Array Oper) (eM:Bool) (m:Nat) (s:Option Tmp) (E:aX M) (C:World->Prop) (o:Oper) (k:Nat) (aR:List (Nat× (World->Prop))) (a:Act) (K:List (Nat× (World->Prop))->Act->Prop):Prop:=
 fR.cN P Cl Rd ops eM m s E C (fun _ _=>True) (fun _=>false) o k aR a K
section
variable {P:Program} {Cl:FuncId→Array Value→World→(Ending→World→Prop)→Prop} {Rd:Nat→FuncId→Array Value→Code→Code→World→(Ending→World→Prop)→Prop}
  {ops:Array Oper} {eff:Nat→Bool} {cE:Nat→Nat} {M:World→World→Prop} {on:Nat→Option Tmp} {EP:Nat→aX M} {C:World→Prop} {D:Nat→World→Prop} {Fin:List Oper→Act→World→Prop} {eM:Bool} {m:Nat} {s:Option Tmp} {E:aX M} {o:Oper} {k:Nat} {aR:List (Nat× (World→Prop))} {a:Act} {K:List (Nat× (World→Prop))→Act→Prop} {l:List Oper}
theorem au (h:∀ K:List (Nat× (World->Prop))->Act->Prop,(∀ hi a,er (fS P (Calls P) gz ops eff cE on EP C Fin m l (k+1) hi a)->K hi a)->cN P (Calls P) gz ops (eff k) (cE k) (on k) (EP k) C o k aR a K):er (fS P (Calls P) gz ops eff cE on EP C Fin (m+1) (o::l) k aR a):=
 ⟨(fR.au (D:=(fun _ _=>True)) (al:=fun _=>false) (on:=on) fun K hK=>h K fun hi a hl=>hK hi a ⟨hl.out⟩).out⟩
theorem bM (h:∀ W,C W->(∀ x∈aR,x.2 W)->Fin l a W):er (fS P (Calls P) gz ops eff cE on EP C Fin 0 l k aR a):=⟨h⟩
theorem bV (he:eM=false) (hw:Region.wanted o (yielded ops a.tmps)=true) (h:∃ v,(∀ W: {W//C W},aF P o a v W.1)/\K aR (a.put o.dst v)):cN P (Calls P) gz ops eM m s E C o k aR a K:=fR.bV he hw h
theorem ct (he:eM=true) (hw:Region.wanted o (yielded ops a.tmps)=true) (E':aX M) (hE:E=E') (h1:∀ W,C W->needs m aR W->jD (Calls P) gz (fun v W'=>M W W'/\E'.P v/\E'.H (eQ s a) v W') ((execOp a.eval o).run P W)) (h2:∀ v,E'.P v->K ((k,E'.H (eQ s a) v)::aR) (a.put o.dst v)):cN P (Calls P) gz ops eM m s E C o k aR a K:=
 fR.ct (al:=fun _=>false) he hw E' hE (fun W hW _ hN=>ox (fun _ _ ⟨h1,h2⟩=>⟨⟨h1,fun _ _ _ _=>trivial⟩,h2⟩) (h1 W hW hN)) h2
end
theorem bL {P:Program} {id:Nat} {Q:Exit->Act->World->Prop} {a:Act} {w:World} {l:List Oper} (M:World->World->Prop) (hd:M w w.drew) (Yc:∀ A B C,M A B->M B C->M A C) (hm:P.follows .mixedOrders=true) (m:Nat) (cE:List Nat) (eff:Nat->Bool) (hB:ng .any l.toArray cE m=true) (on:Nat->Option Tmp) (hz:∀ j,l.toArray.size<=j->on j=none) (hO:J8 l.toArray cE on=true) (EP:Nat->aX M) (h:∀ C:World->Prop,(∀ W,C W↔M w W)->Nonempty {W//C W} ->er (fS P (Calls P) gz l.toArray eff (fun i=>cE.getD i 0) on EP C (fun r a W=>wpList P l.toArray Q r a W) m l 0 [] a)):(Code.region id l.toArray true).wp P Q a w:=
 fR.jF M hd Yc hm m cE eff hB on hz hO EP (fun _ _=>True) (fun _ _=>trivial) [] (fun _=>false) rfl (fun _=>rfl) (fun h=>by obtain⟨_,h⟩:=h;cases h) _ (fun _ _ _ _ h=>h) fun C hC hne=>⟨(h C hC hne).out⟩
end Go.Proofs.YtjgccapbphadjaaGreatDoor.RegG
namespace Go.Proofs.YtjgccapbphadjaaGreatDoor
open Go Go.RowKit
section
variable {P:Program} {ops:Array Oper} {eff:Nat→Bool} {cE:Nat→Nat} {M:World→World→Prop} {EP:Nat→aX M} {C:World→Prop} {Fin:List Oper→Act→World→Prop}
def fS (P:Program) (Cl:FuncId->Array Value->World->(Ending->World->Prop)->Prop) (Rd:Nat->FuncId->Array Value->Code->Code->World->(Ending->World->Prop)->Prop) (ops:Array Oper) (eff:Nat->Bool) (cE:Nat->Nat) (EP:Nat->aX M) (C:World->Prop) (Fin:List Oper->Act->World->Prop) (n:Nat) (l:List Oper) (k:Nat) (aR:List (Nat× (World->Prop))) (a:Act):Prop:=
 RegQ.fS P Cl Rd ops eff cE EP C (fun _ _=>True) Fin n l k aR a
def cN (P:Program) (Cl:FuncId->Array Value->World->(Ending->World->Prop)->Prop) (Rd:Nat->FuncId->Array Value->Code->Code->World->(Ending->World->Prop)->Prop) (ops:Array Oper) (eM:Bool) (m:Nat) (E:aX M) (C:World->Prop) (o:Oper) (k:Nat) (aR:List (Nat× (World->Prop))) (a:Act) (K:List (Nat× (World->Prop))->Act->Prop):Prop:=
 RegQ.cN P Cl Rd ops eM m E C (fun _ _=>True) o k aR a K
theorem au {m:Nat} {o:Oper} {rest:List Oper} {k:Nat} {aR:List (Nat× (World->Prop))} {a:Act} (h:∀ K:List (Nat× (World->Prop))->Act->Prop,(∀ hi a,er (fS P (Calls P) gz ops eff cE EP C Fin m rest (k+1) hi a)->K hi a)->cN P (Calls P) gz ops (eff k) (cE k) (EP k) C o k aR a K):er (fS P (Calls P) gz ops eff cE EP C Fin (m+1) (o::rest) k aR a):=
 ⟨(RegQ.au (D:=fun _ _=>True) fun K hK=>h K fun hi a hl=>hK hi a ⟨hl.out⟩).out⟩
theorem bM {l:List Oper} {k:Nat} {aR:List (Nat× (World->Prop))} {a:Act} (h:∀ W,C W->(∀ x∈aR,x.2 W)->Fin l a W):er (fS P (Calls P) gz ops eff cE EP C Fin 0 l k aR a):=⟨h⟩
theorem bV {eM:Bool} {m:Nat} {E:aX M} {o:Oper} {k:Nat} {aR:List (Nat× (World->Prop))} {a:Act} {K:List (Nat× (World->Prop))->Act->Prop} (he:eM=false) (hw:Region.wanted o (yielded ops a.tmps)=true) (h:∃ v,(∀ W: {W//C W},aF P o a v W.1)/\K aR (a.put o.dst v)):cN P (Calls P) gz ops eM m E C o k aR a K:=RegQ.bV he hw h
theorem DU {eM:Bool} {m:Nat} {E:aX M} {o:Oper} {k:Nat} {aR:List (Nat× (World->Prop))} {a:Act} {K:List (Nat× (World->Prop))->Act->Prop} (he:eM=false) (hw:Region.wanted o (yielded ops a.tmps)=true) (v:Value) (h1:∀ W,C W->needs m aR W->aF P o a v W) (h2:K aR (a.put o.dst v)):cN P (Calls P) gz ops eM m E C o k aR a K:=RegQ.DU he hw v h1 h2
theorem ct {eM:Bool} {m:Nat} {E:aX M} {o:Oper} {k:Nat} {aR:List (Nat× (World->Prop))} {a:Act} {K:List (Nat× (World->Prop))->Act->Prop} (he:eM=true) (hw:Region.wanted o (yielded ops a.tmps)=true) (E':aX M) (hE:E=E') (h1:∀ W,C W->needs m aR W->jD (Calls P) gz (fun v W'=>M W W'/\E'.P v/\E'.H v W') ((execOp a.eval o).run P W)) (h2:∀ v,E'.P v->K ((k,E'.H v)::aR) (a.put o.dst v)):cN P (Calls P) gz ops eM m E C o k aR a K:=
 RegQ.ct he hw E' hE (fun W hW _ hN=>ox (fun _ _ ⟨h1,h2⟩=>⟨⟨h1,fun _ _ _ _=>trivial⟩,h2⟩) (h1 W hW hN)) h2
theorem cg {eM:Bool} {m:Nat} {E:aX M} {o:Oper} {k:Nat} {aR:List (Nat× (World->Prop))} {a:Act} {K:List (Nat× (World->Prop))->Act->Prop} (hw:Region.wanted o (yielded ops a.tmps)=false) (h:K aR (a.put o.dst undef)):cN P (Calls P) gz ops eM m E C o k aR a K:=RegQ.cg hw h
end
theorem bL {P:Program} {id:Nat} {Q:Exit->Act->World->Prop} {a:Act} {w:World} {l:List Oper} (M:World->World->Prop) (hd:M w w.drew) (Yc:∀ A B C,M A B->M B C->M A C) (hm:P.follows .mixedOrders=true) (m:Nat) (cE:List Nat) (eff:Nat->Bool) (hB:ng .any l.toArray cE m=true) (EP:Nat->aX M) (h:∀ C:World->Prop,(∀ W,C W↔M w W)->Nonempty {W//C W} ->er (fS P (Calls P) gz l.toArray eff (fun i=>cE.getD i 0) EP C (fun r a W=>wpList P l.toArray Q r a W) m l 0 [] a)):(Code.region id l.toArray true).wp P Q a w:=
 RegQ.bL M hd Yc hm m cE eff hB EP (fun _ _=>True) (fun _ _=>trivial) fun C hC hne=>⟨(h C hC hne).out⟩
theorem aL {P:Program} {id:Nat} {Q:Exit->Act->World->Prop} {a:Act} {w:World} {l:List Oper} (d:Bool) (T:Nat->Prop) (hm:P.follows .mixedOrders=true) (m:Nat) (cE:List Nat) (eff:Nat->Bool) (hB:ng .any l.toArray cE m=true) (EP:Nat->aX (Move d T)) (h:∀ C:World->Prop,(∀ W,C W↔Move d T w W)->Nonempty {W//C W} ->er (fS P (Calls P) gz l.toArray eff (fun i=>cE.getD i 0) EP C (fun r a W=>wpList P l.toArray Q r a W) m l 0 [] a)):(Code.region id l.toArray true).wp P Q a w:=
 bL (Move d T) (Move.ext (Ext.refl w).drew) (fun _ _ _ h k=>h.trans k) hm m cE eff hB EP h
end Go.Proofs.YtjgccapbphadjaaGreatDoor
