/- The law for regions in any order (XReg), at the regions of the calculus: the check as a Bool; steps. -/
import Derived.Test.YtpcmhjbehdgdbaaGreatDoorProg
import Derived.WalkKit
import Derived.OrdersIn
import Derived.RangeFuncNested
import Derived.Lib.Hide
import Derived.Sort.Grow
import Derived.Deep.Draws
import Derived.Deep.MidRow
import Derived.Maps.AppendAt
set_option maxRecDepth 100000
set_option maxHeartbeats 16000000
open Go.Lib (hid)
namespace Go.Proofs.YtpcmhjbehdgdbaaGreatDoor
section
open Go Go.RowKit
abbrev aa (w w':World):Prop:=Below w.heap.size w w'
abbrev ag:=Calls Tryz.prog
theorem ah {α:Sort _} (a:α):∃ n,n=a:=⟨a,rfl⟩
theorem aC {α:Type _} {l:List α} {i:Nat} (h:i<l.length):l[i]? =some l[i]:=List.getElem?_eq_getElem h
theorem aA {α:Type _} {l:List α} {i:Nat} {a:α} (h:l[i]? =some a):a∈l:=List.mem_of_getElem? h
theorem MT {α:Type _} {i:Nat} {a:α} {l:List α} :l[i]? =some a↔ ∃ h:i<l.length,l[i]=a:=List.getElem?_eq_some_iff
theorem aw {n m k:Nat} (a:n<m) (b:m≤k):n<k:=Nat.lt_of_lt_of_le a b
theorem aQ {α:Type _} {a b:List α} :(a++b).length=a.length+b.length:=List.length_append
theorem cq {α:Type _} {l:List α} {i:Nat} {a:α} :l.getD i a=l[i]?.getD a:=List.getD_eq_getElem?_getD
theorem aD (n:Nat):n≤n:=Nat.le_refl n
theorem bH {α:Type _} {β:Type _} {f:α→β} {l:List α} {i:Nat} :(l.map f)[i]? =l[i]?.map f:=List.getElem?_map
theorem bL {α:Type _} {a:α} {l:List α} :a∈a::l:=List.mem_cons_self
theorem bp {α:Type _} {β:Type _} {a:List α} (f:α→β):(a.map f).length=a.length:=List.length_map f
theorem acF {α:Type _} {i:Nat} {b:α} {a:Array α} :a[i]? =some b↔ ∃ h:i<a.size,a[i]=b:=Array.getElem?_eq_some_iff
theorem dD {α:Type _} {l:List α} {i:Nat} (h:l.length≤i):l[i]? =none:=List.getElem?_eq_none h
theorem bJ {α:Type _} {a b:List α} {i:Nat} (h:i<a.length):(a++b)[i]? =a[i]? :=List.getElem?_append_left h
theorem cZ {α:Type _} {a b:List α} {i:Nat} (h:a.length≤i):(a++b)[i]? =b[i-a.length]? :=List.getElem?_append_right h
theorem cd {α:Type _} (y:α) {a:α} {l:List α} (h:a∈l):a∈y::l:=List.mem_cons_of_mem y h
def iQ (F:Fence) (n:Nat) (P:Program) (C:World->Prop) (dst:Option Tmp) (a:Act) (K:Act->World->Prop):Result Next->Prop
 | .ok (.value v) w'=>C w'/\K (a.put dst v) w'
 | .ok .skip w'=>C w'/\K (a.put dst undef) w'
 | .ok (.enter f args) w'=>CallsIn F (n-1) P f args w' (fun e w''=>∃ v,e=.returned v/\C w''/\K (a.put dst v) w'')
 | .ok (.round l f tmps ym body) w'=>RoundIn F (n-1) P l f tmps ym body w' (fun e w''=>∃ v,e=.returned v/\C w''/\K (a.put dst v) w'')
 | _=>False
def aB (P:Program) (o:Oper) (a:Act) (v:Value) (W:World):Prop:=
 (execOp a.eval o).run P W=.ok (.value v) W\/((execOp a.eval o).run P W=.ok .skip W/\v=undef)
def dV (F:Fence) (n:Nat) (P:Program) (C:World→Prop) (ops:Array Oper) (fS:Bool) (o:Oper) (K:Act→World→Prop) (a:Act) (w:World):Prop:=
  if Region.wanted o (yielded ops a.tmps)then
    (if fS then iQ F n P C o.dst a K ((execOp a.eval o).run P w)
     else ∃ v,(∀ W: {W//C W},aB P o a v W.1)∧K (a.put o.dst v) w)
  else K (a.put o.dst undef) w
def jZ (F:Fence) (n:Nat) (P:Program) (C:World->Prop) (ops:Array Oper) (eff:Nat->Bool) (Q:Act->World->Prop):List Oper->Nat->Act->World->Prop
 | [],_,a,w=>Q a w
 | o::rest,k,a,w=>dV F n P C ops (eff k) o (jZ F n P C ops eff Q rest (k+1)) a w
section
variable {F:Fence} {n:Nat} {P:Program} {C:World→Prop} {ops:Array Oper} {eff:Nat→Bool} {md:Region.Mode}
theorem uJ {dst:Option Tmp} {a:Act} {K K':Act->World->Prop} (h:∀ a w,C w->K a w->K' a w) {r:Result Next} (hh:iQ F n P C dst a K r):iQ F n P C dst a K' r:=by
 cases r with
 | halt x w=>exact hh.elim
 | ok x w=>
  cases x<;>simp only[iQ]at hh ⊢ <;>first
   | exact⟨hh.1,h _ _ hh.1 hh.2⟩
   | exact CallsIn.mono hh (fun e w' ⟨v,he,hC,hK⟩=>⟨v,he,hC,h _ _ hC hK⟩)
   | exact RoundIn.mono hh (fun e w' ⟨v,he,hC,hK⟩=>⟨v,he,hC,h _ _ hC hK⟩)
theorem uK {fS:Bool} {o:Oper} {a:Act} {w:World} {K K':Act->World->Prop} (h0:∀ a,K a w->K' a w) (h:∀ a w,C w->K a w->K' a w) (hh:dV F n P C ops fS o K a w):dV F n P C ops fS o K' a w:=by
 unfold dV at*;split
 ·rename_i hw
  simp only[hw,if_true]at hh;cases fS with
  | true=>simp only[if_true]at hh ⊢;exact uJ h hh
  | false=>simp only[Bool.false_eq_true,if_false]at hh ⊢;obtain⟨v,h1,h2⟩:=hh;exact⟨v,h1,h0 _ h2⟩
 ·rename_i hw
  simp only[hw]at hh;exact h0 _ hh
theorem uL (hd:F.depth=none) {dst:Option Tmp} {a:Act} {K:Act->World->Prop} {r:Result Next} (hh:iQ F n P C dst a K r):∃ u w',K (a.put dst u) w':=by
 cases r with
 | halt x w=>exact hh.elim
 | ok x w=>
  cases x<;>simp only[iQ]at hh
  case value v=>exact⟨_,_,hh.2⟩
  case skip=>exact⟨_,_,hh.2⟩
  case enter f args=>
   obtain⟨e,w',fr,⟨v,_,_,hK⟩,_⟩:=hh.2 [] (fun d h=>by rw[hd]at h;cases h);exact⟨_,_,hK⟩
  case round l f tmps ym body=>
   obtain⟨e,w',⟨v,_,_,hK⟩,_⟩:=hh.2 default [] (fun d h=>by rw[hd]at h;cases h);exact⟨_,_,hK⟩
def JB (F:Fence) (n:Nat) (P:Program) (C:World->Prop) (ops:Array Oper) (eff:Nat->Bool) (i:Nat) (K:Act->World->Prop) (a:Act) (w:World):Prop:=
 match ops[i]? with
 | none=>K a w
 | some o=>dV F n P C ops (eff i) o K a w
def rB (F:Fence) (n:Nat) (P:Program) (C:World->Prop) (md:Region.Mode) (ops:Array Oper) (eff:Nat->Bool) (Q:Act->World->Prop):Nat->Array Bool->Act->World->Prop
 | 0,listed,a,w=>Region.ready md ops listed=[]/\Q a w
 | fuel+1,listed,a,w=>
  (Region.ready md ops listed=[]->Q a w)/\
  ∀ i∈Region.ready md ops listed,JB F n P C ops eff i (rB F n P C md ops eff Q fuel (listed.setIfInBounds i true)) a w
def kZ (ops:Array Oper):Bool:=ops.all fun o=>match o.op with | .defer _=>false | _=>true
theorem lg (h:kZ ops=true) {j:Nat} {o:Oper} (ho:ops[j]? =some o) (c:Call):o.op≠ .defer c:=by intro heq;have:=Array.all_eq_true_iff_forall_mem.1 h o (Array.mem_of_getElem? ho);simp[heq]at this
theorem lW (hF:∀ f,F.fn f) (hd:F.depth=none) (Im:kZ ops=true) {Q:Act->World->Prop} {Q':Exit->Act->World->Prop} (hQ:∀ a w,C w->Q a w->Q' .normal a w): ∀ (fuel:Nat) (listed:Array Bool) (a:Act) (w:World),C w->rB F n P C md ops eff Q fuel listed a w->wpAnyIn F n P md ops Q' fuel listed a w
 | 0,_,_,_,hC,h=>⟨h.1,hQ _ _ hC h.2⟩
 | fuel+1,listed,a,w,hC,h=>by
  refine⟨fun h0=>hQ _ _ hC (h.1 h0),fun i hi=>?_⟩;have hx:=h.2 i hi;have ih:=fun a' w' Cg=>lW hF hd Im hQ fuel (listed.setIfInBounds i true) a' w' Cg
  unfold JB at hx;unfold wpOpIn;cases ho:ops[i]? with
  | none=>simp only[ho]at hx;exact ih _ _ hC hx
  | some o=>
   simp only[ho]at hx ⊢;have aeg:Oper.semAt F.round a.eval o=execOp a.eval o:=Oper.semAt_eq _ _ _ (lg Im ho);unfold dV at hx;split
   ·rename_i hw
    simp only[hw,if_true]at hx;refine⟨fun f _=>hF f,?_⟩;rw[aeg];cases he:eff i with
    | false=>
     simp only[he,Bool.false_eq_true,if_false]at hx;obtain⟨v,h1,h2⟩:=hx;rcases h1 ⟨w,hC⟩with hr | ⟨hr,rfl⟩<;>rw[hr]<;>exact ih _ _ hC h2
    | true=>
     simp only[he,if_true]at hx;generalize (execOp a.eval o).run P w=r at hx;cases r with
     | halt x w=>exact hx.elim
     | ok x w=>
      cases x<;>simp only[iQ]at hx<;>simp only[Oper.uponIn]
      case value v=>exact ih _ _ hx.1 hx.2
      case skip=>exact ih _ _ hx.1 hx.2
      case enter f args=>exact⟨fun h=>(by rw[hd]at h;cases h),CallsIn.mono hx (fun e w' ⟨v,he,Cg,hK⟩=>by subst he;exact ih _ _ Cg hK)⟩
      case round l f tmps ym body=>exact⟨fun h=>(by rw[hd]at h;cases h),RoundIn.mono hx (fun e w' ⟨v,he,Cg,hK⟩=>by subst he;exact ih _ _ Cg hK)⟩
   ·rename_i hw
    simp only[hw]at hx;exact⟨fun f _=>hF f,ih _ _ hC hx⟩
def dE (P:Program) (ops:Array Oper) (C:World->Prop) (o:Oper) (v:Value) (a:Act):Prop:=
 (Region.wanted o (yielded ops a.tmps)=true/\∀ W,C W->aB P o a v W)\/(Region.wanted o (yielded ops a.tmps)=false/\v=undef)
theorem mF {o:Oper} (hs:∀ cs b,o.op≠ .select cs b) {a:Act} {dst:Option Tmp} {u v:Value} {W:World} (h:∀ d,dst=some d->d∉o.looksAt ops):aB P o (a.put dst u) v W↔aB P o a v W:=by unfold aB;rw[execOp_put o hs a dst u h]
theorem dE.put {o:Oper} {v:Value} {a:Act} (hs:∀ cs b,o.op≠ .select cs b) {dst:Option Tmp} {u:Value} (h:∀ d,dst=some d->d∉o.looksAt ops):dE P ops C o v (a.put dst u)↔dE P ops C o v a:=by
 unfold dE;rw[wanted_put o a dst u h];constructor
 ·rintro(⟨h1,h2⟩ | h1)
  ·exact .inl ⟨h1,fun W hW=>(mF hs h).1 (h2 W hW)⟩
  ·exact .inr h1
 ·rintro(⟨h1,h2⟩ | h1)
  ·exact .inl ⟨h1,fun W hW=>(mF hs h).2 (h2 W hW)⟩
  ·exact .inr h1
theorem dE.dV {o:Oper} {v:Value} {a:Act} {w:World} {K:Act->World->Prop} (hy:dE P ops C o v a) (h:K (a.put o.dst v) w):dV F n P C ops false o K a w:=by
 unfold Proofs.YtpcmhjbehdgdbaaGreatDoor.dV;rcases hy with⟨hw,hv⟩ | ⟨hw,rfl⟩
 ·simp only[hw,if_true,Bool.false_eq_true,if_false];exact⟨v,fun W=>hv W.1 W.2,h⟩
 ·simp only[hw,Bool.false_eq_true,if_false];exact h
theorem ie {o:Oper} {a:Act} {w:World} {K:Act->World->Prop} (h:dV F n P C ops false o K a w):∃ v,dE P ops C o v a/\K (a.put o.dst v) w:=by
 unfold Proofs.YtpcmhjbehdgdbaaGreatDoor.dV at h;by_cases hw:Region.wanted o (yielded ops a.tmps)=true
 ·simp only[hw,if_true,Bool.false_eq_true,if_false]at h
  obtain⟨v,h1,h2⟩:=h;exact⟨v,.inl ⟨hw,fun W hW=>h1 ⟨W,hW⟩⟩,h2⟩
 ·simp only[hw]at h
  exact⟨undef,.inr ⟨by simpa using hw,rfl⟩,h⟩
theorem JC {dx dj:Option Tmp} {v:Value} {a:Act} (hne:∀ d,dx=some d->dj≠some d) {K:Act->World->Prop} {r:Result Next} (h:iQ F n P C dj (a.put dx v) K r): iQ F n P C dj a (fun a' w'=>(∃ u,a'=a.put dj u)/\K (a'.put dx v) w') r:=by
 cases r with
 | halt x w=>exact h.elim
 | ok x w=>
  cases x<;>simp only[iQ]at h ⊢
  case value u=>exact⟨h.1,⟨u,rfl⟩,by rw[<-Act.put_comm a v u hne];exact h.2⟩
  case skip=>exact⟨h.1,⟨_,rfl⟩,by rw[<-Act.put_comm a v undef hne];exact h.2⟩
  case enter f args=>exact CallsIn.mono h (fun e w' ⟨u,he,hC,hK⟩=>⟨u,he,hC,⟨u,rfl⟩,by rw[<-Act.put_comm a v u hne];exact hK⟩)
  case round l f tmps ym body=>exact RoundIn.mono h (fun e w' ⟨u,he,hC,hK⟩=>⟨u,he,hC,⟨u,rfl⟩,by rw[<-Act.put_comm a v u hne];exact hK⟩)
theorem JD {fS:Bool} {oi oj:Oper} {v:Value} (hap:oi.apart ops oj=true) (hsi:∀ cs b,oi.op≠ .select cs b) (hsj:∀ cs b,oj.op≠ .select cs b) {K:Act->World->Prop} {a:Act} {w:World} (hy:dE P ops C oi v a) (h:dV F n P C ops fS oj K (a.put oi.dst v) w): dV F n P C ops fS oj (fun a' w'=>dE P ops C oi v a'/\K (a'.put oi.dst v) w') a w:=by
 obtain⟨h1,h2,h3⟩:=Oper.apart_spec hap;have keep:∀ u,dE P ops C oi v (a.put oj.dst u):=fun u=>(dE.put hsi h3).2 hy
 unfold Proofs.YtpcmhjbehdgdbaaGreatDoor.dV at*;rw[wanted_put oj a oi.dst v h1,execOp_put oj hsj a oi.dst v h1]at h;split
 ·rename_i hw
  simp only[hw,if_true]at h;cases fS with
  | true=>
   simp only[if_true]at h ⊢;exact uJ (fun a' w' _ ⟨⟨u,hu⟩,hK⟩=>⟨by rw[hu];exact keep u,hK⟩) (JC h2 h)
  | false=>
   simp only[Bool.false_eq_true,if_false]at h ⊢;obtain⟨u,hu,hK⟩:=h;exact⟨u,fun W=>(mF hsj h1).1 (hu W),keep u,by rw[<-Act.put_comm a v u h2];exact hK⟩
 ·rename_i hw
  simp only[hw]at h;exact⟨keep _,by rw[<-Act.put_comm a v undef h2];exact h⟩
theorem lX {i j:Nat} {listed:Array Bool} (hr:i∈Region.ready md ops listed) (hj:j∈Region.ready md ops listed) {oj:Oper} (xy:ops[j]? =some oj):∀ e∈oj.after,Region.binds md e=true->e.on≠i:=fun e he hb heq=>by
 obtain⟨_,oj',uM,hall⟩:=mem_ready.1 hj;rw[xy]at uM;cases uM;have h1:=hall e he hb;have h0:=(mem_ready.1 hr).1;rw[heq]at h1;rcases Nat.lt_or_ge i listed.size with h' | h'
 ·simp[h']at h0 h1;rw[h0]at h1;cases h1
 ·simp[Array.getElem?_eq_none h']at h1
theorem Fy {Q:Act->World->Prop} {i:Nat} {oi:Oper} {v:Value} (hi:ops[i]? =some oi) (Yy:eff i=false) (MU:∀ (j:Nat) (o:Oper) cs b,ops[j]? =some o->o.op≠ .select cs b): ∀ (fuel:Nat) (listed:Array Bool) (a:Act) (w:World), (∀ j oj,ops[j]? =some oj->j≠i->listed.getD j true=false->(∀ e∈oj.after,Region.binds md e=true->e.on≠i)->oi.apart ops oj=true)-> i∈Region.ready md ops listed->dE P ops C oi v a-> rB F n P C md ops eff Q fuel (listed.setIfInBounds i true) (a.put oi.dst v) w->rB F n P C md ops eff Q (fuel+1) listed a w:=by
 intro fuel;induction fuel with
 | zero=>
  intro listed a w _ hr hy H;refine⟨fun h=>(by rw[h]at hr;cases hr),fun j hj=>?_⟩;by_cases lY:j=i
  ·subst lY;unfold JB;simp only[hi,Yy];exact hy.dV H
  ·have:=ready_mono hj lY
   rw[H.1]at this;cases this
 | succ fuel ih=>
  intro listed a w yn hr hy H;refine⟨fun h=>(by rw[h]at hr;cases hr),fun j hj=>?_⟩;by_cases lY:j=i
  ·subst lY;unfold JB;simp only[hi,Yy];exact hy.dV H
  ·have h1:=H.2 j (ready_mono hj lY)
   obtain⟨JE,oj,xy,hall⟩:=mem_ready.1 hj;have Fz:=lX hr hj xy
   have Vo:∀ k ok,ops[k]? =some ok->k≠i->(listed.setIfInBounds j true).getD k true=false->
     (∀ e∈ok.after,Region.binds md e=true->e.on≠i)->oi.apart ops ok=true:=fun k ok hk eT Rc hno=>by
    refine yn k ok hk eT ?_ hno;by_cases hjk:j=k
    ·subst hjk;exact JE
    ·rw[getD_set_ne true hjk]at Rc;exact Rc
   unfold JB at h1 ⊢;simp only[xy]at h1 ⊢;have h2:=JD (yn j oj xy lY JE Fz) (fun cs b=>MU i oi cs b hi) (fun cs b=>MU j oj cs b xy) hy h1;have step:∀ a' w',(dE P ops C oi v a'/\rB F n P C md ops eff Q fuel ((listed.setIfInBounds i true).setIfInBounds j true) (a'.put oi.dst v) w')->rB F n P C md ops eff Q (fuel+1) (listed.setIfInBounds j true) a' w':=fun a' w' h3=>by
    refine ih (listed.setIfInBounds j true) a' w' Vo (ready_mono hr (Ne.symm lY)) h3.1 ?_;rw[Array.setIfInBounds_comm _ _ lY];exact h3.2
   exact uK (fun a' h3=>step a' _ h3) (fun a' w' _ h3=>step a' w' h3) h2
theorem Ch (hd:F.depth=none) {Q:Act->World->Prop} {i:Nat} {oi:Oper} (hi:ops[i]? =some oi) (Yy:eff i=true) (MU:∀ (j:Nat) (o:Oper) cs b,ops[j]? =some o->o.op≠ .select cs b): ∀ (fuel:Nat) (listed:Array Bool) (a:Act) (w:World),C w-> (∀ j oj,ops[j]? =some oj->j≠i->listed.getD j true=false->(∀ e∈oj.after,Region.binds md e=true->e.on≠i)->oi.apart ops oj=true)-> (∀ j oj,ops[j]? =some oj->j≠i->eff j=true->listed.getD j true=false->∃ e∈oj.after,Region.binds md e=true/\eff e.on=true/\listed.getD e.on false=false)-> i∈Region.ready md ops listed->JB F n P C ops eff i (rB F n P C md ops eff Q fuel (listed.setIfInBounds i true)) a w-> rB F n P C md ops eff Q (fuel+1) listed a w:=by
 intro fuel;induction fuel with
 | zero=>
  intro listed a w hC yn MX hr H;refine⟨fun h=>(by rw[h]at hr;cases hr),fun j hj=>?_⟩;by_cases lY:j=i
  ·subst lY;exact H
  ·exfalso
   have hne:=ready_mono hj lY;unfold JB at H;simp only[hi]at H;unfold Proofs.YtpcmhjbehdgdbaaGreatDoor.dV at H;by_cases hw:Region.wanted oi (yielded ops a.tmps)=true
   ·simp only[hw,if_true,Yy]at H
    obtain⟨u,w',hK⟩:=uL hd H;rw[hK.1]at hne;cases hne
   ·rw[if_neg hw]at H;rw[H.1]at hne;cases hne
 | succ fuel ih=>
  intro listed a w hC yn MX hr H;refine⟨fun h=>(by rw[h]at hr;cases hr),fun j hj=>?_⟩;by_cases lY:j=i
  ·subst lY;exact H
  ·obtain⟨JE,oj,xy,hall⟩:=mem_ready.1 hj
   have Fz:=lX hr hj xy;have uN:eff j=false:=by
    cases h:eff j with
    | false=>rfl
    | true=>
     obtain⟨e,he,hb,_,hl⟩:=MX j oj xy lY h JE;rw[hall e he hb]at hl;cases hl
   have hap:=yn j oj xy lY JE Fz;obtain⟨h1,h2,h3⟩:=Oper.apart_spec hap;have hsi:=fun cs b=>MU i oi cs b hi
   have hsj:=fun cs b=>MU j oj cs b xy
   have h2':∀ d,oj.dst=some d->oi.dst≠some d:=fun d hd he=>h2 d he hd
   -- what the float yields, and what is left behind both
   have key:∃ v,dE P ops C oj v a/\JB F n P C ops eff i (rB F n P C md ops eff Q fuel ((listed.setIfInBounds j true).setIfInBounds i true)) (a.put oj.dst v) w:=by
    unfold JB at H ⊢;simp only[hi]at H ⊢;unfold Proofs.YtpcmhjbehdgdbaaGreatDoor.dV at H ⊢;by_cases hw:Region.wanted oi (yielded ops a.tmps)=true
    ·simp only[hw,if_true,Yy]at H
     have inner:∀ u w',rB F n P C md ops eff Q (fuel+1) (listed.setIfInBounds i true) (a.put oi.dst u) w'->∃ v,dE P ops C oj v a/\rB F n P C md ops eff Q fuel ((listed.setIfInBounds j true).setIfInBounds i true) ((a.put oj.dst v).put oi.dst u) w':=fun u w' h=>by
      have hx:=h.2 j (ready_mono hj lY);unfold JB at hx;simp only[xy,uN]at hx;obtain⟨v,hy,hK⟩:=ie hx;refine⟨v,(dE.put hsj h1).1 hy,?_⟩;rw[Array.setIfInBounds_comm _ _ lY,Act.put_comm a v u h2'];exact hK
     obtain⟨u0,w0,h0⟩:=uL hd H;obtain⟨v,hy,_⟩:=inner u0 w0 h0;refine⟨v,hy,?_⟩;rw[wanted_put oi a oj.dst v h3,execOp_put oi hsi a oj.dst v h3];simp only[hw,if_true,Yy];have uniq:∀ v',dE P ops C oj v' a->v'=v:=fun v' hy'=>by
      rcases hy with⟨g1,g2⟩ | ⟨g1,g2⟩<;>rcases hy' with⟨k1,k2⟩ | ⟨k1,k2⟩
      ·have a1:=g2 w hC
       have a2:=k2 w hC;unfold aB at a1 a2;rcases a1 with a1 | ⟨a1,b1⟩<;>rcases a2 with a2 | ⟨a2,b2⟩<;>rw[a1]at a2<;>cases a2<;>simp_all
      ·rw[g1]at k1;cases k1
      ·rw[g1]at k1;cases k1
      ·rw[g2,k2]
     generalize (execOp a.eval oi).run P w=r at H ⊢;cases r with
     | halt x w=>exact H.elim
     | ok x w=>
      cases x<;>simp only[iQ]at H ⊢
      case value u=>
       obtain⟨v',hy',hK⟩:=inner _ _ H.2;rw[uniq v' hy']at hK;exact⟨H.1,hK⟩
      case skip=>
       obtain⟨v',hy',hK⟩:=inner _ _ H.2;rw[uniq v' hy']at hK;exact⟨H.1,hK⟩
      case enter f args=>
       exact CallsIn.mono H (fun e w' ⟨u,he,Cg,h⟩=>by
        obtain⟨v',hy',hK⟩:=inner _ _ h;rw[uniq v' hy']at hK
        exact⟨u,he,Cg,hK⟩)
      case round l f tmps ym body=>
       exact RoundIn.mono H (fun e w' ⟨u,he,Cg,h⟩=>by
        obtain⟨v',hy',hK⟩:=inner _ _ h;rw[uniq v' hy']at hK
        exact⟨u,he,Cg,hK⟩)
    ·simp only[hw]at H
     have hx:=H.2 j (ready_mono hj lY);unfold JB at hx;simp only[xy,uN]at hx;obtain⟨v,hy,hK⟩:=ie hx;refine⟨v,(dE.put hsj h1).1 hy,?_⟩;rw[wanted_put oi a oj.dst v h3];simp only[hw];rw[Array.setIfInBounds_comm _ _ lY];have:=Act.put_comm a v undef h2';simpa[this]using hK
   obtain⟨v,hy,hK⟩:=key;unfold JB;simp only[xy,uN];refine hy.dV (ih (listed.setIfInBounds j true) _ w hC ?_ ?_ (ready_mono hr (Ne.symm lY)) hK)
   ·intro k ok hk eT Rc hno
    refine yn k ok hk eT ?_ hno;by_cases hjk:j=k
    ·subst hjk;exact JE
    ·rw[getD_set_ne true hjk]at Rc;exact Rc
   ·intro k ok hk eT JF Rc
    have hjk:j≠k:=fun h=>by subst h;rw[uN]at JF;cases JF
    rw[getD_set_ne true hjk]at Rc;obtain⟨e,he,hb,hee,hl⟩:=MX k ok hk eT JF Rc;have hje:j≠e.on:=fun h=>by rw[<-h]at hee;rw[uN]at hee;cases hee
    exact⟨e,he,hb,hee,by rw[getD_set_ne false hje];exact hl⟩
def qi (md:Region.Mode) (ops:Array Oper) (eff:Nat->Bool) (listed:Array Bool) (i:Nat):Bool:=
 (List.range ops.size).all fun j=>j==i || !eff j || listed.getD j true || match ops[j]? with
  | some oj=>oj.after.any (fun e=>Region.binds md e&&eff e.on&& !listed.getD e.on false)
  | none=>true
theorem xz {i:Nat} {listed:Array Bool} (h:qi md ops eff listed i=true) (j:Nat) (oj:Oper) (hj:ops[j]? =some oj) (hne:j≠i) (uN:eff j=true) (Rc:listed.getD j true=false): ∃ e∈oj.after,Region.binds md e=true/\eff e.on=true/\listed.getD e.on false=false:=by simp only[qi,List.all_eq_true,List.mem_range]at h;have h1:=h j (Array.getElem?_eq_some_iff.1 hj).1;simp only[hj,Bool.or_eq_true,beq_iff_eq,hne,false_or,Rc,Bool.false_eq_true,uN,Bool.not_true]at h1;obtain⟨e,he,hb⟩:=Array.any_eq_true'.1 h1;simp only[Bool.and_eq_true,Bool.not_eq_true']at hb;exact⟨e,he,hb.1.1,hb.1.2,hb.2⟩
def mG (md:Region.Mode) (ops:Array Oper) (eff:Nat->Bool):Nat->Nat->Array Bool->Bool
 | 0,_,listed=>(Region.ready md ops listed).isEmpty
 | fuel+1,k,listed=>(Region.ready md ops listed).contains k&&Region.free md ops listed k&&(!eff k || qi md ops eff listed k)&&mG md ops eff fuel (k+1) (listed.setIfInBounds k true)
def MZ (md:Region.Mode) (ops:Array Oper) (eff:Nat->Bool):Bool:=Region.noSelect ops&&kZ ops&&mG md ops eff ops.size 0 (Array.replicate ops.size false)
theorem Ci (hd:F.depth=none) {Q:Act->World->Prop} (hs:Region.noSelect ops=true):∀ (l:List Oper) (k:Nat) (listed:Array Bool) (a:Act) (w:World),C w->(∀ j,l[j]? =ops[k+j]?)-> mG md ops eff l.length k listed=true->jZ F n P C ops eff Q l k a w->rB F n P C md ops eff Q l.length listed a w
 | [],_,_,_,_,_,_,hB,h=>⟨by simpa[mG]using hB,h⟩
 | o::l,k,listed,a,w,hC,hl,hB,h=>by
  have h0:ops[k]? =some o:=by simpa using(hl 0).symm
  simp only[List.length_cons,mG,Bool.and_eq_true,Bool.or_eq_true,Bool.not_eq_true']at hB;obtain⟨⟨⟨hr,hf⟩,he⟩,hB'⟩:=hB;have Rz:k∈Region.ready md ops listed:=by simpa using hr
  have ih:∀ a' w',C w'->jZ F n P C ops eff Q l (k+1) a' w'->rB F n P C md ops eff Q l.length (listed.setIfInBounds k true) a' w':=fun a' w' Cg h'=>
   Ci hd hs l (k+1) _ a' w' Cg (fun j=>by have:=hl (j+1);simpa[Nat.add_assoc,Nat.add_comm 1 j]using this) hB' h'
  unfold jZ at h;cases JF:eff k with
  | false=>
   rw[JF]at h;obtain⟨v,hy,hK⟩:=ie h;exact Fy h0 JF (Region.noSelect_spec hs) l.length listed a w (Region.free_spec h0 hf) Rz hy (ih _ _ hC hK)
  | true=>
   have he':qi md ops eff listed k=true:=he.resolve_left (by rw[JF];decide);refine Ch hd h0 JF (Region.noSelect_spec hs) l.length listed a w hC (Region.free_spec h0 hf) (xz he') Rz ?_;unfold JB;simp only[h0];exact uK (fun a' h'=>ih a' w hC h') (fun a' w' Cg h'=>ih a' w' Cg h') h
theorem lZ (hF:∀ f,F.fn f) (hd:F.depth=none) {id:Nat} {Q:Exit->Act->World->Prop} {a:Act} {w:World} {l:List Oper} (hm:P.follows .mixedOrders=true) (eff:Nat->Bool) (hB:MZ .any l.toArray eff=true) (C:World->Prop) (hC:C w.drew) (h:jZ F n P C l.toArray eff (fun a' w'=>Q .normal a' w') l 0 a w.drew):(Code.region id l.toArray true).wpIn F n P Q a w:=by simp only[MZ,Bool.and_eq_true]at hB;refine wpIn_region_any hm (lW (eff:=eff) hF hd hB.1.2 (Q:=fun a' w'=>Q .normal a' w') (fun _ _ _ h=>h) _ _ _ _ hC ?_);have:=Ci (md:=.any) (F:=F) (n:=n) (P:=P) hd hB.1.1 l 0 (Array.replicate l.length false) a w.drew hC (by simp) (by simpa using hB.2) h;simpa using this
theorem bR {eff:Nat->Bool} {Q:Act->World->Prop} {o:Oper} {rest:List Oper} {k:Nat} {a:Act} {w:World} (h:∀ K:Act->World->Prop,(∀ a w,jZ F n P C ops eff Q rest (k+1) a w->K a w)->dV F n P C ops (eff k) o K a w):jZ F n P C ops eff Q (o::rest) k a w:=h _ (fun _ _ h=>h)
theorem rC {eff:Nat->Bool} {Q:Act->World->Prop} {k:Nat} {a:Act} {w:World} (h:Q a w):jZ F n P C ops eff Q [] k a w:=h
theorem dI {o:Oper} {K:Act->World->Prop} {a:Act} {w:World} (hw:Region.wanted o (yielded ops a.tmps)=true) (h:∃ v,(∀ W: {W//C W},aB P o a v W.1)/\K (a.put o.dst v) w):dV F n P C ops false o K a w:=by unfold dV;simp only[hw,if_true,Bool.false_eq_true,if_false];exact h
theorem eM {o:Oper} {K:Act->World->Prop} {a:Act} {w:World} (hw:Region.wanted o (yielded ops a.tmps)=true) (h:iQ F n P C o.dst a K ((execOp a.eval o).run P w)):dV F n P C ops true o K a w:=by unfold dV;simp only[hw,if_true];exact h
theorem fe {dst:Option Tmp} {a:Act} {K:Act->World->Prop} {f:FuncId} {args:Array Value} {w:World} (h:Calls P f args w fun e w''=>∃ v,e=.returned v/\C w''/\K (a.put dst v) w''):iQ Fence.wide 0 P C dst a K (.ok (.enter f args) w):=callsIn_wide.2 h
theorem Cj {l:Nat} {dst:Option Tmp} {a:Act} {K:Act->World->Prop} {f:FuncId} {args:Array Value} {w:World} (h:Calls P f args w fun e w''=>∃ v,e=.returned v/\C w''/\K (a.put dst v) w''):iQ (Fence.wide.inRound l) 0 P C dst a K (.ok (.enter f args) w):=(callsIn_wide (n:=0)).2 h
theorem xA {id:Nat} {Q:Exit->Act->World->Prop} {a:Act} {w:World} {l:List Oper} (hm:P.follows .mixedOrders=true) (eff:Nat->Bool) (hB:MZ .any l.toArray eff=true) (C:World->Prop) (hC:C w.drew) (h:jZ Fence.wide 0 P C l.toArray eff (fun a' w'=>Q .normal a' w') l 0 a w.drew):(Code.region id l.toArray true).wp P Q a w:=
 wpIn_wide.1 (lZ (n:=0) (fun _=>trivial) rfl hm eff hB C hC h)
end
end
section
open Go Go.RowKit
structure ae (R:Nat->Prop) (W W':World):Prop where
 os:W'.os=W.os
 tape:W'.tape=W.tape
 output:W'.output=W.output
 size:W.heap.size<=W'.heap.size
 keep:∀ k,R k->W'.heap[k]? =W.heap[k]?
structure Ext (W W':World):Prop where
 os:W'.os=W.os
 tape:W'.tape=W.tape
 output:W'.output=W.output
 drawn:W.drawn<=W'.drawn
 size:W.heap.size<=W'.heap.size
 keep:∀ k,k<W.heap.size->W'.heap[k]? =W.heap[k]?
theorem ae.refl (R:Nat->Prop) (W:World):ae R W W:=⟨rfl,rfl,rfl,aD _,fun _ _=>rfl⟩
theorem ae.mono {R R':Nat->Prop} {W W':World} (h:ae R W W') (hr:∀ k,R' k->R k):ae R' W W':=⟨h.os,h.tape,h.output,h.size,fun k hk=>h.keep k (hr k hk)⟩
theorem Ext.mono {R':Nat->Prop} {W W':World} (h:Ext W W') (hr:∀ k,R' k->k<W.heap.size):ae R' W W':=⟨h.os,h.tape,h.output,h.size,fun k hk=>h.keep k (hr k hk)⟩
theorem Ext.keeps {W W':World} (h:Ext W W'):ae (· <W.heap.size) W W':=h.mono fun _ h=>h
theorem Ext.below {W W':World} (h:Ext W W'):aa W W':=⟨h.os,h.tape,h.output,h.size,h.keep⟩
theorem ae.trans {R R':Nat->Prop} {A B C:World} (h:ae R A B) (k:ae R' B C) (hr:∀ k,R k->R' k):ae R A C:=
 ⟨k.os.trans h.os,k.tape.trans h.tape,k.output.trans h.output,Nat.le_trans h.size k.size,fun i hi=>(k.keep i (hr i hi)).trans (h.keep i hi)⟩
theorem ae.tr {R:Nat->Prop} {A B C:World} (h:ae R A B) (k:ae R B C):ae R A C:=h.trans k fun _ h=>h
theorem ae.drew {R:Nat->Prop} {A B:World} (h:ae R A B):ae R A B.drew:=⟨h.os,h.tape,h.output,h.size,h.keep⟩
theorem ae.drewN {R:Nat->Prop} {A B:World} (h:ae R A B) (n:Nat):ae R A (B.drewN n):=⟨h.os,h.tape,h.output,h.size,h.keep⟩
theorem ae.below {B:Nat} {W W':World} (h:ae (· <B) W W'):Below B W W':=⟨h.os,h.tape,h.output,h.size,h.keep⟩
theorem ae.ai {B:Nat} {W W':World} (h:Below B W W') {R:Nat->Prop} (hr:∀ k,R k->k<B):ae R W W':=⟨h.os,h.tape,h.output,h.size,fun k hk=>h.block k (hr k hk)⟩
theorem ae.bA {row:Option Nat} {W W':World} (h:W.grownBy W' row) {R:Nat->Prop} (hr:∀ k,R k->k<W.heap.size/\some k≠row):ae R W W':=⟨h.os,h.tape,h.output,h.size,fun k hk=>h.block k (hr k hk).1 (hr k hk).2⟩
theorem ae.alloc {R:Nat->Prop} {A B:World} (h:ae R A B) (hr:∀ k,R k->k<B.heap.size) (o:Obj):ae R A (B.alloc o):=
 ⟨h.os,h.tape,h.output,Nat.le_trans h.size (by simp),fun k hk=>(Below.heap_alloc _ _ _ (hr k hk)).trans (h.keep k hk)⟩
theorem ae.setCell {R:Nat->Prop} {A B:World} (h:ae R A B) {p:Addr} (hp:¬R p.block) (u:Value):ae R A (B.setCell p u):=
 ⟨h.os,h.tape,h.output,Nat.le_trans h.size (by simp[World.setCell]),fun k hk=>(Below.heap_setCell _ _ _ _ (fun e=>hp (e▸hk))).trans (h.keep k hk)⟩
theorem ae.putObj {R:Nat->Prop} {A B:World} (h:ae R A B) {l:Nat} (hl:¬R l) (o:Obj):ae R A (B.putObj l o):=
 ⟨h.os,h.tape,h.output,Nat.le_trans h.size (by simp),fun k hk=>(World.putObj_heap_other (by rintro rfl;exact hl hk)).trans (h.keep k hk)⟩
theorem ae.cell {R:Nat->Prop} {W W':World} (h:ae R W W') {p:Addr} (hp:R p.block):W'.cell? p=W.cell? p:=World.cell?_of_block (w:=W) (h.keep p.block hp)
theorem ae.frozen {R:Nat->Prop} {W W':World} (h:ae R W W') {p:Addr} (hp:R p.block):W'.frozen? p=W.frozen? p:=World.frozen?_of_block (w:=W) (h.keep p.block hp)
theorem Ext.cell {W W':World} (h:Ext W W') {p:Addr} (hp:p.block<W.heap.size):W'.cell? p=W.cell? p:=World.cell?_of_block (w:=W) (h.keep p.block hp)
theorem Ext.frozen {W W':World} (h:Ext W W') {p:Addr} (hp:p.block<W.heap.size):W'.frozen? p=W.frozen? p:=World.frozen?_of_block (w:=W) (h.keep p.block hp)
theorem Ext.trans {A B C:World} (h:Ext A B) (k:Ext B C):Ext A C:=
 ⟨k.os.trans h.os,k.tape.trans h.tape,k.output.trans h.output,Nat.le_trans h.drawn k.drawn,Nat.le_trans h.size k.size,fun i hi=>(k.keep i (aw hi h.size)).trans (h.keep i hi)⟩
theorem Ext.cells {A B:World} (h:Ext A B):(∀ b o,b<A.heap.size->B.cell? ⟨b,o,none⟩=A.cell? ⟨b,o,none⟩)/\(∀ b o,b<A.heap.size->B.frozen? ⟨b,o,none⟩=A.frozen? ⟨b,o,none⟩):=
 ⟨fun b o hb=>h.cell (p:=⟨b,o,none⟩) hb,fun b o hb=>h.frozen (p:=⟨b,o,none⟩) hb⟩
theorem Ext.alloc {A B:World} (h:Ext A B) (o:Obj):Ext A (B.alloc o):=
 ⟨h.os,h.tape,h.output,h.drawn,Nat.le_trans h.size (by simp),fun k hk=>(Below.heap_alloc _ _ _ (aw hk h.size)).trans (h.keep k hk)⟩
theorem Ext.drew {A B:World} (h:Ext A B):Ext A B.drew:=⟨h.os,h.tape,h.output,Nat.le_succ_of_le h.drawn,h.size,h.keep⟩
theorem Ext.setCell {A B:World} (h:Ext A B) {p:Addr} (hp:A.heap.size<=p.block) (u:Value):Ext A (B.setCell p u):=
 ⟨h.os,h.tape,h.output,h.drawn,Nat.le_trans h.size (by simp[World.setCell]),fun k hk=>(Below.heap_setCell _ _ _ _ (by omega)).trans (h.keep k hk)⟩
theorem Ext.putObj {A B:World} (h:Ext A B) {l:Nat} (hl:A.heap.size<=l) (o:Obj):Ext A (B.putObj l o):=
 ⟨h.os,h.tape,h.output,h.drawn,Nat.le_trans h.size (by simp),fun k hk=>(World.putObj_heap_other (by omega)).trans (h.keep k hk)⟩
theorem Ext.refl (A:World):Ext A A:=⟨rfl,rfl,rfl,aD _,aD _,fun _ _=>rfl⟩
theorem Ext.grow {W W':World} (h:Ext W W'):∃ q os,W'=Sort.grow (W.drewN q) os:=by
 refine⟨W'.drawn-W.drawn,W'.heap.extract W.heap.size W'.heap.size,?_⟩;have hh:W'.heap=W.heap++W'.heap.extract W.heap.size W'.heap.size:=by
  apply Array.ext_getElem?;intro k;rw[Array.getElem?_append];split
  ·exact h.keep k ‹_›
  ·rw[Array.getElem?_extract]
   have hs:=h.size;split
   ·congr 1;omega
   ·rw[Array.getElem?_eq_none];omega
 have h1:=h.os;have h2:=h.tape;have h3:=h.output;have h4:=h.drawn;have h5:W.drawn+(W'.drawn-W.drawn)=W'.drawn:=by omega
 cases W with
 | mk a b c d e=>
 cases W' with
 | mk a' b' c' d' e'=>
  simp only[Sort.grow,World.drewN]at*;subst h1 h2 h3;rw[h5, <-hh]
theorem ae.step {S:Nat->Prop} {A B C:World} (h:ae S A B) (hS:∀ k,S k->k<A.heap.size) (hx:Ext B C):ae S A C:=h.tr (hx.mono fun k hk=>aw (hS k hk) h.size)
theorem ae.eI {S:Nat->Prop} {A B C:World} (h:ae S A B) (hS:∀ k,S k->k<A.heap.size) (hx:aa B C):ae S A C:=h.tr (ae.ai hx fun k hk=>aw (hS k hk) h.size)
def aq (w:World) (b:Nat) (c:Array Value) (t:TypeId):Prop:=w.heap[b]? =some (.cells c t (0,0))
theorem aq.cell {w:World} {b:Nat} {c:Array Value} {t:TypeId} (h:aq w b c t) (k:Nat):w.cell? ⟨b,k,none⟩=c[k]? :=by unfold aq at h;simp[World.cell?,h]
theorem aq.frozen {w:World} {b:Nat} {c:Array Value} {t:TypeId} (h:aq w b c t) (k:Nat):w.frozen? ⟨b,k,none⟩=false:=by unfold aq at h;simp[World.frozen?,h]
theorem aq.lt {w:World} {b:Nat} {c:Array Value} {t:TypeId} (h:aq w b c t):b<w.heap.size:=(Array.getElem?_eq_some_iff.1 h).1
theorem aq.keeps {w w':World} {b:Nat} {c:Array Value} {t:TypeId} (h:aq w b c t) {R:Nat->Prop} (hk:ae R w w') (hb:R b):aq w' b c t:=(hk.keep b hb).trans h
theorem aq.ext {w w':World} {b:Nat} {c:Array Value} {t:TypeId} (h:aq w b c t) (hk:Ext w w'):aq w' b c t:=(hk.keep b h.lt).trans h
theorem aq.below {w w':World} {b n:Nat} {c:Array Value} {t:TypeId} (h:aq w b c t) (hk:Below n w w') (hb:b<n):aq w' b c t:=(hk.block b hb).trans h
theorem aq.grown {w w':World} {b:Nat} {c:Array Value} {t:TypeId} {row:Option Nat} (h:aq w b c t) (hg:w.grownBy w' row) (hb:some b≠row):aq w' b c t:=(hg.block b h.lt hb).trans h
theorem aq.same {w w':World} {b:Nat} {c:Array Value} {t:TypeId} (h:aq w b c t) (hk:w'.heap[b]? =w.heap[b]?):aq w' b c t:=hk.trans h
theorem aq.alloc {w:World} {b:Nat} {c:Array Value} {t:TypeId} (h:aq w b c t) (o:Obj):aq (w.alloc o) b c t:=h.ext ((Ext.refl w).alloc o)
theorem aq.new (w:World) (c:Array Value) (t:TypeId):aq (w.alloc (.cells c t (0,0))) w.heap.size c t:=World.alloc_heap_new w _
theorem aq.at {w:World} {b b':Nat} {c:Array Value} {t:TypeId} (h:aq w b c t) (e:b=b'):aq w b' c t:=e▸h
theorem aq.set {w:World} {b:Nat} {c:Array Value} {t:TypeId} (h:aq w b c t) (k:Nat) (v:Value):aq (w.setCell ⟨b,k,none⟩ v) b (c.setIfInBounds k v) t:=by unfold aq at*;simp[World.setCell,Array.getElem?_modify,h]
theorem aq.other {w:World} {b:Nat} {c:Array Value} {t:TypeId} (h:aq w b c t) {p:Addr} (hp:p.block≠b) (v:Value):aq (w.setCell p v) b c t:=h.same (Below.heap_setCell _ _ _ _ (Ne.symm hp))
theorem aq.put {w:World} {b:Nat} {c:Array Value} {t:TypeId} (h:aq w b c t) {l:Nat} (hl:l≠b) (o:Obj):aq (w.putObj l o) b c t:=h.same (World.putObj_heap_other (Ne.symm hl))
theorem bQ {w:World} {b:Nat} {c:Array Value} {t:TypeId} (h:aq w b c t):∀ j u,c.toList[j]? =some u->w.cell? ((⟨b,0,none⟩:Addr).add j)=some u:=fun j u hu=>by
 have Vp:(⟨b,0,none⟩:Addr).add j=⟨b,j,none⟩:=by unfold Addr.add;split<;>simp_all
 rw[Vp,h.cell j];simpa using hu
theorem cell_far (w:World) (p a:Addr) (v:Value) (h:p.block≠a.block):(w.setCell p v).cell? a=w.cell? a:=World.cell?_setCell_other _ _ _ _ (fun e=>h (congrArg Addr.block e))
theorem gI {P:Program} {id:Nat} {Q:Exit->Act->World->Prop} {a:Act} {w:World} {l:List Oper} (S:Nat->Prop) (hm:P.follows .mixedOrders=true) (eff:Nat->Bool) (hB:MZ .any l.toArray eff=true) (h:∀ C:World->Prop,(∀ W,C W↔ae S w W)->Nonempty {W//C W} ->∀ w',ae S w w'->(∀ b:Nat,w'.heap[b]? =w.heap[b]?)->w'.heap.size=w.heap.size->Ext w w'->jZ Fence.wide 0 P C l.toArray eff (fun a' w'=>Q .normal a' w') l 0 a w'):(Code.region id l.toArray true).wp P Q a w:=
 have hk:ae S w w.drew:=(ae.refl S w).drew
 xA hm eff hB (ae S w) hk (h _ (fun _=>Iff.rfl) ⟨⟨_,hk⟩⟩ _ hk (fun _=>rfl) rfl (Ext.refl w).drew)
theorem rD {F:Fence} (hF:∀ f,F.fn f) (hd:F.depth=none) {P:Program} {id:Nat} {Q:Exit->Act->World->Prop} {a:Act} {w:World} {l:List Oper} (S:Nat->Prop) (hm:P.follows .mixedOrders=true) (eff:Nat->Bool) (hB:MZ .any l.toArray eff=true) (h:∀ C:World->Prop,(∀ W,C W↔ae S w W)->Nonempty {W//C W} ->∀ w',ae S w w'->(∀ b:Nat,w'.heap[b]? =w.heap[b]?)->w'.heap.size=w.heap.size->Ext w w'->jZ F 0 P C l.toArray eff (fun a' w'=>Q .normal a' w') l 0 a w'):(Code.region id l.toArray true).wpIn F 0 P Q a w:=
 have hk:ae S w w.drew:=(ae.refl S w).drew
 lZ hF hd hm eff hB (ae S w) hk (h _ (fun _=>Iff.rfl) ⟨⟨_,hk⟩⟩ _ hk (fun _=>rfl) rfl (Ext.refl w).drew)
theorem dJ {C:World->Prop} {S:Nat->Prop} {w:World} (hC:∀ W,C W↔ae S w W) {p:Addr} {v:Option Value} (hs:S p.block) (h:w.cell? p=v):∀ W: {W//C W},W.1.cell? p=v:=fun W=>(((hC W.1).1 W.2).cell hs).trans h
theorem eU (f:FuncId):Fence.wide.fn f=True:=rfl
theorem cJ:Fence.wide.depth=none:=rfl
def Move (d:Bool) (T:Nat->Prop) (W W':World):Prop:=ae (fun k=>k<W.heap.size/\¬T k) W W'/\(d=true->W.drawn<=W'.drawn)
theorem Move.put {d:Bool} {T:Nat->Prop} {W:World} {l:Nat} (hl:T l) (o:Obj):Move d T W (W.putObj l o):=⟨(ae.refl _ _).putObj (fun h=>h.2 hl) _,fun _=>aD _⟩
theorem Move.ext {d:Bool} {T:Nat->Prop} {W W':World} (h:Ext W W'):Move d T W W':=⟨h.mono fun _ h=>h.1,fun _=>h.drawn⟩
theorem Move.refl (d:Bool) (T:Nat->Prop) (W:World):Move d T W W:=.ext (Ext.refl W)
theorem Move.mono {d:Bool} {T T':Nat->Prop} {W W':World} (h:Move d T W W') (ht:∀ k,T k->T' k):Move d T' W W':=⟨h.1.mono fun k hk=>⟨hk.1,fun h=>hk.2 (ht k h)⟩,h.2⟩
def fg {β:Type} (d:Bool) (B:Nat) (J:β->(Nat->Prop)->World->Prop):Prop:=
 ∀ s T T' W W',J s T W->(∀ k,T k->B<=k/\k<W.heap.size)->(∀ k,T' k->B<=k/\k<W'.heap.size)->(∀ k,T k->T' k)->(∀ k,T' k->T k\/W.heap.size<=k)->Move d T W W'->J s T' W'
theorem fg.ext {d:Bool} {β:Type} {B:Nat} {J:β->(Nat->Prop)->World->Prop} (h:fg d B J) {s:β} {T:Nat->Prop} {W W':World} (hj:J s T W) (hT:∀ k,T k->B<=k/\k<W.heap.size) (hx:Ext W W'):J s T W':=
 h s T T W W' hj hT (fun k hk=>⟨(hT k hk).1,aw (hT k hk).2 hx.size⟩) (fun _ h=>h) (fun _ h=>.inl h) (.ext hx)
theorem aq.gT {d:Bool} {B:Nat} {T:Nat->Prop} {W W':World} {b:Nat} {c:Array Value} {t:TypeId} (h:aq W b c t) (hT:∀ k,T k->B<=k/\k<W.heap.size) (hk:Move d T W W') (hb:b<B):aq W' b c t:=
 h.keeps hk.1 ⟨h.lt,fun ht=>by have:=(hT _ ht).1;omega⟩
theorem Ext.gT {B:Nat} {T:Nat->Prop} {A W W':World} (h:Ext A W) (hT:∀ k,T k->B<=k/\k<W.heap.size) (hk:Move true T W W') (hA:A.heap.size<=B):Ext A W':=
 ⟨hk.1.os.trans h.os,hk.1.tape.trans h.tape,hk.1.output.trans h.output,Nat.le_trans h.drawn (hk.2 rfl),Nat.le_trans h.size hk.1.size,
  fun k pT=>(hk.1.keep k ⟨aw pT h.size,fun ht=>by have:=(hT _ ht).1;omega⟩).trans (h.keep k pT)⟩
theorem dc {d:Bool} {B n:Nat} {T:Nat->Prop} {A W W':World} (h:Below n A W) (hT:∀ k,T k->B<=k/\k<W.heap.size) (hk:Move d T W W') (hn:n<=A.heap.size) (hB:n<=B):Below n A W':=
 ⟨hk.1.os.trans h.os,hk.1.tape.trans h.tape,hk.1.output.trans h.output,Nat.le_trans h.size hk.1.size,fun k pT=>(hk.1.keep k ⟨by have:=h.size;omega,fun ht=>by have:=(hT _ ht).1;omega⟩).trans (h.block k pT)⟩
theorem au {W W':World} {base:Nat} {e:TypeId} {size:Nat} {v:Value} {n:Nat} {xs:List Value} (h:W.ownsRow base e size v n xs) {R:Nat->Prop} (hk:ae R W W') (hr:∀ k,v.ownBlock=some k->R k):W'.ownsRow base e size v n xs:=by
 refine⟨h.1,?_⟩;rcases h.2 with hn | ⟨g,cap,cur,rfl,hb,hgg,rest⟩
 ·exact .inl hn
 ·exact .inr ⟨g,cap,cur,rfl,hb,(hk.keep g (hr g rfl)).trans hgg,rest⟩
theorem ownsRow_form {W:World} {base:Nat} {e:TypeId} {size:Nat} {v:Value} {n:Nat} {xs:List Value} (h:W.ownsRow base e size v n xs):∃ a c,v=.slice a n c:=by
 rcases h.2 with⟨rfl,rfl⟩ | ⟨g,cap,cur,rfl,_⟩
 ·exact⟨none,0,rfl⟩
 ·exact⟨_,cap,rfl⟩
theorem aG {W:World} {base base':Nat} {e:TypeId} {size:Nat} {v:Value} {n:Nat} {xs:List Value} (h:W.ownsRow base e size v n xs) (hb:base'<=base):W.ownsRow base' e size v n xs:=by
 refine⟨h.1,?_⟩;rcases h.2 with hn | ⟨g,cap,cur,rfl,h1,rest⟩
 ·exact .inl hn
 ·exact .inr ⟨g,cap,cur,rfl,Nat.le_trans hb h1,rest⟩
section
variable {P:Program} {d:Bool}
def Seq {α:Type} (d:Bool) (P:Program) (g:Nat) (lb:Array Value) (mH:α->Array Value) (R:Nat->Prop) (xs:List α) (w:World):Prop:=
 ∀ (l:Nat) (J Jx:List α->(Nat->Prop)->World->Prop) (W:World),ae (· <w.heap.size) w W->fg d W.heap.size J->fg d W.heap.size Jx->
  (∀ pre x T W1,(pre++ [x])<+:xs->(∀ k,T k->W.heap.size<=k/\k<W1.heap.size)->ae R W W1->J pre T W1->
   YieldAt Fence.wide 0 P l (mH x) W1 fun e W'=>
    (e=.returned (.bool true)/\J (pre++ [x]) T W'/\ae (fun k=>R k\/T k) W1 W')\/(e=.returned (.bool false)/\Jx (pre++ [x]) T W'/\ae T W1 W'))->
  J [] (fun _=>False) W->
  Calls P g (#[.func (.yield l) #[] #[]]++lb) W fun e W'=>(∃ v,e=.returned v)/\∃ T,(∀ k,T k->W.heap.size<=k/\k<W'.heap.size)/\(J xs T W'\/∃ pre,pre<+:xs/\Jx pre T W')
theorem Seq.at {α:Type} {P:Program} {d:Bool} {g:Nat} {lb:Array Value} {mH:α->Array Value} {R:Nat->Prop} {xs:List α} {w w':World} (h:Seq d P g lb mH R xs w) (hk:ae (· <w.heap.size) w w'):Seq d P g lb mH R xs w':=
 fun l J Jx W hK=>h l J Jx W (hk.tr (hK.mono fun _ pT=>aw pT hk.size))
def FD {α:Type} (R T:Nat->Prop) (W0:World) (I:List α->(Nat->Prop)->World->Prop) (Ix:Code->List α->(Nat->Prop)->World->Prop) (xs:List α):Exit->Act->World->Prop
 | .normal,_,W'=>ae (fun k=>R k\/T k) W0 W'/\I xs T W'
 | .ret,_,W'=>ae T W0 W'/\Ix .ret xs T W'
 | .exit id,_,W'=>ae T W0 W'/\Ix (.exit id) xs T W'
 | .goto t,_,W'=>ae T W0 W'/\Ix (.goto t) xs T W'
 | .panic _,_,_=>False
 | .outgrown,_,_=>False
variable {F:Fence}
theorem FE {α:Type} (hF:∀ f,F.fn f) (hC:∀ {f args w R},Calls P f args w R->CallsIn F 0 P f args w R) (hYd:∀ {l f tmps ym body w R},RoundIn F 0 P l f tmps ym body w R->RoundIn Fence.wide 0 P l f tmps ym body w R) {gf:Nat} {lb:Array Value} {mH:α->Array Value} {R:Nat->Prop} {xs:List α} {w:World} (hseq:Seq d P gf lb mH R xs w) {ps:Array Tmp} {assign body:Code} {fn:FuncId} (tmps:Array Value) (dfr:Nat) (JG:∀ x,(mH x).size=ps.size) (RA:∀ k,R k->k<w.heap.size) (l:Nat) (T0:Nat->Prop) (Mn:∀ k,T0 k->w.heap.size<=k/\k<l+1) (Vq:T0 l) (W1:World) (hls:W1.heap.size=l+1) (hl:W1.heap[l]? =some (.loop {state:=.ready,pending:=none,fn,tmps,params:=ps,assign,body,defers:=dfr})) (hW1:Ext w W1) (I:List α->(Nat->Prop)->World->Prop) (Ix:Code->List α->(Nat->Prop)->World->Prop) (hI:fg d w.heap.size I) (RB:∀ c,fg d w.heap.size (Ix c)) (h0:I [] T0 W1) (Ia:List α×α×Act->(Nat->Prop)->World->Prop) (hIa:fg d w.heap.size Ia) (qj:∀ pre x T W,pre++ [x]<+:xs->(∀ k,T0 k->T k)->(∀ k,T k->w.heap.size<=k/\k<W.heap.size)->ae R w W->I pre T W-> assign.wpIn (F.inRound l) 0 P (Exit.then (fun a1 W'=>ae (fun k=>R k\/T k) W W'/\Ia (pre,x,a1) T W') (fun _ _ _=>False)) {tmps:=(ps.zip (mH x)).foldl (fun t (p,v)=>t.setIfInBounds p v) tmps,defers:=[]} W)
  (Ck:∀ pre x T a1 W,pre++ [x]<+:xs->(∀ k,T0 k->T k)->(∀ k,T k->w.heap.size<=k/\k<W.heap.size)->ae R w W->(∃ r:Loop,W.heap[l]? =some (.loop r)/\r.defers=dfr)->Ia (pre,x,a1) T W->
   body.wpIn (F.inRound l) 0 P (FD R T W I Ix (pre++ [x])) a1 W):
  CallsIn F 0 P gf (#[.func (.yield l) #[] #[]]++lb) W1 fun e W3=>(∃ v,e=.returned v)/\∃ T W4 jump,(Instr.endLoop l).run P W3=.ok jump W4/\(∀ k,T0 k->T k)/\(∀ k,T k->w.heap.size<=k/\k<W4.heap.size)/\
   (∀ k,T0 k->k≠l->W4.heap[k]? =W1.heap[k]?)/\ae (fun k=>R k\/T0 k) W1 W1/\
   match jump with
   | none=>I xs T W4
   | some c=>∃ pre,pre<+:xs/\Ix c pre T W4:=by
 obtain⟨rec,lh⟩:∃ rec:LoopState->Option Code->Loop,rec=fun st pe=> {state:=st,pending:=pe,fn,tmps,params:=ps,assign,body,defers:=dfr} :=⟨_,rfl⟩
 have pU:W1.heap[l]? =some (.loop (rec .ready none)):=by rw[lh];exact hl
 have ZF:∀ {T:Nat->Prop} {W:World},(∀ k,T k->W1.heap.size<=k/\k<W.heap.size)->l<W.heap.size->∀ k,(T k\/T0 k)->w.heap.size<=k/\k<W.heap.size:=fun hT ZG k hk=>by
  have hsz:=hW1.size;rcases hk with hk | hk
  ·have:=hT k hk;omega
  ·have:=Mn k hk;omega
 -- the invariant with the record beside it
 have M0:∀ {β:Type} {G:β->(Nat->Prop)->World->Prop} (rs:β->Loop->Prop),fg d w.heap.size G->
   fg d W1.heap.size (fun (s:β) T W=>G s (fun k=>T k\/T0 k) W/\(∃ r,rs s r/\W.heap[l]? =some (.loop r))/\(∀ k,T0 k->k≠l->W.heap[k]? =W1.heap[k]?)/\l<W.heap.size):=by
  intro β G rs hG s T T' W W' hs h1 h2 h3 h4 h5;obtain⟨hg,⟨r,hr,ZG⟩,hk,hlt⟩:=hs;have M7:∀ k,T0 k->W'.heap[k]? =W.heap[k]? :=fun k hk=>h5.1.keep k ⟨by have:=(Mn k hk).2;omega,fun ht=>by have:=(h1 k ht).1;have:=(Mn k hk).2;omega⟩
  refine⟨hG s _ _ W W' hg (ZF h1 hlt) (ZF h2 (aw hlt h5.1.size)) (fun k hk=>hk.imp (h3 k) id) (fun k hk=>?_) (h5.mono fun k hk=>.inl hk),⟨r,hr,(M7 l Vq).trans ZG⟩,fun k BH hne=>(M7 k BH).trans (hk k BH hne),aw hlt h5.1.size⟩;rcases hk with hk | hk
  ·exact(h4 k hk).imp .inl id
  ·exact .inl (.inr hk)
 have Io:¬R l:=fun h=>by have:=RA l h;have:=(Mn l Vq).1;omega
 refine CallsIn.mono (hC (hseq l (fun pre T W=>I pre (fun k=>T k\/T0 k) W/\(∃ r,r=rec .ready none/\W.heap[l]? =some (.loop r))/\(∀ k,T0 k->k≠l->W.heap[k]? =W1.heap[k]?)/\l<W.heap.size)
  (fun pre T W=>∃ c,Ix c pre (fun k=>T k\/T0 k) W/\(∃ r,r=rec .done (some c)/\W.heap[l]? =some (.loop r))/\(∀ k,T0 k->k≠l->W.heap[k]? =W1.heap[k]?)/\l<W.heap.size)
  W1 hW1.keeps (M0 (fun _ r=>r=rec .ready none) hI)
  (fun s T T' W W' ⟨c,hc⟩ h1 h2 h3 h4 h5=>⟨c,M0 (fun _ r=>r=rec .done (some c)) (RB c) s T T' W W' hc h1 h2 h3 h4 h5⟩) ?_
  ⟨hI _ _ _ W1 W1 h0 (fun k hk=>⟨(Mn k hk).1,by have:=(Mn k hk).2;omega⟩) (ZF (fun _ h=>h.elim) (by omega)) (fun k hk=>.inr hk) (fun k hk=>.inl (hk.resolve_left id)) (Move.refl _ _ _),⟨_,rfl,pU⟩,fun _ _ _=>rfl,by omega⟩)) ?_
 ·-- one round
  rintro pre x T W bF hT hRW ⟨hi,⟨r0,hr0,ZG⟩,hkD,hlt⟩;subst hr0;have hy:=run_yield (P:=P) (args:=mH x) ZG (by rw[lh];exact JG x);rw[lh]at hy;have Re:=ZF hT hlt;have ZH:ae R w W:=(hW1.mono RA).tr hRW;refine⟨fn,_,assign,body,hy,hYd (roundIn_of_wpIn (hF fn) (wpIn_mono (qj pre x _ W bF (fun k hk=>.inr hk) Re ZH hi) ?_))⟩;rintro e a1 Wa hp;cases e with
  | normal=>
   obtain⟨hka,hia⟩:=hp;have hla:Wa.heap[l]? =some (.loop (rec .ready none)):=(hka.keep l (.inr (.inr Vq))).trans ZG;have Vr:l<Wa.heap.size:=aw hlt hka.size;refine⟨_,run_beginRound hla (by rw[lh]),?_⟩;obtain⟨Wb,Yz⟩:∃ Wb,Wb=Wa.putObj l (.loop {rec .ready none with state:=.busy}):=⟨_,rfl⟩;rw[<-Yz];have ql:Wb.heap.size=Wa.heap.size:=by rw[Yz];simp
   have BJ:Wb.heap[l]? =some (.loop {rec .ready none with state:=.busy}):=by rw[Yz];exact World.putObj_heap_same Vr
   have hab:∀ {S:Nat->Prop},¬S l->ae S Wa Wb:=fun hS=>by rw[Yz];exact(ae.refl _ _).putObj hS _
   have Na:∀ k,(T k\/T0 k)->w.heap.size<=k/\k<Wa.heap.size:=fun k hk=>⟨(Re k hk).1,aw (Re k hk).2 hka.size⟩
   have hib:Ia (pre,x,a1) (fun k=>T k\/T0 k) Wb:=hIa _ _ _ Wa Wb hia Na (fun k hk=>by rw[ql];exact Na k hk) (fun _ h=>h) (fun _ h=>.inl h) (by rw[Yz];exact .put (.inr Vq) _);have aek:ae R w Wb:=ZH.tr ((hka.mono fun k hk=>.inl hk).tr (hab Io));refine wpIn_mono (Ck pre x _ a1 Wb bF (fun k hk=>.inr hk) (fun k hk=>by rw[ql];exact Na k hk) aek ⟨_,BJ,by rw[lh]⟩ hib) ?_
   -- the round's end
   have fin:∀ (jump:Option Code) (Wc:World) (G:(Nat->Prop)->World->Prop),(∀ T T' W W',G T W->(∀ k,T k->w.heap.size<=k/\k<W.heap.size)->(∀ k,T' k->w.heap.size<=k/\k<W'.heap.size)->(∀ k,T k->T' k)->(∀ k,T' k->T k\/W.heap.size<=k)->Move d T W W'->G T' W')->
     ae (fun k=>T k\/T0 k) Wb Wc->G (fun k=>T k\/T0 k) Wc->
     ∃ Wd,(Instr.endRound l jump).run P Wc=.ok (.bool jump.isNone) Wd/\G (fun k=>T k\/T0 k) Wd/\Wd.heap[l]? =some (.loop (rec (if jump.isNone then .ready else .done) jump))/\(∀ k,T0 k->k≠l->Wd.heap[k]? =W1.heap[k]?)/\l<Wd.heap.size/\ae T W Wd/\(∀ S:Nat->Prop,¬S l->ae S Wb Wc->ae S Wa Wd):=by
    intro jump Wc G hG BK hg;have hlc:Wc.heap[l]? =some (.loop {rec .ready none with state:=.busy}):=(BK.keep l (.inr Vq)).trans BJ;have ZI:l<Wc.heap.size:=by rw[<-ql]at Vr;exact aw Vr BK.size
    have hend:=run_endRound (P:=P) jump hlc;rw[lh]at hend ⊢;have ZJ:∀ k,(T k\/T0 k)->w.heap.size<=k/\k<Wc.heap.size:=fun k hk=>⟨(Na k hk).1,by have:=(Na k hk).2;rw[<-ql]at this;exact aw this BK.size⟩
    have RD:∀ {S:Nat->Prop},¬S l->ae S Wa (Wc.putObj l (.loop (rec (if jump.isNone then .ready else .done) jump)))\/¬ae S Wb Wc:=fun {S} hS=>by
     by_cases h:ae S Wb Wc
     ·exact .inl (((hab hS).tr h).putObj hS _)
     ·exact .inr h
    have rE:¬T l:=fun h=>by have:=(hT l h).1;omega
    rw[lh]at RD;refine⟨_,hend,hG _ _ Wc _ hg ZJ (fun k hk=>by simpa using ZJ k hk) (fun _ h=>h) (fun _ h=>.inl h) (.put (.inr Vq) _),World.putObj_heap_same ZI,fun k hk hne=>?_,by simpa using ZI,?_,fun S hS hk=>(RD hS).resolve_right (fun h=>h hk)⟩
    ·rw[World.putObj_heap_other hne,BK.keep k (.inr hk),Yz,World.putObj_heap_other hne,hka.keep k (.inr (.inr hk))]
     exact hkD k hk hne
    ·exact(hka.mono fun k hk=>.inr (.inl hk)).tr ((RD rE).resolve_right (fun h=>h (BK.mono fun k hk=>.inl hk)))
   rintro e a3 Wc hp;cases e with
   | normal=>
    obtain⟨BK,Vs⟩:=hp;obtain⟨Wd,hend,hg,Vt,FH,FJ,YA,hS⟩:=fin none Wc (I (pre++ [x])) (fun T T' W W'=>hI (pre++ [x]) T T' W W') (BK.mono fun k hk=>.inr hk) Vs;refine⟨_,Wd,hend,.inl ⟨rfl,⟨hg,⟨_,rfl,Vt⟩,FH,FJ⟩,?_⟩⟩;have rE:¬ (R l\/T l):=fun h=>h.elim Io (fun h=>by have:=(hT l h).1;omega)
    exact(hka.mono fun k hk=>hk.imp id .inl).tr (hS _ rE (BK.mono fun k hk=>hk.imp id .inl))
   | ret=>
    obtain⟨BK,Vs⟩:=hp;obtain⟨Wd,hend,hg,Vt,FH,FJ,YA,hS⟩:=fin (some .ret) Wc (Ix .ret (pre++ [x])) (fun T T' W W'=>RB .ret (pre++ [x]) T T' W W') BK Vs;exact⟨_,Wd,hend,.inr ⟨rfl,⟨_,hg,⟨_,rfl,Vt⟩,FH,FJ⟩,YA⟩⟩
   | exit id=>
    obtain⟨BK,Vs⟩:=hp;obtain⟨Wd,hend,hg,Vt,FH,FJ,YA,hS⟩:=fin (some (.exit id)) Wc (Ix (.exit id) (pre++ [x])) (fun T T' W W'=>RB (.exit id) (pre++ [x]) T T' W W') BK Vs;exact⟨_,Wd,hend,.inr ⟨rfl,⟨_,hg,⟨_,rfl,Vt⟩,FH,FJ⟩,YA⟩⟩
   | goto t=>
    obtain⟨BK,Vs⟩:=hp;obtain⟨Wd,hend,hg,Vt,FH,FJ,YA,hS⟩:=fin (some (.goto t)) Wc (Ix (.goto t) (pre++ [x])) (fun T T' W W'=>RB (.goto t) (pre++ [x]) T T' W W') BK Vs;exact⟨_,Wd,hend,.inr ⟨rfl,⟨_,hg,⟨_,rfl,Vt⟩,FH,FJ⟩,YA⟩⟩
   | panic ch=>exact hp.elim
   | outgrown=>exact hp.elim
  | exit id=>exact hp.elim
  | goto t=>exact hp.elim
  | ret=>exact hp.elim
  | panic ch=>exact hp.elim
  | outgrown=>exact hp.elim
 ·-- behind the iterator
  rintro e W2 ⟨hv,T,hT,h⟩;refine⟨hv,fun k=>T k\/T0 k,?_⟩
  have fin:∀ (st:LoopState) (jump:Option Code) (G:(Nat->Prop)->World->Prop),st≠ .busy->(∀ T T' W W',G T W->(∀ k,T k->w.heap.size<=k/\k<W.heap.size)->(∀ k,T' k->w.heap.size<=k/\k<W'.heap.size)->(∀ k,T k->T' k)->(∀ k,T' k->T k\/W.heap.size<=k)->Move d T W W'->G T' W')->
    G (fun k=>T k\/T0 k) W2->W2.heap[l]? =some (.loop (rec st jump))->(∀ k,T0 k->k≠l->W2.heap[k]? =W1.heap[k]?)->l<W2.heap.size->
    ∃ W4,(Instr.endLoop l).run P W2=.ok jump W4/\(∀ k,(T k\/T0 k)->w.heap.size<=k/\k<W4.heap.size)/\(∀ k,T0 k->k≠l->W4.heap[k]? =W1.heap[k]?)/\G (fun k=>T k\/T0 k) W4:=by
   intro st jump G hst hG hg hl2 hk2 Cm;have hend:=run_endLoop (P:=P) hl2 (by rw[lh];exact hst);rw[lh]at hend;have Re:=ZF hT Cm;exact⟨_,hend,fun k hk=>by simpa using Re k hk,fun k hk hne=>(World.putObj_heap_other hne).trans (hk2 k hk hne),hG _ _ W2 _ hg Re (fun k hk=>by simpa using Re k hk) (fun _ h=>h) (fun _ h=>.inl h) (.put (.inr Vq) _)⟩
  rcases h with⟨hi,⟨r,hr,hl2⟩,hk2,Cm⟩ | ⟨pre,bF,c,hi,⟨r,hr,hl2⟩,hk2,Cm⟩
  ·subst hr
   obtain⟨W4,h1,h2,h3,h4⟩:=fin .ready none (I xs) (by decide) (fun T T' W W'=>hI xs T T' W W') hi hl2 hk2 Cm;exact⟨W4,none,h1,fun k hk=>.inr hk,h2,h3,ae.refl _ _,h4⟩
  ·subst hr
   obtain⟨W4,h1,h2,h3,h4⟩:=fin .done (some c) (Ix c pre) (by decide) (fun T T' W W'=>RB c pre T T' W W') hi hl2 hk2 Cm;exact⟨W4,some c,h1,fun k hk=>.inr hk,h2,h3,ae.refl _ _,pre,bF,h4⟩
theorem ax {c:Code} {Q:Exit->Act->World->Prop} {a:Act} {w:World} (h:∀ W,W=w->c.wp P Q a W):c.wp P Q a w:=h w rfl
theorem oW {F:Fence} {n:Nat} {c:Code} {Q:Exit->Act->World->Prop} {a:Act} {w:World} (h:∀ W,W=w->c.wpIn F n P Q a W):c.wpIn F n P Q a w:=h w rfl
theorem kB {α:Type} {g:Operand} {ps:Array Tmp} {assign body:Code} {Q:Exit->Act->World->Prop} {a:Act} {w:World} {gf:Nat} {lb:Array Value} {mH:α->Array Value} {R:Nat->Prop} {xs:List α} (hseq:Seq d P gf lb mH R xs w) (hg:a.eval g=.func (.func gf) #[] lb) (eg:∀ args w,(callFunc gf args).run P w=.ok (.enter gf args) w) (JG:∀ x,(mH x).size=ps.size) (RA:∀ k,R k->k<w.heap.size) (I:List α->(Nat->Prop)->World->Prop) (Ix:Code->List α->(Nat->Prop)->World->Prop) (hI:fg d w.heap.size I) (RB:∀ c,fg d w.heap.size (Ix c)) (h0:I [] (fun _=>False) w) (Ia:List α×α×Act->(Nat->Prop)->World->Prop) (hIa:fg d w.heap.size Ia) (qj:∀ l pre x T W,pre++ [x]<+:xs->(∀ k,T k->w.heap.size<=k/\k<W.heap.size)->ae R w W->I pre T W-> assign.wpIn (Fence.wide.inRound l) 0 P (Exit.then (fun a1 W'=>ae (fun k=>R k\/T k) W W'/\Ia (pre,x,a1) T W') (fun _ _ _=>False)) {tmps:=(ps.zip (mH x)).foldl (fun t (p,v)=>t.setIfInBounds p v) a.tmps,defers:=[]} W)
  (Ck:∀ l pre x T a1 W,pre++ [x]<+:xs->(∀ k,T k->w.heap.size<=k/\k<W.heap.size)->ae R w W->T l->(∃ r:Loop,W.heap[l]? =some (.loop r))->Ia (pre,x,a1) T W->
   body.wpIn (Fence.wide.inRound l) 0 P (FD R T W I Ix (pre++ [x])) a1 W)
  (hdone:∀ D T W,w.heap.size<=D->T D->(∀ k,T k->w.heap.size<=k/\k<W.heap.size)->I xs T W->W.heap[D]? =some (.deferred (some []))->Q .normal {a with defers:= {target:=.collected D,args:= #[]} ::a.defers} W)
  (Nb:∀ D c pre T W,w.heap.size<=D->T D->(∀ k,T k->w.heap.size<=k/\k<W.heap.size)->pre<+:xs->Ix c pre T W->W.heap[D]? =some (.deferred (some []))->c.wp P Q {a with defers:= {target:=.collected D,args:= #[]} ::a.defers} W):
  (Code.rangeFunc g ps assign body).wp P Q a w:=by
 refine wpIn_wide.1 (wpIn_rangeFunc (n:=0) ?_);intro fn hfn;obtain⟨W1,hW1⟩:∃ W1,W1=(w.alloc (.deferred (some []))).alloc (.loop {state:=.ready,pending:=none,fn,tmps:=a.tmps,params:=ps,assign,body,defers:=w.heap.size}):=⟨_,rfl⟩;have hL1:W1.heap[w.heap.size+1]? =some (.loop {state:=.ready,pending:=none,fn,tmps:=a.tmps,params:=ps,assign,body,defers:=w.heap.size}):=by
  rw[hW1];have:=World.alloc_heap_new (w.alloc (.deferred (some []))) (.loop {state:=.ready,pending:=none,fn,tmps:=a.tmps,params:=ps,assign,body,defers:=w.heap.size});rwa[World.size_alloc]at this
 have hK1:W1.heap[w.heap.size]? =some (.deferred (some [])):=by rw[hW1];exact(Below.heap_alloc _ _ _ (by simp)).trans (World.alloc_heap_new w _)
 have hsz:W1.heap.size=w.heap.size+1+1:=by rw[hW1];simp
 have hx1:Ext w W1:=by rw[hW1];exact((Ext.refl w).alloc _).alloc _
 refine⟨w.heap.size+1,[{target:=.collected w.heap.size,args:= #[]}],W1, {target:=.fn (.func gf) lb,args:= #[.func (.yield (w.heap.size+1)) #[] #[]]},W1,gf,
  #[.func (.yield (w.heap.size+1)) #[] #[]]++lb,W1,?_,?_,?_,?_,fun h=>(by cases h),?_⟩
 ·rw[hW1];exact run_enterLoop_outer _ _ _ _ _
 ·simp only[resolve,hg]
  simp[go_sem]
 ·intro f' _;trivial
 ·simp[invoke,go_sem,eg]
 ·refine(FE (F:=Fence.wide) (fun _=>trivial) (fun h=>callsIn_wide.2 h) (fun h=>h) hseq a.tmps w.heap.size JG RA (w.heap.size+1) (fun k=>k=w.heap.size\/k=w.heap.size+1) (fun k hk=>by omega) (.inr rfl) W1 hsz hL1 hx1 I Ix hI RB
   (hI _ _ _ w W1 h0 (fun _ h=>h.elim) (fun k hk=>by omega) (fun _ h=>h.elim) (fun k hk=>.inr (by omega)) (.ext hx1)) Ia hIa
   (fun pre x T W h1 _ h3 h4 h5=>qj _ pre x T W h1 h3 h4 h5) (fun pre x T a1 W h1 h2 h3 h4 ⟨r,h5,_⟩ h6=>Ck _ pre x T a1 W h1 h3 h4 (h2 _ (.inr rfl)) ⟨r,h5⟩ h6)).mono ?_
  rintro e W3 ⟨⟨v,rfl⟩,T,W4,jump,hend,Mn,hT,hk,_,hj⟩;refine⟨jump,W4,hend,?_⟩;have hD:W4.heap[w.heap.size]? =some (.deferred (some [])):=(hk _ (.inl rfl) (by omega)).trans hK1;cases jump with
  | none=>exact hdone _ T W4 (aD _) (Mn _ (.inl rfl)) hT hj hD
  | some c=>
   obtain⟨pre,bF,hx⟩:=hj;exact wpIn_wide.2 (Nb _ c pre T W4 (aD _) (Mn _ (.inl rfl)) hT bF hx hD)
theorem ig {α:Type} {g:Operand} {ps:Array Tmp} {assign body:Code} {Q:Exit->Act->World->Prop} {a:Act} {w:World} {gf:Nat} {lb:Array Value} {mH:α->Array Value} {R:Nat->Prop} {xs:List α} (hseq:Seq d P gf lb mH R xs w) (hg:a.eval g=.func (.func gf) #[] lb) (eg:∀ args w,(callFunc gf args).run P w=.ok (.enter gf args) w) (JG:∀ x,(mH x).size=ps.size) (RA:∀ k,R k->k<w.heap.size) (I:List α->(Nat->Prop)->World->Prop) (Ix:Code->List α->(Nat->Prop)->World->Prop) (hI:fg d w.heap.size I) (RB:∀ c,fg d w.heap.size (Ix c)) (h0:I [] (fun _=>False) w) (a₁:α->Act) (qj:∀ l x W (K:Act->World->Prop),K (a₁ x) W->assign.wpIn (Fence.wide.inRound l) 0 P (Exit.then K (fun _ _ _=>False)) {tmps:=(ps.zip (mH x)).foldl (fun t (p,v)=>t.setIfInBounds p v) a.tmps,defers:=[]} W)
  (Ck:∀ l pre x T W,pre++ [x]<+:xs->(∀ k,T k->w.heap.size<=k/\k<W.heap.size)->ae R w W->T l->(∃ r:Loop,W.heap[l]? =some (.loop r))->I pre T W->
   body.wpIn (Fence.wide.inRound l) 0 P (FD R T W I Ix (pre++ [x])) (a₁ x) W)
  (hdone:∀ D T W,w.heap.size<=D->T D->(∀ k,T k->w.heap.size<=k/\k<W.heap.size)->I xs T W->W.heap[D]? =some (.deferred (some []))->Q .normal {a with defers:= {target:=.collected D,args:= #[]} ::a.defers} W)
  (Nb:∀ D c pre T W,w.heap.size<=D->T D->(∀ k,T k->w.heap.size<=k/\k<W.heap.size)->pre<+:xs->Ix c pre T W->W.heap[D]? =some (.deferred (some []))->c.wp P Q {a with defers:= {target:=.collected D,args:= #[]} ::a.defers} W):
  (Code.rangeFunc g ps assign body).wp P Q a w:=
 kB hseq hg eg JG RA I Ix hI RB h0 (fun z T W=>z.2.2=a₁ z.2.1/\I z.1 T W) (fun z T T' W W' hz h1 h2 h3 h4 h5=>⟨hz.1,hI z.1 T T' W W' hz.2 h1 h2 h3 h4 h5⟩)
  (fun l pre x T W _ _ _ hi=>qj l x W _ ⟨ae.refl _ _,rfl,hi⟩) (fun l pre x T a1 W h1 h2 h3 h4 h5 h6=>by obtain⟨h6,h7⟩:=h6;dsimp only at h6;subst h6;exact Ck l pre x T W h1 h2 h3 h4 h5 h7) hdone Nb
theorem bG {f:FuncId} {fn:Func} {c:Code} {args:Array Value} {w:World} {R:Ending->World->Prop} (hf:P.funcs[f]? =some fn) (hb:fn.body=some c) (h:c.wp P (bodyPostM Fence.wide 0 P fn R) {tmps:=args++Array.replicate (fn.ntmps-args.size) undef,defers:=[]} w):Calls P f args w R:=
 callsIn_wide.1 (callsIn_of_wp_marks hf hb trivial (wpIn_wide.2 h))
theorem cB {fn:Func} {R:Ending->World->Prop} {a:Act} {W:World} {D:Nat} {v:Value} (hd:a.defers=[{target:=.collected D,args:= #[]}]) (hD:W.heap[D]? =some (.deferred (some []))) (hr:(results fn a.tmps).run P (W.putObj D (.deferred none))=.ok v (W.putObj D (.deferred none))) (hR:R (.returned v) (W.putObj D (.deferred none))):bodyPostM Fence.wide 0 P fn R .ret a W:=by show LeavesInM Fence.wide 0 P fn a.tmps R a.defers .returning W;rw[hd];exact⟨by simp,.inl ⟨_,_,rfl,run_takeDeferred hD,v,hr,hR⟩⟩
theorem tR {fn:Func} {R:Ending->World->Prop} {a:Act} {W:World} {D:Nat} {v:Value} (hd:a.defers=[{target:=.collected D,args:= #[]}]) (hD:W.heap[D]? =some (.deferred (some []))) (hr:(results fn a.tmps).run P (W.putObj D (.deferred none))=.ok v (W.putObj D (.deferred none))) (hR:R (.returned v) (W.putObj D (.deferred none))):bodyPostM Fence.wide 0 P fn R .normal a W:=
 cB hd hD hr hR
theorem xB {fn:Func} {R:Ending->World->Prop} {a:Act} {W:World} {v:Value} (hd:a.defers=[]) (hr:(results fn a.tmps).run P W=.ok v W) (hR:R (.returned v) W):bodyPostM Fence.wide 0 P fn R .ret a W:=by show LeavesInM Fence.wide 0 P fn a.tmps R a.defers .returning W;rw[hd];exact⟨v,hr,hR⟩
theorem sJ {W:World} {D:Nat} {o o':Obj} (h:W.heap[D]? =some o) (ho:o.isCells=false) (Mo:o'.isCells=false) (a:Addr):(W.putObj D o').cell? a=W.cell? a:=by
 by_cases hb:a.block=D
 ·have h1:=World.putObj_heap_same (o:=o') (Array.getElem?_eq_some_iff.1 h).1
  simp only[World.cell?,hb,h,h1];cases o<;>cases o'<;>first | rfl | (simp[Obj.isCells]at ho Mo)
 ·exact World.cell?_of_block (World.putObj_heap_other hb)
end
end
section
open Go Go.RowKit
section
variable {F:Fence} {n:Nat} {P:Program} {C:World→Prop} {ops:Array Oper}
structure eJ (p:Prop):Prop where
 out:p
theorem ft {eff:Nat->Bool} {Q:Act->World->Prop} {o:Oper} {rest:List Oper} {k:Nat} {a:Act} {w:World} (h:∀ K:Act->World->Prop,(∀ a w,eJ (jZ F n P C ops eff Q rest (k+1) a w)->K a w)->dV F n P C ops (eff k) o K a w):eJ (jZ F n P C ops eff Q (o::rest) k a w):=⟨bR fun K hK=>h K fun a w hl=>hK a w hl.out⟩
theorem Cn {eff:Nat->Bool} {Q:Act->World->Prop} {k:Nat} {a:Act} {w:World} (h:Q a w):eJ (jZ F n P C ops eff Q [] k a w):=⟨h⟩
theorem RF {fS:Bool} {o:Oper} {K:Act->World->Prop} {a:Act} {w:World} (he:fS=false) (hw:Region.wanted o (yielded ops a.tmps)=true) (h:∃ v,(∀ W: {W//C W},aB P o a v W.1)/\K (a.put o.dst v) w):dV F n P C ops fS o K a w:=by subst he;exact dI hw h
theorem Nc {fS:Bool} {o:Oper} {K:Act->World->Prop} {a:Act} {w:World} (he:fS=true) (hw:Region.wanted o (yielded ops a.tmps)=true) (h:iQ F n P C o.dst a K ((execOp a.eval o).run P w)):dV F n P C ops fS o K a w:=by subst he;exact eM hw h
theorem aO {op:Oper} {a:Act} {W:World} (ty:TypeId) (x:Operand) (ho:op.op=.load ty x) (b o:Nat) (hx:a.eval x=.pointer (some ⟨b,o,none⟩)) (cs:Array Value) (d:TypeDesc) (hc:W.rangeAt b o cs.toList) (hu:P.underlying ty=some d) (hd:d.isRow=true) (hi:(P.info? ty).map (·.size)=some cs.size):aB P op a (.agg cs) W:=by refine .inl ?_;unfold execOp;simp only[ho,hx,Instr.loadAt,Instr.sureAddr,Sem.run_bind,Sem.run_pure,Result.andThen_ok,run_loadVar_mid W b o ty cs.toList d hc hu hd (by rw[Array.length_toList];exact hi)]
theorem aI {w w':World} {R:Nat->Prop} {b o:Nat} {cs:List Value} (h:w.rangeAt b o cs) (hk:ae R w w') (hb:R b):w'.rangeAt b o cs:=fun j v hj=>(hk.cell (p:=⟨b,o+j,none⟩) hb).trans (h j v hj)
theorem qm {o:Oper} {a:Act} {w:World} {K:Act->World->Prop} (s x:Operand) (t:TypeId) (ho:o.op=.call {callee:=.builtin .append,args:= #[s,x],argTypes:= #[t,t]}) (base:Nat) (e:TypeId) (i:TypeInfo) (z:Value) (size bytes:Nat) (ht:P.underlying t=some (.slice e)) (hi:P.info? e=some i) (hz:i.zero=some z) (hsize:i.size=size) (hby:i.bytes=bytes) (hzs:z.cells.size=size) (hsz:0<size) (v:Value) (m:Nat) (xs:List Value) (hs:a.eval s=v) (hown:w.ownsRow base e size v m xs) (ad:Addr) (k c:Nat) (news:List Value) (hx:a.eval x=.slice (some ad) k c) (hl:news.length=k*size) (hnews:∀ j u,news[j]? =some u->w.cell? (ad.add j)=some u) (h1:∀ u∈news,u.oneCell'=true) (h63:m+k<=maxLen) (hbytes:(m+k)*bytes<=140737488355328) (hbase:base<=w.heap.size) (h:∀ v' w',w'.ownsRow base e size v' (m+k) (xs++news)->w.grownBy w' v.ownBlock->(v'.ownBlock=v.ownBlock\/v'.ownBlock=some w.heap.size)->C w'/\K (a.put o.dst v') w'): iQ F n P C o.dst a K ((execOp a.eval o).run P w):=by obtain⟨v',w',hr,h2,h3,h4,h5⟩:=run_append_own_at (P:=P) w base t o.type e i z size bytes ht hi hz hsize hby hzs hsz v m xs hown ad k c news hl hnews h1 h63 hbytes hbase;unfold execOp;simp only[ho,resolve,invoke,builtin,Sem.run_bind,Sem.run_pure,Result.andThen_ok,List.map_toArray,List.map_cons,List.map_nil,hs,hx,hr];exact h v' w' h2 h3 h5
end
end
section
open Go Go.RowKit
structure aR (M:World->World->Prop) where
 P:Value->Prop
 H:Value->World->Prop
 mo:Value
 pw:P mo
 st:∀ v W W',M W W'->P v->H v W->H v W'
theorem Move.trans {d:Bool} {T:Nat->Prop} {A B C:World} (h:Move d T A B) (k:Move d T B C):Move d T A C:=
 ⟨h.1.trans k.1 fun _ hk=>⟨aw hk.1 h.1.size,hk.2⟩,fun hd=>Nat.le_trans (h.2 hd) (k.2 hd)⟩
def dS (ops:Array Oper) (j:Nat):Option Tmp:=(ops[j]?).bind (·.dst)
def jo (Cl:FuncId->Array Value->World->(Ending->World->Prop)->Prop) (Rd:Nat->FuncId->Array Value->Code->Code->World->(Ending->World->Prop)->Prop) (post:Value->World->Prop):Result Next->Prop
 | .ok (.value v) w'=>post v w'
 | .ok .skip w'=>post undef w'
 | .ok (.enter f args) w'=>Cl f args w' fun e w''=>∃ v,e=.returned v/\post v w''
 | .ok (.round l f tmps ym body) w'=>Rd l f tmps ym body w' fun e w''=>∃ v,e=.returned v/\post v w''
 | _=>False
def Nd (S:Nat->(Act->World->Prop)->Act->World->Prop) (md:Region.Mode) (ops:Array Oper) (Qn:Act->World->Prop):Nat->Array Bool->Act->World->Prop
 | 0,listed,a,w=>Region.ready md ops listed=[]/\Qn a w
 | fuel+1,listed,a,w=>
  (Region.ready md ops listed=[]->Qn a w)/\
  ∀ i∈Region.ready md ops listed,S i (Nd S md ops Qn fuel (listed.setIfInBounds i true)) a w
def sK (S:Nat->(Act->World->Prop)->Act->World->Prop) (Qn:Act->World->Prop):List Nat->Act->World->Prop
 | [],a,w=>Qn a w
 | i::rest,a,w=>S i (sK S Qn rest) a w
def needs (m:Nat) (aY:List (Nat× (World->Prop))) (W:World):Prop:=∀ x∈aY,m.testBit x.1=true->x.2 W
theorem needs.at {m:Nat} {aY:List (Nat× (World->Prop))} {W:World} (h:needs m aY W) (i:Nat) {x:Nat× (World->Prop)} (hx:aY[i]? =some x) (hm:m.testBit x.1=true):x.2 W:=h x (aA hx) hm
section
variable {P:Program} {Cl:FuncId→Array Value→World→(Ending→World→Prop)→Prop} {Rd:Nat→FuncId→Array Value→Code→Code→World→(Ending→World→Prop)→Prop}
  {ops:Array Oper} {eff:Nat→Bool} {cr:Nat→Nat} {M:World→World→Prop} {EP:Nat→aR M} {C:World→Prop} {md:Region.Mode} {m:Nat}
def gh (ops:Array Oper) (a:Act) (val:Nat->Value):Nat->Act
 | 0=>a
 | i+1=>(gh ops a val i).put (dS ops i) (val i)
theorem fw {a:Act} {val val':Nat->Value} :∀ (i:Nat),(∀ j,j<i->val j=val' j)->gh ops a val i=gh ops a val' i
 | 0,_=>rfl
 | i+1,h=>by unfold gh;rw[fw i fun j hj=>h j (by omega),h i (by omega)]
def wantedAt (ops:Array Oper) (a:Act) (val:Nat->Value) (j:Nat):Prop:=∃ o,ops[j]? =some o/\Region.wanted o (yielded ops (gh ops a val j).tmps)=true
def rF (ops:Array Oper) (eff:Nat->Bool) (cr:Nat->Nat) (EP:Nat->aR M) (a:Act) (val:Nat->Value) (i:Nat) (W:World):Prop:=
 ∀ j,j<i->wantedAt ops a val j->eff j=true->(cr i).testBit j=true->(EP j).H (val j) W
theorem jq {a:Act} {val val':Nat->Value} {j:Nat} (h:∀ k,k<j->val k=val' k):wantedAt ops a val j↔wantedAt ops a val' j:=by unfold wantedAt;rw[fw j h]
theorem oX {a:Act} {val val':Nat->Value} {i:Nat} (h:∀ k,k<i->val k=val' k):rF ops eff cr EP a val i=rF ops eff cr EP a val' i:=by
 funext W
 unfold rF;refine propext (forall_congr' fun j=>forall_congr' fun hj=>?_);rw[jq (val':=val') fun k hk=>h k (by omega),h j hj]
structure FK (ops:Array Oper) (a0:Act) (L:Nat->Prop) (val:Nat->Value) (a:Act):Prop where
 defers:a.defers=a0.defers
 size:a.tmps.size=a0.tmps.size
 old:∀ t,(∀ j,L j->dS ops j≠some t)->a.tmps[t]? =a0.tmps[t]?
 new:∀ j t,L j->dS ops j=some t->t<a0.tmps.size->a.tmps[t]? =some (val j)
theorem FK.start (a0:Act) (val:Nat->Value) {L:Nat->Prop} (hL:∀ j,¬L j):FK ops a0 L val a0:=⟨rfl,rfl,fun _ _=>rfl,fun j _ h=>(hL j h).elim⟩
theorem FK.put {a0 a:Act} {L L':Nat->Prop} {val:Nat->Value} (h:FK ops a0 L val a) (i:Nat) (hL:∀ j,L' j↔L j\/j=i) (hi:∀ j t,L j->dS ops j=some t->dS ops i≠some t):FK ops a0 L' val (a.put (dS ops i) (val i)):=by
 cases hd:dS ops i with
 | none=>
  refine⟨h.defers,h.size,fun t ht=>h.old t fun j hj=>ht j ((hL j).2 (.inl hj)),fun j t hj Rf JH=>?_⟩;rcases(hL j).1 hj with hj | rfl
  ·exact h.new j t hj Rf JH
  ·rw[hd]at Rf;cases Rf
 | some e=>
  refine⟨h.defers,by simp[Act.put,h.size],fun t ht=>?_,fun j t hj Rf JH=>?_⟩
  ·have hne:e≠t:=fun he=>ht i ((hL i).2 (.inr rfl)) (by rw[hd,he])
   simp only[Act.put,Array.getElem?_setIfInBounds_ne hne];exact h.old t fun j hj=>ht j ((hL j).2 (.inl hj))
  ·rcases(hL j).1 hj with hj | rfl
   ·have hne:e≠t:=fun he=>hi j t hj Rf (by rw[hd,he])
    simp only[Act.put,Array.getElem?_setIfInBounds_ne hne];exact h.new j t hj Rf JH
   ·rw[hd]at Rf;cases Rf
    simp only[Act.put];rw[Array.getElem?_setIfInBounds_self_of_lt (by rw[h.size];exact JH)]
theorem FK.agree {a0 a a':Act} {L L':Nat->Prop} {val val':Nat->Value} (h:FK ops a0 L val a) (h':FK ops a0 L' val' a') {t:Nat} (hj:∀ j,dS ops j=some t->((L j↔L' j)/\(L j->val j=val' j))):a.tmps[t]? =a'.tmps[t]? :=by
 by_cases hex:∃ j,L j/\dS ops j=some t
 ·obtain⟨j,h1,h2⟩:=hex
  obtain⟨h3,h4⟩:=hj j h2;rcases Nat.lt_or_ge t a0.tmps.size with hlt | Um
  ·rw[h.new j t h1 h2 hlt,h'.new j t (h3.1 h1) h2 hlt,h4 h1]
  ·rw[Array.getElem?_eq_none (by rw[h.size];exact Um),Array.getElem?_eq_none (by rw[h'.size];exact Um)]
 ·rw[h.old t fun j h1 h2=>hex ⟨j,h1,h2⟩,h'.old t fun j h1 h2=>hex ⟨j,((hj j h2).1).2 h1,h2⟩]
theorem rG {o:Oper} (hs:∀ cs b,o.op≠ .select cs b) {a a':Act} (h:∀ t,t∈o.looksAt ops->a.tmps[t]? =a'.tmps[t]?): execOp a.eval o=execOp a'.eval o/\Region.wanted o (yielded ops a.tmps)=Region.wanted o (yielded ops a'.tmps):=by
 constructor
 ·refine execOp_congr o hs fun x hx=>?_
  cases x with
  | tmp t=>
   have:=h t (List.mem_append_left _ (List.mem_filterMap.2 ⟨.tmp t,by simpa using hx,rfl⟩));simp[Act.eval,this]
  | _=>rfl
 ·unfold Region.wanted
  cases hg:o.guard with
  | none=>rfl
  | some gw=>
   obtain⟨g,want⟩:=gw;have hy:yielded ops a.tmps g=yielded ops a'.tmps g:=by
    unfold yielded;cases ht:(ops[g]?).bind (·.dst)with
    | none=>rfl
    | some t=>
     have:=h t (by simp[Oper.looksAt,hg,ht]);simp[this]
   simp only[hy]
structure uO (md:Region.Mode) (ops:Array Oper) (cr:Nat->Nat) (m:Nat):Prop where
 le:m<=ops.size
 sel:∀ (j:Nat) (o:Oper) cs b,ops[j]? =some o->o.op≠ .select cs b
 Co:∀ (i:Nat) (o:Oper),ops[i]? =some o->∀ e∈o.after,Region.binds md e=true->e.on<i
 sound:∀ (i:Nat) (o:Oper) (j:Nat),ops[i]? =some o->(cr i).testBit j=true->∃ e∈o.after,Region.binds md e=true/\(e.on=j\/(cr e.on).testBit j=true)
 looks:∀ (i:Nat) (o:Oper) (t j:Nat),i<m->ops[i]? =some o->t∈o.looksAt ops->dS ops j=some t->(j<i->(cr i).testBit j=true)/\(i<j->(cr j).testBit i=true)
 RG:∀ i j t,i<j->dS ops i=some t->dS ops j≠some t
 tail:∀ i j,m<=i->i<ops.size->j<i->(cr i).testBit j=true
theorem uO.Vu (ok:uO md ops cr m):∀ (i j:Nat) (o:Oper),ops[i]? =some o->(cr i).testBit j=true->j<i:=by
 intro i;induction i using Nat.strongRecOn with
 | ind i ih=>
  intro j o ho hj;obtain⟨e,he,hb,h⟩:=ok.sound i o j ho hj;have hlt:=ok.Co i o ho e he hb;rcases h with h | h
  ·omega
  ·have hes:e.on<ops.size:=by have:=(Array.getElem?_eq_some_iff.1 ho).1;omega
   have:=ih e.on hlt j _ (Array.getElem?_eq_getElem hes) h;omega
theorem uO.gh (ok:uO md ops cr m) (a0:Act) (val:Nat->Value):∀ i,FK ops a0 (fun j=>j<i) val (gh ops a0 val i)
 | 0=>FK.start a0 val fun j h=>by omega
 | i+1=>(ok.gh a0 val i).put i (fun j=>by constructor<;>intro h<;>omega) fun j t hj hd=>fun h=>ok.RG j i t hj hd h
theorem count_set:∀ (l:List Bool) (i:Nat),l[i]? =some false->(l.set i true).count false+1=l.count false
 | [],_,h=>by simp at h
 | b::l,0,h=>by
  simp only[List.getElem?_cons_zero,Option.some.injEq]at h;subst h;simp
 | b::l,i+1,h=>by
  simp only[List.getElem?_cons_succ]at h;have:=count_set l i h;simp only[List.set_cons_succ,List.count_cons];omega
variable {S:Nat→(Act→World→Prop)→Act→World→Prop} {Qn:Act→World→Prop}
structure zH (P:Program) (Cl:FuncId->Array Value->World->(Ending->World->Prop)->Prop) (Rd:Nat->FuncId->Array Value->Code->Code->World->(Ending->World->Prop)->Prop)
  (ops:Array Oper) (eff:Nat->Bool) (S:Nat->(Act->World->Prop)->Act->World->Prop):Prop where
 flt:∀ (i:Nat) (o:Oper) (K:Act->World->Prop) (a:Act) (w:World) (v:Value),ops[i]? =some o->eff i=false->Region.wanted o (yielded ops a.tmps)=true->aB P o a v w->K (a.put o.dst v) w->S i K a w
 eff:∀ (i:Nat) (o:Oper) (K:Act->World->Prop) (a:Act) (w:World),ops[i]? =some o->eff i=true->Region.wanted o (yielded ops a.tmps)=true->jo Cl Rd (fun v w'=>K (a.put o.dst v) w') ((execOp a.eval o).run P w)->S i K a w
 un:∀ (i:Nat) (o:Oper) (K:Act->World->Prop) (a:Act) (w:World),ops[i]? =some o->Region.wanted o (yielded ops a.tmps)=false->K (a.put o.dst undef) w->S i K a w
 mono:∀ (i:Nat) (K K':Act->World->Prop) (a:Act) (w:World),(∀ a w,K a w->K' a w)->S i K a w->S i K' a w
 Nf:∀ (post post':Value->World->Prop) (r:Result Next),(∀ v w,post v w->post' v w)->jo Cl Rd post r->jo Cl Rd post' r
theorem FM {listed:Array Bool} {j:Nat} (hj:j<listed.size):listed.getD j false=true\/listed.getD j true=false:=by simp[hj]
theorem yo (ok:uO md ops cr m) (so:zH P Cl Rd ops eff S):∀ (r k:Nat) (fuel:Nat) (listed:Array Bool) (a:Act) (w:World),m<=k->k+r=ops.size->r<=fuel->listed.size=ops.size->(∀ j,j<ops.size->(listed.getD j false=true↔j<k))-> sK S Qn (List.range' k r) a w->Nd S md ops Qn fuel listed a w:=by
 intro r;induction r with
 | zero=>
  intro k fuel listed a w hm hk hf hs hl h;have hnil:Region.ready md ops listed=[]:=by
   rw[List.eq_nil_iff_forall_not_mem];intro j hj;obtain⟨h1,o,ho,_⟩:=mem_ready.1 hj;have ZL:j<ops.size:=(Array.getElem?_eq_some_iff.1 ho).1;have h2:=(hl j ZL).2 (by omega);have Mp:j<listed.size:=by omega
   simp[Mp]at h1 h2;rw[h1]at h2;cases h2
  cases fuel with
  | zero=>exact⟨hnil,h⟩
  | succ fuel=>exact⟨fun _=>h,fun i hi=>by rw[hnil]at hi;cases hi⟩
 | succ r ih=>
  intro k fuel listed a w hm hk hf hs hl h;obtain⟨fuel,rfl⟩:∃ f,fuel=f+1:=⟨fuel-1,by omega⟩;have JI:k<ops.size:=by omega
  have Ng:∀ i,i∈Region.ready md ops listed↔i=k:=by
   intro i;rw[mem_ready];constructor
   ·rintro⟨h1,o,ho,hall⟩
    have RH:i<ops.size:=(Array.getElem?_eq_some_iff.1 ho).1;have iR:i<listed.size:=by omega
    have gW:¬listed.getD i false=true:=by simp[iR]at h1 ⊢;exact h1
    rw[hl i RH]at gW;by_cases hik:i=k
    ·exact hik
    ·exfalso
     obtain⟨e,he,hb,kh⟩:=ok.sound i o k ho (ok.tail i k (by omega) RH (by omega));have he1:=hall e he hb;have hes:=ok.Co i o ho e he hb;rw[hl e.on (by omega)]at he1;rcases kh with rfl | kh
     ·omega
     ·have:=ok.Vu e.on k _ (Array.getElem?_eq_getElem (by omega)) kh
      omega
   ·rintro rfl
    have iR:i<listed.size:=by omega
    have gW:¬listed.getD i false=true:=by rw[hl i JI];omega
    refine⟨by simp[iR]at gW ⊢;exact gW,_,Array.getElem?_eq_getElem JI,fun e he hb=>?_⟩;have hes:=ok.Co i _ (Array.getElem?_eq_getElem JI) e he hb;exact(hl e.on (by omega)).2 hes
  refine⟨fun hnil=>?_,fun i hi=>?_⟩
  ·have:=(Ng k).2 rfl
   rw[hnil]at this;cases this
  ·obtain rfl:=(Ng i).1 hi
   rw[List.range'_succ]at h;refine so.mono i _ _ a w (fun a' w' h'=>?_) h;refine ih (i+1) fuel _ a' w' (by omega) (by omega) (by omega) (by simpa using hs) (fun j hj=>?_) h';by_cases oY:i=j
   ·subst oY
    have:i<listed.size:=by omega
    simp[this]
   ·rw[getD_set_ne false oY,hl j hj];omega
end
end
section
open Go Go.RowKit
def ki (md:Region.Mode) (ops:Array Oper) (cr:List Nat) (m:Nat):Bool:=
 Region.noSelect ops&&decide (m<=ops.size)&&(List.range ops.size).all fun i=>match ops[i]? with
  | none=>true
  | some o=>decide (cr.getD i 0<2^i)&&(o.after.all fun e=> !Region.binds md e || decide (e.on<i))&&
   (List.range ops.size).all fun j=>
    (!(cr.getD i 0).testBit j || o.after.any fun e=>Region.binds md e&&(e.on==j || (cr.getD e.on 0).testBit j))&&
    (match dS ops j with
     | none=>true
     | some t=>(decide (j<=i) || !(dS ops i==some t))&&(!decide (i<m) || !(o.looksAt ops).contains t || ((!decide (j<i) || (cr.getD i 0).testBit j)&&(!decide (i<j) || (cr.getD j 0).testBit i))))&&
    (!(decide (m<=i)&&decide (j<i)) || (cr.getD i 0).testBit j)
theorem yq {md:Region.Mode} {ops:Array Oper} {cr:List Nat} {m:Nat} (h:ki md ops cr m=true):uO md ops (fun i=>cr.getD i 0) m:=by
 unfold ki at h;rw[Bool.and_eq_true,Bool.and_eq_true,List.all_eq_true]at h;obtain⟨⟨hs,hm⟩,hall⟩:=h
 have hi:∀ (i:Nat) (o:Oper),ops[i]? =some o->cr.getD i 0<2^i/\(∀ e∈o.after,Region.binds md e=true->e.on<i)/\
   ∀ j,j<ops.size->((cr.getD i 0).testBit j=true->∃ e∈o.after,Region.binds md e=true/\(e.on=j\/(cr.getD e.on 0).testBit j=true))/\
    (∀ t,dS ops j=some t->(j<=i\/dS ops i≠some t)/\(i<m->t∈o.looksAt ops->(j<i->(cr.getD i 0).testBit j=true)/\(i<j->(cr.getD j 0).testBit i=true)))/\
    (m<=i->j<i->(cr.getD i 0).testBit j=true):=by
  intro i o ho;have RH:i<ops.size:=(Array.getElem?_eq_some_iff.1 ho).1;have h1:=hall i (List.mem_range.2 RH);simp only[ho,Bool.and_eq_true,decide_eq_true_eq,List.all_eq_true,Array.all_eq_true_iff_forall_mem]at h1;obtain⟨⟨h1,h2⟩,h3⟩:=h1;refine⟨h1,fun e he hb=>?_,fun j hj=>?_⟩
  ·have:=h2 e he
   rw[hb]at this;simpa using this
  ·obtain⟨⟨h4,h5⟩,h6⟩:=h3 j (List.mem_range.2 hj)
   refine⟨fun hb=>?_,fun t ht=>?_,fun h7 h8=>?_⟩
   ·rw[hb,Bool.or_eq_true]at h4
    obtain⟨e,he,hx⟩:=Array.any_eq_true'.1 (h4.resolve_left (by decide));rw[Bool.and_eq_true,Bool.or_eq_true,beq_iff_eq]at hx;exact⟨e,he,hx.1,hx.2⟩
   ·rw[ht]at h5
    simp only[Bool.and_eq_true,Bool.or_eq_true,decide_eq_true_eq,Bool.not_eq_true',beq_eq_false_iff_ne,decide_eq_false_iff_not]at h5;refine⟨h5.1,fun h7 h8=>?_⟩;rcases h5.2 with(h9 | h9) | h9
    ·exact absurd h7 h9
    ·have:(o.looksAt ops).contains t=true:=List.contains_iff_mem.2 h8
     rw[h9]at this;cases this
    ·exact⟨fun h10=>h9.1.resolve_left (fun h=>h h10),fun h10=>h9.2.resolve_left (fun h=>h h10)⟩
   ·simp only[Bool.or_eq_true,Bool.not_eq_true',Bool.and_eq_false_iff,decide_eq_false_iff_not]at h6
    rcases h6 with(h6 | h6) | h6
    ·exact absurd h7 h6
    ·exact absurd h8 h6
    ·exact h6
 have hd:∀ j t,dS ops j=some t->j<ops.size:=fun j t h=>by
  rcases Nat.lt_or_ge j ops.size with h' | h'
  ·exact h'
  ·unfold dS at h;rw[Array.getElem?_eq_none h']at h;cases h
 have hlt:∀ (i:Nat) (o:Oper) (j:Nat),ops[i]? =some o->(cr.getD i 0).testBit j=true->j<i:=fun i o j ho hb=>by
  rcases Nat.lt_or_ge j i with h | h
  ·exact h
  ·rw[Nat.testBit_lt_two_pow (aw (hi i o ho).1 (Nat.pow_le_pow_right (by decide) h))]at hb;cases hb
 exact {
  le:=by simpa using hm
  sel:=fun j o cs b ho=>Region.noSelect_spec hs j o cs b ho
  Co:=fun i o ho=>(hi i o ho).2.1
  sound:=fun i o j ho hb=>((hi i o ho).2.2 j (by have:=hlt i o j ho hb;have:=(Array.getElem?_eq_some_iff.1 ho).1;omega)).1 hb
  looks:=fun i o t j Vv ho ht hj=>(((hi i o ho).2.2 j (hd j t hj)).2.1 t hj).2 Vv ht
  RG:=fun i j t oY h1 h2=>by
   obtain⟨o,ho⟩:∃ o,ops[i]? =some o:=⟨_,Array.getElem?_eq_getElem (hd i t h1)⟩;rcases(((hi i o ho).2.2 j (hd j t h2)).2.1 t h2).1 with h | h
   ·omega
   ·exact h h1
  tail:=fun i j h1 h2 h3=>((hi i _ (Array.getElem?_eq_getElem h2)).2.2 j (by omega)).2.2 h1 h3}
def gz:Nat->FuncId->Array Value->Code->Code->World->(Ending->World->Prop)->Prop:=fun _ _ _ _ _ _ _=>False
section
variable {P:Program} {ops:Array Oper} {Q:Exit→Act→World→Prop} {eff:Nat→Bool}
theorem Cp:zH P (Calls P) gz ops eff (wpOp P ops Q) where
 flt:=fun i o K a w v ho _ hw hf hK=>by
  unfold wpOp;simp only[ho,hw,if_true];refine .inl ?_;unfold Oper.wp;unfold aB at hf;rcases hf with hf | ⟨hf,rfl⟩<;>rw[hf]<;>exact hK
 eff:=fun i o K a w ho _ hw he=>by
  unfold wpOp;simp only[ho,hw,if_true];refine .inl ?_;unfold Oper.wp;generalize (execOp a.eval o).run P w=r at he;cases r with
  | halt x w=>exact he.elim
  | ok x w=>
   cases x<;>simp only[jo]at he<;>simp only[Oper.upon]
   case value v=>exact he
   case skip=>exact he
   case enter f args=>exact Calls.mono he fun e w' ⟨v,hv,hK⟩=>by subst hv;exact hK
   case round=>exact he.elim
 un:=fun i o K a w ho hw hK=>by
  unfold wpOp;simp only[ho,hw,Bool.false_eq_true,if_false];exact hK
 mono:=fun i K K' a w h hS=>wpOp_mono h hS
 Nf:=fun post post' r h he=>by
  cases r with
  | halt x w=>exact he.elim
  | ok x w=>
   cases x<;>simp only[jo]at he ⊢
   case value v=>exact h _ _ he
   case skip=>exact h _ _ he
   case enter f args=>exact Calls.mono he fun e w' ⟨v,hv,hK⟩=>⟨v,hv,h _ _ hK⟩
   case round=>exact he
theorem uP {md:Region.Mode} :∀ (fuel:Nat) (listed:Array Bool) (a:Act) (w:World),Nd (wpOp P ops Q) md ops (fun a w=>Q .normal a w) fuel listed a w->wpAny P md ops Q fuel listed a w
 | 0,_,_,_,h=>h
 | fuel+1,_,_,_,h=>⟨h.1,fun i hi=>wpOp_mono (fun a w h=>uP fuel _ a w h) (h.2 i hi)⟩
theorem yr:∀ (l:List Nat) (a:Act) (w:World),(∀ i∈l,i<ops.size)->wpOps P ops Q l a w->sK (wpOp P ops Q) (fun a w=>Q .normal a w) l a w
 | [],_,_,_,h=>h
 | i::l,a,w,hl,h=>by
  rw[wpOps_cons]at h;exact wpOp_mono (fun a w h=>yr l a w (fun j hj=>hl j (cd _ hj)) h) h
end
section
variable {P:Program} {Cl:FuncId→Array Value→World→(Ending→World→Prop)→Prop} {Rd:Nat→FuncId→Array Value→Code→Code→World→(Ending→World→Prop)→Prop}
  {ops:Array Oper} {eff:Nat→Bool} {cr:Nat→Nat} {M:World→World→Prop} {EP:Nat→aR M} {C:World→Prop} {Fin:List Oper→Act→World→Prop}
theorem bu {f:FuncId} {args:Array Value} {W:World} {post:Value->World->Prop} (h:Cl f args W fun e w'=>∃ v,e=.returned v/\post v w'):jo Cl Rd post (.ok (.enter f args) W):=h
end
def aR.oB (M:World->World->Prop) (x:Value):aR M:=⟨fun v=>v=x,fun _ _=>True,x,rfl,fun _ _ _ _ _ _=>trivial⟩
def aR.any (M:World->World->Prop):aR M:=⟨fun _=>True,fun _ _=>True,undef,trivial,fun _ _ _ _ _ _=>trivial⟩
theorem Move.Vw {d:Bool} {T:Nat->Prop} {W W':World} (h:Ext W W'):Move d T W W':=Move.ext h
theorem Move.ai {T:Nat->Prop} {W W':World} (h:aa W W'):Move false T W W':=⟨ae.ai h fun _ hk=>hk.1,fun h=>by cases h⟩
theorem Move.keeps {d:Bool} {T:Nat->Prop} {W W':World} (h:Move d T W W'):ae (fun k=>k<W.heap.size/\¬T k) W W':=h.1
theorem Move.below {d:Bool} {W W':World} (h:Move d (fun _=>False) W W'):aa W W':=(h.1.mono fun _ hk=>⟨hk,fun h=>h⟩:ae (· <W.heap.size) W W').below
theorem Move.size {d:Bool} {T:Nat->Prop} {W W':World} (h:Move d T W W'):W.heap.size<=W'.heap.size:=h.1.size
end
end Go.Proofs.YtpcmhjbehdgdbaaGreatDoor
namespace Go.Proofs.YtpcmhjbehdgdbaaGreatDoor.RegG
open Go Go.RowKit
structure aR (M:World->World->Prop) where
 P:Value->Prop
 H:Value->Value->World->Prop
 mo:Value
 pw:P mo
 st:∀ x v W W',M W W'->P v->H x v W->H x v W'
def aR.oB (M:World->World->Prop) (x:Value):aR M:=⟨fun v=>v=x,fun _ _ _=>True,x,rfl,fun _ _ _ _ _ _ _=>trivial⟩
def aR.any (M:World->World->Prop):aR M:=⟨fun _=>True,fun _ _ _=>True,undef,trivial,fun _ _ _ _ _ _ _=>trivial⟩
def eV (s:Option Tmp) (a:Act):Value:=match s with | none=>undef | some t=>a.tmps[t]?.getD undef
theorem sL {s:Option Tmp} {a a':Act} (h:∀ t,s=some t->a.tmps[t]? =a'.tmps[t]?):eV s a=eV s a':=by
 cases s with
 | none=>rfl
 | some t=>unfold eV;simp only;rw[h t rfl]
def Cq (ops:Array Oper) (cr:List Nat) (on:Nat->Option Tmp):Bool:=(List.range ops.size).all fun j=>(List.range j).all fun k=>match on j with
 | some t=> !(dS ops k==some t) || (cr.getD j 0).testBit k
 | none=>true
theorem Cr {ops:Array Oper} {cr:List Nat} {on:Nat->Option Tmp} (hz:∀ j,ops.size<=j->on j=none) (h:Cq ops cr on=true):∀ (j t k:Nat),on j=some t->dS ops k=some t->k<j->(cr.getD j 0).testBit k=true:=fun j t k ht hk hkj=>by
 unfold Cq at h;have hj:j<ops.size:=by
  rcases Nat.lt_or_ge j ops.size with h' | h'
  ·exact h'
  ·rw[hz j h']at ht;cases ht
 have:=List.all_eq_true.1 (List.all_eq_true.1 h j (List.mem_range.2 hj)) k (List.mem_range.2 hkj);rw[ht,hk]at this;simpa using this
end Go.Proofs.YtpcmhjbehdgdbaaGreatDoor.RegG
namespace Go.Proofs.YtpcmhjbehdgdbaaGreatDoor.RegZ
open Go Go.RowKit
def RI:Value->Option Nat
 | .pointer (some ⟨b,_,_⟩)=>some b
 | .slice (some ⟨b,_,_⟩) _ _=>some b
 | _=>none
def Ip (W:World) (v:Value) (W':World):Prop:=∃ b,RI v=some b/\W.heap.size<=b/\b<W'.heap.size
def ZM (b:Bool) (F G:Prop):Prop:=match b with | true=>F/\G | false=>G
theorem RJ {F G:Prop} :∀ {b:Bool},ZM b F G->G
 | true,h=>h.2
 | false,h=>h
theorem RM {F G:Prop} {b:Bool} (hb:b=true) (h:ZM b F G):F:=by subst hb;exact h.1
def j3 (al:Nat->Bool) (m:Nat) (val:Nat->Value):Prop:=∀ j k,j<m->k<m->al j=true->al k=true->j≠k->RI (val j)≠RI (val k)
structure uQ (al:Nat->Bool) (L:Nat->Prop) (val:Nat->Value) (W:World):Prop where
 old:∀ j,L j->al j=true->∃ b,RI (val j)=some b/\b<W.heap.size
 ne:∀ j k,L j->L k->al j=true->al k=true->j≠k->RI (val j)≠RI (val k)
theorem uQ.skip {al:Nat->Bool} {L L':Nat->Prop} {val:Nat->Value} {W:World} {i:Nat} (h:uQ al L val W) (hi:al i=false) (hL:∀ j,L' j->L j\/j=i):uQ al L' val W:=by
 have key:∀ j,L' j->al j=true->L j:=fun j hj ha=>(hL j hj).resolve_right fun e=>by subst e;rw[hi]at ha;cases ha
 exact⟨fun j hj ha=>h.old j (key j hj ha) ha,fun j k hj hk h1 h2 h3=>h.ne j k (key j hj h1) (key k hk h2) h1 h2 h3⟩
theorem uQ.step {al:Nat->Bool} {L L':Nat->Prop} {val val':Nat->Value} {W W':World} {i:Nat} (h:uQ al L val W) (hs:(∃ j,al j=true)->W.heap.size<=W'.heap.size) (hL:∀ j,L' j->L j\/j=i) (hv:∀ j,L j->val' j=val j) (hn:al i=true->Ip W (val' i) W'):uQ al L' val' W':=by
 have key:∀ j,L j->al j=true->∃ b,RI (val' j)=some b/\b<W.heap.size:=fun j hj ha=>by rw[hv j hj];exact h.old j hj ha
 refine⟨fun j hj ha=>?_,fun j k hj hk h1 h2 h3=>?_⟩
 ·rcases hL j hj with hj | rfl
  ·obtain⟨b,e,hb⟩:=key j hj ha
   exact⟨b,e,aw hb (hs ⟨j,ha⟩)⟩
  ·obtain⟨b,e,_,hb⟩:=hn ha
   exact⟨_,e,hb⟩
 ·rcases hL j hj with hj | rfl
  ·rcases hL k hk with hk | rfl
   ·rw[hv j hj,hv k hk];exact h.ne j k hj hk h1 h2 h3
   ·obtain⟨b,e,hb⟩:=key j hj h1
    obtain⟨c,e2,hc,_⟩:=hn h2;rw[e,e2];intro e3;injection e3 with e3
    omega
  ·rcases hL k hk with hk | rfl
   ·obtain⟨b,e,hb⟩:=key k hk h2
    obtain⟨c,e2,hc,_⟩:=hn h1;rw[e,e2];intro e3;injection e3 with e3
    omega
   ·exact absurd rfl h3
section
variable {P:Program} {Cl:FuncId→Array Value→World→(Ending→World→Prop)→Prop} {Rd:Nat→FuncId→Array Value→Code→Code→World→(Ending→World→Prop)→Prop}
  {ops:Array Oper} {eff:Nat→Bool} {cr:Nat→Nat} {M:World→World→Prop} {on:Nat→Option Tmp} {EP:Nat→RegG.aR M} {C:World→Prop} {D:Nat→World→Prop} {al:Nat→Bool} {md:Region.Mode} {m:Nat}
def dh (P:Program) (Cl:FuncId->Array Value->World->(Ending->World->Prop)->Prop) (Rd:Nat->FuncId->Array Value->Code->Code->World->(Ending->World->Prop)->Prop) (ops:Array Oper) (fS:Bool) (m:Nat) (s:Option Tmp) (E:RegG.aR M) (C:World->Prop) (D:Nat->World->Prop) (al:Nat->Bool) (o:Oper) (k:Nat) (aY:List (Nat× (World->Prop))) (a:Act) (K:List (Nat× (World->Prop))->Act->Prop):Prop:=
 if Region.wanted o (yielded ops a.tmps)then
  if fS then(∀ W,C W->D k W->needs m aY W->jo Cl Rd (fun v W'=>ZM (al k) (Ip W v W') ((M W W'/\∀ j,j≠k->m.testBit j=false->D j W->D j W')/\E.P v/\E.H (RegG.eV s a) v W')) ((execOp a.eval o).run P W))/\∀ v,E.P v->K ((k,E.H (RegG.eV s a) v)::aY) (a.put o.dst v)
  else ∃ v,(∀ W,C W->needs m aY W->aB P o a v W)/\K aY (a.put o.dst v)
 else K aY (a.put o.dst undef)
def Nh (P:Program) (Cl:FuncId->Array Value->World->(Ending->World->Prop)->Prop) (Rd:Nat->FuncId->Array Value->Code->Code->World->(Ending->World->Prop)->Prop) (ops:Array Oper) (eff:Nat->Bool) (cr:Nat->Nat) (on:Nat->Option Tmp) (EP:Nat->RegG.aR M) (C:World->Prop) (D:Nat->World->Prop) (al:Nat->Bool) (Fin:Act->World->Prop):List Oper->Nat->List (Nat× (World->Prop))->Act->Prop
 | [],_,aY,a=>∀ W,C W->(∀ x∈aY,x.2 W)->Fin a W
 | o::rest,k,aY,a=>dh P Cl Rd ops (eff k) (cr k) (on k) (EP k) C D al o k aY a (Nh P Cl Rd ops eff cr on EP C D al Fin rest (k+1))
def rF (ops:Array Oper) (eff:Nat->Bool) (cr:Nat->Nat) (on:Nat->Option Tmp) (EP:Nat->RegG.aR M) (a:Act) (val:Nat->Value) (i:Nat) (W:World):Prop:=
 ∀ j,j<i->wantedAt ops a val j->eff j=true->(cr i).testBit j=true->(EP j).H (RegG.eV (on j) (gh ops a val j)) (val j) W
def xC (P:Program) (Cl:FuncId->Array Value->World->(Ending->World->Prop)->Prop) (Rd:Nat->FuncId->Array Value->Code->Code->World->(Ending->World->Prop)->Prop) (ops:Array Oper) (fS:Bool) (m:Nat) (s:Option Tmp) (E:RegG.aR M) (C:World->Prop) (D:Nat->World->Prop) (al:Nat->Bool) (k:Nat) (o:Oper) (f:Act) (v uv:Value) (N:World->Prop):Prop:=
 if Region.wanted o (yielded ops f.tmps)then
  if fS then v=uv/\∀ W,C W->D k W->N W->jo Cl Rd (fun v W'=>ZM (al k) (Ip W v W') ((M W W'/\∀ j,j≠k->m.testBit j=false->D j W->D j W')/\E.P v/\E.H (RegG.eV s f) v W')) ((execOp f.eval o).run P W)
  else ∀ W,C W->N W->aB P o f v W
 else v=undef
def zI (P:Program) (Cl:FuncId->Array Value->World->(Ending->World->Prop)->Prop) (Rd:Nat->FuncId->Array Value->Code->Code->World->(Ending->World->Prop)->Prop) (ops:Array Oper) (eff:Nat->Bool) (cr:Nat->Nat) (on:Nat->Option Tmp) (EP:Nat->RegG.aR M) (C:World->Prop) (D:Nat->World->Prop) (al:Nat->Bool) (a:Act) (u val:Nat->Value) (i:Nat):Prop:=
 ∀ o,ops[i]? =some o->xC P Cl Rd ops (eff i) (cr i) (on i) (EP i) C D al i o (gh ops a val i) (val i) (u i) (rF ops eff cr on EP a val i)
theorem oX {a:Act} {val val':Nat->Value} {i:Nat} (h:∀ k,k<i->val k=val' k):rF ops eff cr on EP a val i=rF ops eff cr on EP a val' i:=by
 funext W
 unfold rF;refine propext (forall_congr' fun j=>forall_congr' fun hj=>?_);rw[jq (val':=val') fun k hk=>h k (by omega),fw j fun k hk=>h k (by omega),h j hj]
theorem FN {a:Act} {u val val':Nat->Value} {i:Nat} (h:∀ k,k<=i->val k=val' k) (hb:zI P Cl Rd ops eff cr on EP C D al a u val i):zI P Cl Rd ops eff cr on EP C D al a u val' i:=fun o ho=>by
 have:=hb o ho;rwa[fw i fun k hk=>h k (by omega),oX fun k hk=>h k (by omega),h i (aD _)]at this
theorem branch {Fin:Act->World->Prop} {a:Act} {u:Nat->Value} (hu:∀ j,(EP j).P (u j)):∀ (l:List Oper) (k:Nat) (val:Nat->Value) (aY:List (Nat× (World->Prop))), k+l.length=m->(∀ j,j<l.length->l[j]? =ops[k+j]?)->(∀ x∈aY,∃ j,j<k/\wantedAt ops a val j/\eff j=true/\x.1=j/\x.2=(EP j).H (RegG.eV (on j) (gh ops a val j)) (val j))-> (∀ i,i<k->zI P Cl Rd ops eff cr on EP C D al a u val i)->Nh P Cl Rd ops eff cr on EP C D al Fin l k aY (gh ops a val k)-> ∃ val',(∀ i,i<m->zI P Cl Rd ops eff cr on EP C D al a u val' i)/\∀ W,C W->(∀ j,j<m->wantedAt ops a val' j->eff j=true->(EP j).H (RegG.eV (on j) (gh ops a val' j)) (val' j) W)->Fin (gh ops a val' m) W
 | [],k,val,aY,hk,_,hh,hb,h=>by
  obtain rfl:k=m:=by simpa using hk
  refine⟨val,hb,fun W hW hN=>h W hW fun x hx=>?_⟩;obtain⟨j,hj,hw,he,_,hx2⟩:=hh x hx;rw[hx2];exact hN j hj hw he
 | o::l,k,val,aY,hk,hl,hh,hb,h=>by
  have ho:ops[k]? =some o:=by simpa using(hl 0 (by simp)).symm
  have step:∀ (v:Value) (Iq:List (Nat× (World->Prop))),xC P Cl Rd ops (eff k) (cr k) (on k) (EP k) C D al k o (gh ops a val k) v (u k) (rF ops eff cr on EP a val k)->
    (∀ x∈Iq,x∈aY\/(Region.wanted o (yielded ops (gh ops a val k).tmps)=true/\eff k=true/\x.1=k/\x.2=(EP k).H (RegG.eV (on k) (gh ops a val k)) v))->Nh P Cl Rd ops eff cr on EP C D al Fin l (k+1) Iq ((gh ops a val k).put o.dst v)->
    ∃ val',(∀ i,i<m->zI P Cl Rd ops eff cr on EP C D al a u val' i)/\∀ W,C W->(∀ j,j<m->wantedAt ops a val' j->eff j=true->(EP j).H (RegG.eV (on j) (gh ops a val' j)) (val' j) W)->Fin (gh ops a val' m) W:=by
   intro v Iq ry hh' ht;obtain⟨JK,Un⟩:=ah (fun j=>if j=k then v else val j:Nat->Value);have e1:∀ j,j<k->val j=JK j:=fun j hj=>by rw[Un];simp[show j≠k by omega]
   have ek:JK k=v:=by rw[Un];simp
   refine branch hu l (k+1) JK Iq (by simp at hk;omega) (fun j hj=>?_) (fun x hx=>?_) (fun i hi=>?_) ?_
   ·have:=hl (j+1) (by simp;omega)
    rw[List.getElem?_cons_succ]at this;rw[this];congr 1;omega
   ·rcases hh' x hx with hx | ⟨h1,h2,h3,h4⟩
    ·obtain⟨j,hj,hw,he,h1,h2⟩:=hh x hx
     exact⟨j,by omega,(jq fun i hi=>e1 i (by omega)).1 hw,he,h1,by rw[h2,e1 j hj,fw j fun i hi=>e1 i (by omega)]⟩
    ·exact⟨k,by omega,⟨o,ho,by rw[<-fw k e1];exact h1⟩,h2,h3,by rw[h4,ek,fw k e1]⟩
   ·by_cases hik:i=k
    ·subst hik
     intro o' Mo;rw[ho]at Mo;cases Mo;rw[<-fw i e1,ek, <-oX e1];exact ry
    ·exact FN (fun j hj=>e1 j (by omega)) (hb i (by omega))
   ·have:gh ops a JK (k+1)=(gh ops a val k).put o.dst v:=by
     show(gh ops a JK k).put (dS ops k) (JK k)=_;rw[<-fw k e1,ek];unfold dS;rw[ho];rfl
    rw[this];exact ht
  have Ni:∀ W,rF ops eff cr on EP a val k W->needs (cr k) aY W:=fun W hN x hx hm=>by
   obtain⟨j,hj,hw,he,h1,h2⟩:=hh x hx;rw[h2];rw[h1]at hm;exact hN j hj hw he hm
  unfold Nh dh at h;split at h
  ·rename_i hw
   split at h
   ·rename_i he
    refine step (u k) _ ?_ ?_ (h.2 (u k) (hu k))
    ·unfold xC;rw[if_pos hw,if_pos he];exact⟨rfl,fun W hW hD hN=>h.1 W hW hD (Ni W hN)⟩
    ·intro x hx
     rcases List.mem_cons.1 hx with rfl | hx
     ·exact .inr ⟨hw,he,rfl,rfl⟩
     ·exact .inl hx
   ·rename_i he
    obtain⟨v,h1,h2⟩:=h;refine step v _ ?_ (fun x hx=>.inl hx) h2;unfold xC;rw[if_pos hw,if_neg he];exact fun W hW hN=>h1 W hW (Ni W hN)
  ·rename_i hw
   refine step undef _ ?_ (fun x hx=>.inl hx) h;unfold xC;rw[if_neg hw]
variable {S:Nat→(Act→World→Prop)→Act→World→Prop} {Qn:Act→World→Prop}
theorem Cs (mq:∀ (i:Nat) (o:Oper),ops[i]? =some o->al i=true->eff i=true/\∀ y,Region.wanted o y=true) (ZN:(∃ j,al j=true)->∀ A B,M A B->A.heap.size<=B.heap.size) (ok:uO md ops cr m) (so:zH P Cl Rd ops eff S) (hO:∀ (j t k:Nat),on j=some t->dS ops k=some t->k<j->(cr j).testBit k=true) (hCm:∀ W W',C W->M W W'->C W') {a0:Act} (hT:∀ u:Nat->Value,(∀ j,(EP j).P (u j))->∃ val,(∀ i,i<m->zI P Cl Rd ops eff cr on EP C D al a0 u val i)/\∀ W,C W->(∀ j,j<m->wantedAt ops a0 val j->eff j=true->(EP j).H (RegG.eV (on j) (gh ops a0 val j)) (val j) W)->j3 al m val->sK S Qn (List.range' m (ops.size-m)) (gh ops a0 val m) W): ∀ (fuel:Nat) (listed:Array Bool) (a:Act) (W:World),listed.size=ops.size->listed.toList.count false<=fuel->C W-> (∀ i j,listed.getD i false=true->(cr i).testBit j=true->listed.getD j false=true)->(∀ i,m<=i->listed.getD i false=false)->(∀ i,¬listed.getD i false=true->i<m->D i W)-> (∃ u val,(∀ j,(EP j).P (u j))/\(∀ i,i<m->zI P Cl Rd ops eff cr on EP C D al a0 u val i)/\ (∀ W,C W->(∀ j,j<m->wantedAt ops a0 val j->eff j=true->(EP j).H (RegG.eV (on j) (gh ops a0 val j)) (val j) W)->j3 al m val->sK S Qn (List.range' m (ops.size-m)) (gh ops a0 val m) W)/\ (∀ j,listed.getD j false=true->wantedAt ops a0 val j->eff j=true->(EP j).H (RegG.eV (on j) (gh ops a0 val j)) (val j) W)/\FK ops a0 (fun j=>listed.getD j false=true) val a/\uQ al (fun j=>listed.getD j false=true) val W)-> Nd S md ops Qn fuel listed a W:=by
 intro fuel;induction fuel with
 | zero=>
  intro listed a W hs hc hC sM Fj jN hex
  -- nothing is left
  obtain⟨u,val,hu,hb,qo,hH,oC,hold⟩:=hex;have hall:∀ j,j<ops.size->listed.getD j false=true:=fun j hj=>by
   rcases FM (listed:=listed) (j:=j) (by omega)with h | h
   ·exact h
   ·have h0:listed.toList.count false=0:=by omega
    rw[List.count_eq_zero]at h0;have Mp:j<listed.size:=by omega
    refine absurd ?_ h0;have:listed[j]=false:=by simpa[Mp]using h
    rw[<-this];exact Array.getElem_mem_toList Mp
  have hm:m=ops.size:=by
   rcases Nat.lt_or_ge m ops.size with h | h
   ·have h1:=hall m h;rw[Fj m (aD _)]at h1;cases h1
   ·have:=ok.le;omega
  have hae:a=gh ops a0 val m:=by
   have h2:=ok.gh a0 val m;have:a.tmps=(gh ops a0 val m).tmps:=Array.ext_getElem? fun t=>oC.agree h2 fun j hj=>by
    have ZL:j<ops.size:=by
     rcases Nat.lt_or_ge j ops.size with h | h
     ·exact h
     ·unfold dS at hj;rw[Array.getElem?_eq_none h]at hj;cases hj
    exact⟨⟨fun _=>by omega,fun _=>hall j ZL⟩,fun _=>rfl⟩
   cases a
   have hd:=oC.defers.trans h2.defers.symm;cases hf:gh ops a0 val m;rw[hf]at this hd;simp only at this hd;rw[this,hd]
  refine yo ok so 0 ops.size 0 listed a W (by omega) (by omega) (aD _) hs (fun j hj=>⟨fun _=>hj,fun _=>hall j hj⟩) ?_;have:=qo W hC (fun j hj=>hH j (hall j (by omega))) fun j k hj hk=>hold.ne j k (hall j (by omega)) (hall k (by omega))
  rw[hae];rw[hm,Nat.sub_self]at this;rw[hm];exact this
 | succ fuel ih=>
  intro listed a W hs hc hC sM Fj jN hex;obtain⟨u,val,hu,hb,qo,hH,oC,hold⟩:=hex;by_cases hall:∀ j,j<m->listed.getD j false=true
  ·have hae:a=gh ops a0 val m:=by
    have h2:=ok.gh a0 val m;have:a.tmps=(gh ops a0 val m).tmps:=Array.ext_getElem? fun t=>oC.agree h2 fun j hj=>by
     refine⟨⟨fun hj'=>?_,fun hj'=>hall j hj'⟩,fun _=>rfl⟩;rcases Nat.lt_or_ge j m with h | h
     ·exact h
     ·rw[Fj j h]at hj';cases hj'
    cases a
    have hd:=oC.defers.trans h2.defers.symm;cases hf:gh ops a0 val m;rw[hf]at this hd;simp only at this hd;rw[this,hd]
   have Vx:ops.size-m<=fuel+1:=by
    refine Nat.le_trans ?_ hc;have h1:(listed.toList.drop m).count false=(listed.toList.drop m).length:=by
     rw[List.count_eq_length];intro b hb';obtain⟨k,hk,rfl⟩:=List.getElem_of_mem hb';rw[List.getElem_drop];have pT:m+k<listed.size:=by simp at hk;omega
     have:=Fj (m+k) (by omega);simp[pT]at this;simp[this]
    have h2:(listed.toList.drop m).count false<=listed.toList.count false:=List.Sublist.count_le _ (List.drop_sublist _ _);rw[h1]at h2;simp at h2 ⊢;omega
   refine yo ok so (ops.size-m) m (fuel+1) listed a W (aD _) (by have:=ok.le;omega) Vx hs (fun j hj=>⟨fun h=>?_,fun h=>hall j h⟩) ?_
   ·rcases Nat.lt_or_ge j m with h' | h'
    ·exact h'
    ·rw[Fj j h']at h;cases h
   ·rw[hae];exact qo W hC (fun j hj=>hH j (hall j hj)) fun j k hj hk=>hold.ne j k (hall j hj) (hall k hk)
  ·-- some operation of the free part is still to come
   have hex:∃ j,j<m/\¬listed.getD j false=true:=by refine Classical.byContradiction fun hno=>hall fun j hj=>Classical.byContradiction fun hn=>hno ⟨j,hj,hn⟩
   refine⟨fun hnil=>?_,fun i hi=>?_⟩
   ·exfalso
    -- the first of them is ready
    have key:∀ k,k<m->¬listed.getD k false=true->False:=by
     intro k;induction k using Nat.strongRecOn with
     | ind k ihk=>
      intro hk hn;have JI:k<ops.size:=by have:=ok.le;omega
      have Ct:k<listed.size:=by omega
      have:k∈Region.ready md ops listed:=by rw[mem_ready];refine⟨by simp[Ct]at hn ⊢;exact hn,_,Array.getElem?_eq_getElem JI,fun e he hb'=>?_⟩;have hes:=ok.Co k _ (Array.getElem?_eq_getElem JI) e he hb';exact Classical.byContradiction fun h=>ihk e.on hes (by omega) h
      rw[hnil]at this;cases this
    obtain⟨j,hj,hn⟩:=hex;exact key j hj hn
   ·obtain⟨h1,o,ho,Nj⟩:=mem_ready.1 hi
    have RH:i<ops.size:=(Array.getElem?_eq_some_iff.1 ho).1;have iR:i<listed.size:=by omega
    have l4:¬listed.getD i false=true:=by simp[iR]at h1 ⊢;exact h1
    have FP:∀ j,(cr i).testBit j=true->listed.getD j false=true:=fun j hj=>by
     obtain⟨e,he,hb',kh⟩:=ok.sound i o j ho hj;rcases kh with rfl | kh
     ·exact Nj e he hb'
     ·exact sM e.on j (Nj e he hb') kh
    have Vv:i<m:=by
     rcases Nat.lt_or_ge i m with h | h
     ·exact h
     ·exfalso
      obtain⟨j,hj,hn⟩:=hex;exact hn (FP j (ok.tail i j h RH (by omega)))
    have aeo:dS ops i=o.dst:=by unfold dS;rw[ho];rfl
    -- the frame where it looks
    have yt:∀ t,t∈o.looksAt ops->a.tmps[t]? =(gh ops a0 val i).tmps[t]? :=fun t ht=>oC.agree (ok.gh a0 val i) fun j hj=>by
     obtain⟨k1,k2⟩:=ok.looks i o t j Vv ho ht hj;refine⟨⟨fun Mp=>?_,fun lY=>FP j (k1 lY)⟩,fun _=>rfl⟩;rcases Nat.lt_trichotomy j i with h | h | h
     ·exact h
     ·subst h;exact absurd Mp l4
     ·exact absurd (sM j i Mp (k2 h)) l4
    obtain⟨ZO,Vy⟩:=rG (ok.sel i o · · ho) yt;have hN:rF ops eff cr on EP a0 val i W:=fun j _ hw he ha=>hH j (FP j ha) hw he
    have Uo:=hb i Vv o ho
    -- what follows
    have hs':(listed.setIfInBounds i true).size=ops.size:=by simpa using hs
    have hc':(listed.setIfInBounds i true).toList.count false<=fuel:=by rw[Array.toList_setIfInBounds];have:=count_set listed.toList i (by simp[iR]at h1;simp[iR,h1]);omega
    have rH:∀ j,(listed.setIfInBounds i true).getD j false=true↔(listed.getD j false=true\/j=i):=fun j=>by
     by_cases oY:i=j
     ·subst oY;simp[iR]
     ·rw[getD_set_ne false oY]
      constructor
      ·exact .inl
      ·rintro(h | h)
       ·exact h
       ·exact absurd h.symm oY
    have FQ:∀ k j,(listed.setIfInBounds i true).getD k false=true->(cr k).testBit j=true->(listed.setIfInBounds i true).getD j false=true:=fun k j hk hj=>by
     rw[rH]at hk ⊢;rcases hk with hk | rfl
     ·exact .inl (sM k j hk hj)
     ·exact .inl (FP j hj)
    have Vz:∀ k,m<=k->(listed.setIfInBounds i true).getD k false=false:=fun k hk=>by
     rw[getD_set_ne false (by omega)];exact Fj k hk
    have hput:∀ (val':Nat->Value),(∀ j,listed.getD j false=true->val' j=val j)->FK ops a0 (fun j=>(listed.setIfInBounds i true).getD j false=true) val' (a.put o.dst (val' i)):=fun val' hv=>by
     have h0:FK ops a0 (fun j=>listed.getD j false=true) val' a:=⟨oC.defers,oC.size,oC.old,fun j t h1 h2 h3=>by rw[hv j h1];exact oC.new j t h1 h2 h3⟩;have:=h0.put (L':=fun j=>(listed.setIfInBounds i true).getD j false=true) i rH fun j t g1 g2 g3=>by
      rcases Nat.lt_trichotomy j i with h | h | h
      ·exact ok.RG j i t h g2 g3
      ·exact l4 (h▸g1)
      ·exact ok.RG i j t h g3 g2
     rwa[aeo]at this
    unfold xC at Uo;by_cases hw:Region.wanted o (yielded ops (gh ops a0 val i).tmps)=true
    ·rw[if_pos hw]at Uo
     cases he:eff i with
     | false=>
      rw[he,if_neg (by decide)]at Uo;have BP:=Uo W hC hN;unfold aB at BP;rw[<-ZO]at BP;refine so.flt i o _ a W (val i) ho he (by rw[Vy];exact hw) BP ?_;refine ih _ _ W hs' hc' hC FQ Vz (fun j hj Fk=>jN j (fun h=>hj ((rH j).2 (.inl h))) Fk) ⟨u,val,hu,hb,qo,fun j hj RP uN=>?_,hput val fun _ _=>rfl,hold.skip (Bool.eq_false_iff.2 fun ha=>by rw[(mq i o ho ha).1]at he;cases he) fun j hj=>(rH j).1 hj⟩;rcases(rH j).1 hj with hj | rfl
      ·exact hH j hj RP uN
      ·rw[he]at uN;cases uN
     | true=>
      rw[he,if_pos rfl]at Uo;have hef:=Uo.2 W hC (jN i l4 Vv) hN;rw[<-ZO]at hef;refine so.eff i o _ a W ho he (by rw[Vy];exact hw) (so.Nf _ _ _ (fun v W' ZP=>?_) hef);obtain⟨⟨Nk,hDv⟩,hPv,hHv⟩:=RJ ZP
      -- another branch
      obtain⟨u',VA⟩:=ah (fun j=>if j=i then v else u j:Nat->Value);have hu':∀ j,(EP j).P (u' j):=fun j=>by
       rw[VA];show(EP j).P (if j=i then v else u j);split
       ·rename_i h;subst h;exact hPv
       ·exact hu j
      obtain⟨val',hb',ZQ⟩:=hT u' hu';have Cg:=hCm W W' hC Nk;have Cu:∀ j,listed.getD j false=true->val' j=val j/\(wantedAt ops a0 val' j↔wantedAt ops a0 val j)/\RegG.eV (on j) (gh ops a0 val' j)=RegG.eV (on j) (gh ops a0 val j):=by
       intro j;induction j using Nat.strongRecOn with
       | ind j ihj=>
        intro hj;have Fk:j<m:=by
         rcases Nat.lt_or_ge j m with h | h
         ·exact h
         ·rw[Fj j h]at hj;cases hj
        have ZL:j<ops.size:=by have:=ok.le;omega
        have xy:=Array.getElem?_eq_getElem ZL;obtain⟨oj,uM⟩:∃ oj,ops[j]? =some oj:=⟨_,xy⟩;have hlk:∀ t,t∈oj.looksAt ops->(gh ops a0 val' j).tmps[t]? =(gh ops a0 val j).tmps[t]? :=fun t ht=>(ok.gh a0 val' j).agree (ok.gh a0 val j) fun k hk=>by
         refine⟨Iff.rfl,fun hkj=>(ihj k hkj ?_).1⟩;exact sM j k hj ((ok.looks j oj t k Fk uM ht hk).1 hkj)
        obtain⟨he1,ZR⟩:=rG (ok.sel j oj · · uM) hlk;have ZT:wantedAt ops a0 val' j↔wantedAt ops a0 val j:=by
         unfold wantedAt;constructor
         ·rintro⟨o1,h1,h2⟩
          rw[uM]at h1;cases h1;exact⟨oj,uM,by rw[<-ZR];exact h2⟩
         ·rintro⟨o1,h1,h2⟩
          rw[uM]at h1;cases h1;exact⟨oj,uM,by rw[ZR];exact h2⟩
        refine⟨?_,ZT,RegG.sL fun t ht=>(ok.gh a0 val' j).agree (ok.gh a0 val j) fun k hk=>⟨Iff.rfl,fun hkj=>(ihj k hkj (sM j k hj (hO j t k ht hk hkj))).1⟩⟩;have b1:=hb j Fk oj uM;have b2:=hb' j Fk oj uM;unfold xC at b1 b2;rw[ZR]at b2;by_cases RP:Region.wanted oj (yielded ops (gh ops a0 val j).tmps)=true
        ·rw[if_pos RP]at b1 b2
         cases uN:eff j with
         | true=>
          rw[uN,if_pos rfl]at b1 b2;have lY:j≠i:=fun h=>by subst h;exact l4 hj
          rw[b1.1,b2.1,VA];simp[lY]
         | false=>
          rw[uN,if_neg (by decide)]at b1 b2;have n1:rF ops eff cr on EP a0 val j W':=fun k hk hwk JF hak=>by
           have Ct:=sM j k hj hak;have hPk:(EP k).P (val k):=by have bk:=hb k (by omega);obtain⟨ok',ry,aeq⟩:=hwk;have:=bk ok' ry;unfold xC at this;rw[if_pos aeq,JF,if_pos rfl]at this;rw[this.1];exact hu k
           exact(EP k).st _ _ W W' Nk hPk (hH k Ct hwk JF)
          have n2:rF ops eff cr on EP a0 val' j W':=fun k hk hwk JF hak=>by
           obtain⟨s1,s2,s3⟩:=ihj k hk (sM j k hj hak);rw[s1,s3];exact n1 k hk (s2.1 hwk) JF hak
          have f1:=b1 W' Cg n1;have f2:=b2 W' Cg n2;unfold aB at f1 f2;rw[he1]at f2;rcases f1 with f1 | ⟨f1,g1⟩<;>rcases f2 with f2 | ⟨f2,g2⟩<;>rw[f1]at f2
          ·injection f2 with f2 _;injection f2 with f2;exact f2.symm
          ·injection f2 with f2 _;cases f2
          ·injection f2 with f2 _;cases f2
          ·rw[g1,g2]
        ·rw[if_neg RP]at b1 b2
         rw[b1,b2]
      have aer:RegG.eV (on i) (gh ops a0 val' i)=RegG.eV (on i) (gh ops a0 val i):=RegG.sL fun t ht=>(ok.gh a0 val' i).agree (ok.gh a0 val i) fun k hk=>
        ⟨Iff.rfl,fun eT=>(Cu k (FP k (hO i t k ht hk eT))).1⟩
      have hvi:val' i=v:=by
       have b2:=hb' i Vv o ho;have hlk:∀ t,t∈o.looksAt ops->(gh ops a0 val' i).tmps[t]? =(gh ops a0 val i).tmps[t]? :=fun t ht=>(ok.gh a0 val' i).agree (ok.gh a0 val i) fun k hk=>
        ⟨Iff.rfl,fun eT=>(Cu k (FP k ((ok.looks i o t k Vv ho ht hk).1 eT))).1⟩
       obtain⟨_,ZR⟩:=rG (ok.sel i o · · ho) hlk;unfold xC at b2;rw[ZR,if_pos hw,he,if_pos rfl]at b2;rw[b2.1,VA];simp
      have:=hput val' fun j hj=>(Cu j hj).1
      rw[hvi]at this;refine ih _ _ W' hs' hc' Cg FQ Vz (fun j hj Fk=>hDv j (fun e=>hj ((rH j).2 (.inr e))) (Bool.eq_false_iff.2 fun e=>hj ((rH j).2 (.inl (FP j e)))) (jN j (fun h=>hj ((rH j).2 (.inl h))) Fk)) ⟨u',val',hu',hb',ZQ,fun j hj RP uN=>?_,this,hold.step (fun h=>ZN h _ _ Nk) (fun j hj=>(rH j).1 hj) (fun j hj=>(Cu j hj).1) (fun ha=>by rw[hvi];exact RM ha ZP)⟩;rcases(rH j).1 hj with hj | rfl
      ·obtain⟨s1,s2,s3⟩:=Cu j hj
       have ZU:=s2.1 RP;have hPj:(EP j).P (val j):=by
        have Fk:j<m:=by
         rcases Nat.lt_or_ge j m with h | h
         ·exact h
         ·rw[Fj j h]at hj;cases hj
        obtain⟨oj,xy,VB⟩:=ZU;have:=hb j Fk oj xy;unfold xC at this;rw[if_pos VB,uN,if_pos rfl]at this;rw[this.1];exact hu j
       rw[s1,s3];exact(EP j).st _ _ W W' Nk hPj (hH j hj ZU uN)
      ·rw[hvi,aer];exact hHv
    ·rw[if_neg hw]at Uo
     have hwf:Region.wanted o (yielded ops a.tmps)=false:=by rw[Vy];simpa using hw
     refine so.un i o _ a W ho hwf ?_;have h0:=hput val fun _ _=>rfl
     rw[Uo]at h0;refine ih _ _ W hs' hc' hC FQ Vz (fun j hj Fk=>jN j (fun h=>hj ((rH j).2 (.inl h))) Fk) ⟨u,val,hu,hb,qo,fun j hj RP uN=>?_,h0,hold.skip (Bool.eq_false_iff.2 fun ha=>hw ((mq i o ho ha).2 _)) fun j hj=>(rH j).1 hj⟩;rcases(rH j).1 hj with hj | rfl
     ·exact hH j hj RP uN
     ·obtain⟨oj,xy,VB⟩:=RP
      rw[ho]at xy;cases xy;exact absurd VB hw
end
section
variable {P:Program} {Cl:FuncId→Array Value→World→(Ending→World→Prop)→Prop} {Rd:Nat→FuncId→Array Value→Code→Code→World→(Ending→World→Prop)→Prop}
  {ops:Array Oper} {eff:Nat→Bool} {cr:Nat→Nat} {M:World→World→Prop} {on:Nat→Option Tmp} {EP:Nat→RegG.aR M} {C:World→Prop} {D:Nat→World→Prop} {al:Nat→Bool} {Fin:List Oper→Act→World→Prop}
def gU (P:Program) (Cl:FuncId->Array Value->World->(Ending->World->Prop)->Prop) (Rd:Nat->FuncId->Array Value->Code->Code->World->(Ending->World->Prop)->Prop) (ops:Array Oper) (eff:Nat->Bool) (cr:Nat->Nat) (on:Nat->Option Tmp) (EP:Nat->RegG.aR M) (C:World->Prop) (D:Nat->World->Prop) (al:Nat->Bool) (Fin:List Oper->Act->World->Prop):Nat->List Oper->Nat->List (Nat× (World->Prop))->Act->Prop
 | 0,l,_,aY,a=>∀ W,C W->(∀ x∈aY,x.2 W)->Fin l a W
 | _+1,[],_,_,_=>False
 | m+1,o::rest,k,aY,a=>dh P Cl Rd ops (eff k) (cr k) (on k) (EP k) C D al o k aY a (gU P Cl Rd ops eff cr on EP C D al Fin m rest (k+1))
theorem FT {fS:Bool} {m:Nat} {s:Option Tmp} {E:RegG.aR M} {o:Oper} {k:Nat} {aY:List (Nat× (World->Prop))} {a:Act} {K K':List (Nat× (World->Prop))->Act->Prop} (h:∀ hi a,K hi a->K' hi a) (hh:dh P Cl Rd ops fS m s E C D al o k aY a K):dh P Cl Rd ops fS m s E C D al o k aY a K':=by
 unfold dh at*;split
 ·rename_i hw
  rw[if_pos hw]at hh;split
  ·rename_i he
   rw[if_pos he]at hh;exact⟨hh.1,fun v hv=>h _ _ (hh.2 v hv)⟩
  ·rename_i he
   rw[if_neg he]at hh;obtain⟨v,h1,h2⟩:=hh;exact⟨v,h1,h _ _ h2⟩
 ·rename_i hw
  rw[if_neg hw]at hh;exact h _ _ hh
theorem lj:∀ (m:Nat) (l:List Oper) (k:Nat) (aY:List (Nat× (World->Prop))) (a:Act),gU P Cl Rd ops eff cr on EP C D al Fin m l k aY a->Nh P Cl Rd ops eff cr on EP C D al (Fin (l.drop m)) (l.take m) k aY a
 | 0,l,_,_,_,h=>by rw[List.take_zero,List.drop_zero];exact h
 | m+1,[],_,_,_,h=>h.elim
 | m+1,o::l,k,aY,a,h=>by
  rw[List.take_succ_cons,List.drop_succ_cons];exact FT (fun hi a h=>lj m l (k+1) hi a h) h
theorem ak {m:Nat} {o:Oper} {rest:List Oper} {k:Nat} {aY:List (Nat× (World->Prop))} {a:Act} (h:∀ K:List (Nat× (World->Prop))->Act->Prop,(∀ hi a,eJ (gU P Cl Rd ops eff cr on EP C D al Fin m rest (k+1) hi a)->K hi a)->dh P Cl Rd ops (eff k) (cr k) (on k) (EP k) C D al o k aY a K):eJ (gU P Cl Rd ops eff cr on EP C D al Fin (m+1) (o::rest) k aY a):=
 ⟨h _ fun _ _ h=>h.out⟩
theorem cg {l:List Oper} {k:Nat} {aY:List (Nat× (World->Prop))} {a:Act} (h:∀ W,C W->(∀ x∈aY,x.2 W)->Fin l a W):eJ (gU P Cl Rd ops eff cr on EP C D al Fin 0 l k aY a):=⟨h⟩
theorem bV {fS:Bool} {m:Nat} {s:Option Tmp} {E:RegG.aR M} {o:Oper} {k:Nat} {aY:List (Nat× (World->Prop))} {a:Act} {K:List (Nat× (World->Prop))->Act->Prop} (he:fS=false) (hw:Region.wanted o (yielded ops a.tmps)=true) (h:∃ v,(∀ W: {W//C W},aB P o a v W.1)/\K aY (a.put o.dst v)):dh P Cl Rd ops fS m s E C D al o k aY a K:=by subst he;unfold dh;rw[if_pos hw,if_neg (by decide)];obtain⟨v,h1,h2⟩:=h;exact⟨v,fun W hW _=>h1 ⟨W,hW⟩,h2⟩
theorem gJ {fS:Bool} {m:Nat} {s:Option Tmp} {E:RegG.aR M} {o:Oper} {k:Nat} {aY:List (Nat× (World->Prop))} {a:Act} {K:List (Nat× (World->Prop))->Act->Prop} (he:fS=false) (hw:Region.wanted o (yielded ops a.tmps)=true) (v:Value) (h1:∀ W,C W->needs m aY W->aB P o a v W) (h2:K aY (a.put o.dst v)):dh P Cl Rd ops fS m s E C D al o k aY a K:=by subst he;unfold dh;rw[if_pos hw,if_neg (by decide)];exact⟨v,h1,h2⟩
theorem bS {fS:Bool} {m:Nat} {s:Option Tmp} {E:RegG.aR M} {o:Oper} {k:Nat} {aY:List (Nat× (World->Prop))} {a:Act} {K:List (Nat× (World->Prop))->Act->Prop} (he:fS=true) (hw:Region.wanted o (yielded ops a.tmps)=true) (E':RegG.aR M) (hE:E=E') (h1:∀ W,C W->D k W->needs m aY W->jo Cl Rd (fun v W'=>ZM (al k) (Ip W v W') ((M W W'/\∀ j,j≠k->m.testBit j=false->D j W->D j W')/\E'.P v/\E'.H (RegG.eV s a) v W')) ((execOp a.eval o).run P W)) (h2:∀ v,E'.P v->K ((k,E'.H (RegG.eV s a) v)::aY) (a.put o.dst v)):dh P Cl Rd ops fS m s E C D al o k aY a K:=by subst he hE;unfold dh;rw[if_pos hw,if_pos rfl];exact⟨h1,h2⟩
theorem cQ {fS:Bool} {m:Nat} {s:Option Tmp} {E:RegG.aR M} {o:Oper} {k:Nat} {aY:List (Nat× (World->Prop))} {a:Act} {K:List (Nat× (World->Prop))->Act->Prop} (hw:Region.wanted o (yielded ops a.tmps)=false) (h:K aY (a.put o.dst undef)):dh P Cl Rd ops fS m s E C D al o k aY a K:=by unfold dh;rw[hw,if_neg (by decide)];exact h
end
def Nl (ops:Array Oper) (eff:Nat->Bool) (al:List Nat) (m:Nat):Bool:=
 al.all fun i=>decide (i<m)&&eff i&&match ops[i]? with
  | none=>false
  | some o=>o.guard.isNone
theorem kC {ops:Array Oper} {eff:Nat->Bool} {al:List Nat} {m:Nat} (h:Nl ops eff al m=true) (i:Nat) (hi:al.contains i=true):i<m/\eff i=true/\∃ o,ops[i]? =some o/\o.guard=none:=by
 have h1:=List.all_eq_true.1 h i (List.contains_iff_mem.1 hi);simp only[Bool.and_eq_true,decide_eq_true_eq]at h1;obtain⟨⟨h1,h2⟩,h3⟩:=h1;refine⟨h1,h2,?_⟩;split at h3
 ·cases h3
 ·rename_i o ho
  exact⟨o,ho,Option.isNone_iff_eq_none.1 h3⟩
def Nn (ops:Array Oper) (al:List Nat) (a:Act):Prop:=∀ i j s t u v,al.contains i=true->al.contains j=true->i≠j->dS ops i=some s->dS ops j=some t->s<a.tmps.size->t<a.tmps.size->a.tmps[s]? =some u->a.tmps[t]? =some v->RI u≠RI v
theorem mI {P:Program} {id:Nat} {Q:Exit->Act->World->Prop} {a:Act} {w:World} {l:List Oper} (M:World->World->Prop) (hd:M w w.drew) (Np:∀ A B C,M A B->M B C->M A C) (hm:P.follows .mixedOrders=true) (m:Nat) (cr:List Nat) (eff:Nat->Bool) (hB:ki .any l.toArray cr m=true) (on:Nat->Option Tmp) (hz:∀ j,l.toArray.size<=j->on j=none) (hO:RegG.Cq l.toArray cr on=true) (EP:Nat->RegG.aR M) (D:Nat->World->Prop) (ZV:∀ j,j<m->D j w.drew) (al:List Nat) (JL:Nat->Bool) (hA:Nl l.toArray eff al m=true) (hf:∀ j,JL j=al.contains j) (ZN:(∃ j,JL j=true)->∀ A B,M A B->A.heap.size<=B.heap.size) (Fin:List Oper->Act->World->Prop) (hF:∀ r a W,Nn l.toArray al a->Fin r a W->wpList P l.toArray Q r a W) (h:∀ C:World->Prop,(∀ W,C W↔M w W)->Nonempty {W//C W} ->eJ (gU P (Calls P) gz l.toArray eff (fun i=>cr.getD i 0) on EP C D JL Fin m l 0 [] a)):(Code.region id l.toArray true).wp P Q a w:=by
 have ok:=yq hB;have h0:M w w.drew:=hd;have hT:=lj m l 0 [] a (h (M w) (fun _=>Iff.rfl) ⟨⟨_,h0⟩⟩).out;have uq:m<=l.length:=by have:=ok.le;simpa using this
 have hbr:∀ u:Nat->Value,(∀ j,(EP j).P (u j))->∃ val,(∀ i,i<m->zI P (Calls P) gz l.toArray eff (fun i=>cr.getD i 0) on EP (M w) D JL a u val i)/\
   ∀ W,M w W->(∀ j,j<m->wantedAt l.toArray a val j->eff j=true->(EP j).H (RegG.eV (on j) (gh l.toArray a val j)) (val j) W)->j3 JL m val->sK (wpOp P l.toArray Q) (fun a w=>Q .normal a w) (List.range' m (l.toArray.size-m)) (gh l.toArray a val m) W:=fun u hu=>by
  obtain⟨val,h1,h2⟩:=branch (ops:=l.toArray) (m:=m) (a:=a) hu (l.take m) 0 (fun _=>undef) [] (by rw[List.length_take];omega) (fun j hj=>by rw[List.length_take]at hj;simp[List.getElem?_take];omega) (fun x hx=>by cases hx) (fun i hi=>by omega) hT;refine⟨val,h1,fun W hW hN hap=>yr _ _ _ (fun i hi=>?_) ?_⟩
  ·have:=(List.mem_range'.1 hi)
   obtain⟨k,hk,rfl⟩:=this;simp only[List.size_toArray]at*;omega
  ·have:=wpOps_eq_wpList (P:=P) (ops:=l.toArray) (Q:=Q) (l.drop m) m (fun j=>by simp[List.getElem?_drop])
   rw[List.length_drop]at this;simp only[List.size_toArray];rw[this];refine hF _ _ _ (fun i j s t u v hi hj oY hs ht h3 h4 h5 h6=>?_) (h2 W hW hN);have oC:=ok.gh a val m;rw[oC.size]at h3 h4;have VC:=(kC hA i hi).1;have fC:=(kC hA j hj).1;rw[oC.new i s VC hs h3]at h5;rw[oC.new j t fC ht h4]at h6;cases h5;cases h6;exact hap i j VC fC (by rw[hf];exact hi) (by rw[hf];exact hj) oY
 have hno:∀ j,(Array.replicate l.toArray.size false).getD j false=false:=fun j=>by
  rcases Nat.lt_or_ge j l.length with h | h
  ·simp[h]
  ·simp[Nat.not_lt.2 h]
 refine wp_region_any hm (uP _ _ _ _ ?_)
 refine Cs (eff:=eff) (on:=on) (EP:=EP) (C:=M w) (D:=D) (al:=JL) (fun i o ho ha=>by
  obtain⟨_,h1,o',Mo,hg⟩:=kC hA i (by rw[<-hf];exact ha);rw[ho]at Mo;cases Mo
  exact⟨h1,fun y=>by unfold Region.wanted;rw[hg]⟩) ZN ok Cp (RegG.Cr hz hO) (fun W W' h h'=>Np _ _ _ h h') (a0:=a) hbr _ _ _ _ (by simp) (by simp) h0 (fun i j hi=>by rw[hno]at hi;cases hi) (fun i _=>hno i) (fun i _ hi=>ZV i hi) ?_
 obtain⟨val,h1,h2⟩:=hbr (fun j=>(EP j).mo) (fun j=>(EP j).pw);exact⟨_,val,fun j=>(EP j).pw,h1,h2,fun j hj=>by(rw[hno]at hj;cases hj),FK.start a _ (fun j hj=>by(rw[hno]at hj;cases hj)),⟨fun j hj=>by(rw[hno]at hj;cases hj),fun j _ hj=>by(rw[hno]at hj;cases hj)⟩⟩
end Go.Proofs.YtpcmhjbehdgdbaaGreatDoor.RegZ
namespace Go.Proofs.YtpcmhjbehdgdbaaGreatDoor
open Go Go.RowKit
theorem yu {P:Program} {p q:Value->World->Prop} (h:∀ v W,p v W->q v W):∀ {r:Result Next},jo (Calls P) gz p r->jo (Calls P) gz q r
 | .ok (.value _) _,hr=>h _ _ hr
 | .ok .skip _,hr=>h _ _ hr
 | .ok (.enter _ _) _,hr=>Calls.mono hr fun _ _ ⟨v,e,hv⟩=>⟨v,e,h _ _ hv⟩
 | .ok (.round _ _ _ _ _) _,hr=>nomatch hr
end Go.Proofs.YtpcmhjbehdgdbaaGreatDoor
namespace Go.Proofs.YtpcmhjbehdgdbaaGreatDoor.RegQ
open Go Go.RowKit
def up {M:World->World->Prop} (E:aR M):RegG.aR M:=⟨E.P,fun _=>E.H,E.mo,E.pw,fun _ v W W'=>E.st v W W'⟩
def gU {M:World->World->Prop} (P:Program) (Cl:FuncId->Array Value->World->(Ending->World->Prop)->Prop) (Rd:Nat->FuncId->Array Value->Code->Code->World->(Ending->World->Prop)->Prop) (ops:Array Oper) (eff:Nat->Bool) (cr:Nat->Nat) (EP:Nat->aR M) (C:World->Prop) (D:Nat->World->Prop) (Fin:List Oper->Act->World->Prop) (n:Nat) (l:List Oper) (k:Nat) (aY:List (Nat× (World->Prop))) (a:Act):Prop:=
 RegZ.gU P Cl Rd ops eff cr (fun _=>none) (fun i=>up (EP i)) C D (fun _=>false) Fin n l k aY a
def dh {M:World->World->Prop} (P:Program) (Cl:FuncId->Array Value->World->(Ending->World->Prop)->Prop) (Rd:Nat->FuncId->Array Value->Code->Code->World->(Ending->World->Prop)->Prop) (ops:Array Oper) (fS:Bool) (m:Nat) (E:aR M) (C:World->Prop) (D:Nat->World->Prop) (o:Oper) (k:Nat) (aY:List (Nat× (World->Prop))) (a:Act) (K:List (Nat× (World->Prop))->Act->Prop):Prop:=
 RegZ.dh P Cl Rd ops fS m none (up E) C D (fun _=>false) o k aY a K
section
variable {P:Program} {Cl:FuncId→Array Value→World→(Ending→World→Prop)→Prop} {Rd:Nat→FuncId→Array Value→Code→Code→World→(Ending→World→Prop)→Prop}
  {ops:Array Oper} {eff:Nat→Bool} {cr:Nat→Nat} {M:World→World→Prop} {on:Nat→Option Tmp} {EP:Nat→aR M} {C:World→Prop} {D:Nat→World→Prop} {Fin:List Oper→Act→World→Prop} {fS:Bool} {m:Nat} {s:Option Tmp} {E:aR M} {o:Oper} {k:Nat} {aY:List (Nat× (World→Prop))} {a:Act} {K:List (Nat× (World→Prop))→Act→Prop} {l:List Oper}
theorem ak (h:∀ K:List (Nat× (World->Prop))->Act->Prop,(∀ hi a,eJ (gU P Cl Rd ops eff cr EP C D Fin m l (k+1) hi a)->K hi a)->dh P Cl Rd ops (eff k) (cr k) (EP k) C D o k aY a K):eJ (gU P Cl Rd ops eff cr EP C D Fin (m+1) (o::l) k aY a):=
 ⟨(RegZ.ak (D:=D) (al:=fun _=>false) (on:=(fun _=>none)) fun K hK=>h K fun hi a hl=>hK hi a ⟨hl.out⟩).out⟩
theorem cg (h:∀ W,C W->(∀ x∈aY,x.2 W)->Fin l a W):eJ (gU P Cl Rd ops eff cr EP C D Fin 0 l k aY a):=⟨h⟩
theorem bV (he:fS=false) (hw:Region.wanted o (yielded ops a.tmps)=true) (h:∃ v,(∀ W: {W//C W},aB P o a v W.1)/\K aY (a.put o.dst v)):dh P Cl Rd ops fS m E C D o k aY a K:=RegZ.bV he hw h
theorem gJ (he:fS=false) (hw:Region.wanted o (yielded ops a.tmps)=true) (v:Value) (h1:∀ W,C W->needs m aY W->aB P o a v W) (h2:K aY (a.put o.dst v)):dh P Cl Rd ops fS m E C D o k aY a K:=RegZ.gJ he hw v h1 h2
theorem bS (he:fS=true) (hw:Region.wanted o (yielded ops a.tmps)=true) (E':aR M) (hE:E=E') (h1:∀ W,C W->D k W->needs m aY W->jo Cl Rd (fun v W'=>(M W W'/\∀ j,j≠k->m.testBit j=false->D j W->D j W')/\E'.P v/\E'.H v W') ((execOp a.eval o).run P W)) (h2:∀ v,E'.P v->K ((k,E'.H v)::aY) (a.put o.dst v)):dh P Cl Rd ops fS m E C D o k aY a K:=
 RegZ.bS (al:=fun _=>false) (s:=none) he hw (up E') (by rw[hE]) h1 h2
theorem cQ (hw:Region.wanted o (yielded ops a.tmps)=false) (h:K aY (a.put o.dst undef)):dh P Cl Rd ops fS m E C D o k aY a K:=RegZ.cQ hw h
end
theorem ck {P:Program} {id:Nat} {Q:Exit->Act->World->Prop} {a:Act} {w:World} {l:List Oper} (M:World->World->Prop) (hd:M w w.drew) (Np:∀ A B C,M A B->M B C->M A C) (hm:P.follows .mixedOrders=true) (m:Nat) (cr:List Nat) (eff:Nat->Bool) (hB:ki .any l.toArray cr m=true) (EP:Nat->aR M) (D:Nat->World->Prop) (ZV:∀ j,j<m->D j w.drew) (h:∀ C:World->Prop,(∀ W,C W↔M w W)->Nonempty {W//C W} ->eJ (gU P (Calls P) gz l.toArray eff (fun i=>cr.getD i 0) EP C D (fun r a W=>wpList P l.toArray Q r a W) m l 0 [] a)):(Code.region id l.toArray true).wp P Q a w:=
 RegZ.mI M hd Np hm m cr eff hB (fun _=>none) (fun _ _=>rfl) (List.all_eq_true.2 fun _ _=>List.all_eq_true.2 fun _ _=>rfl) (fun i=>up (EP i)) D ZV [] (fun _=>false) rfl (fun _=>rfl) (fun h=>by obtain⟨_,h⟩:=h;cases h) _ (fun _ _ _ _ h=>h) fun C hC hne=>⟨(h C hC hne).out⟩
end Go.Proofs.YtpcmhjbehdgdbaaGreatDoor.RegQ
namespace Go.Proofs.YtpcmhjbehdgdbaaGreatDoor.RegG
open Go Go.RowKit
def gU {M:World->World->Prop} (P:Program) (Cl:FuncId->Array Value->World->(Ending->World->Prop)->Prop) (Rd:Nat->FuncId->Array Value->Code->Code->World->(Ending->World->Prop)->Prop) (ops:Array Oper) (eff:Nat->Bool) (cr:Nat->Nat) (on:Nat->Option Tmp) (EP:Nat->aR M) (C:World->Prop) (Fin:List Oper->Act->World->Prop) (n:Nat) (l:List Oper) (k:Nat) (aY:List (Nat× (World->Prop))) (a:Act):Prop:=
 RegZ.gU P Cl Rd ops eff cr on EP C (fun _ _=>True) (fun _=>false) Fin n l k aY a
def dh {M:World->World->Prop} (P:Program) (Cl:FuncId->Array Value->World->(Ending->World->Prop)->Prop) (Rd:Nat->FuncId->Array Value->Code->Code->World->(Ending->World->Prop)->Prop) (ops:Array Oper) (fS:Bool) (m:Nat) (s:Option Tmp) (E:aR M) (C:World->Prop) (o:Oper) (k:Nat) (aY:List (Nat× (World->Prop))) (a:Act) (K:List (Nat× (World->Prop))->Act->Prop):Prop:=
 RegZ.dh P Cl Rd ops fS m s E C (fun _ _=>True) (fun _=>false) o k aY a K
section
variable {P:Program} {Cl:FuncId→Array Value→World→(Ending→World→Prop)→Prop} {Rd:Nat→FuncId→Array Value→Code→Code→World→(Ending→World→Prop)→Prop}
  {ops:Array Oper} {eff:Nat→Bool} {cr:Nat→Nat} {M:World→World→Prop} {on:Nat→Option Tmp} {EP:Nat→aR M} {C:World→Prop} {D:Nat→World→Prop} {Fin:List Oper→Act→World→Prop} {fS:Bool} {m:Nat} {s:Option Tmp} {E:aR M} {o:Oper} {k:Nat} {aY:List (Nat× (World→Prop))} {a:Act} {K:List (Nat× (World→Prop))→Act→Prop} {l:List Oper}
theorem ak (h:∀ K:List (Nat× (World->Prop))->Act->Prop,(∀ hi a,eJ (gU P (Calls P) gz ops eff cr on EP C Fin m l (k+1) hi a)->K hi a)->dh P (Calls P) gz ops (eff k) (cr k) (on k) (EP k) C o k aY a K):eJ (gU P (Calls P) gz ops eff cr on EP C Fin (m+1) (o::l) k aY a):=
 ⟨(RegZ.ak (D:=(fun _ _=>True)) (al:=fun _=>false) (on:=on) fun K hK=>h K fun hi a hl=>hK hi a ⟨hl.out⟩).out⟩
theorem cg (h:∀ W,C W->(∀ x∈aY,x.2 W)->Fin l a W):eJ (gU P (Calls P) gz ops eff cr on EP C Fin 0 l k aY a):=⟨h⟩
theorem bV (he:fS=false) (hw:Region.wanted o (yielded ops a.tmps)=true) (h:∃ v,(∀ W: {W//C W},aB P o a v W.1)/\K aY (a.put o.dst v)):dh P (Calls P) gz ops fS m s E C o k aY a K:=RegZ.bV he hw h
theorem bS (he:fS=true) (hw:Region.wanted o (yielded ops a.tmps)=true) (E':aR M) (hE:E=E') (h1:∀ W,C W->needs m aY W->jo (Calls P) gz (fun v W'=>M W W'/\E'.P v/\E'.H (eV s a) v W') ((execOp a.eval o).run P W)) (h2:∀ v,E'.P v->K ((k,E'.H (eV s a) v)::aY) (a.put o.dst v)):dh P (Calls P) gz ops fS m s E C o k aY a K:=
 RegZ.bS (al:=fun _=>false) he hw E' hE (fun W hW _ hN=>yu (fun _ _ ⟨h1,h2⟩=>⟨⟨h1,fun _ _ _ _=>trivial⟩,h2⟩) (h1 W hW hN)) h2
end
theorem ck {P:Program} {id:Nat} {Q:Exit->Act->World->Prop} {a:Act} {w:World} {l:List Oper} (M:World->World->Prop) (hd:M w w.drew) (Np:∀ A B C,M A B->M B C->M A C) (hm:P.follows .mixedOrders=true) (m:Nat) (cr:List Nat) (eff:Nat->Bool) (hB:ki .any l.toArray cr m=true) (on:Nat->Option Tmp) (hz:∀ j,l.toArray.size<=j->on j=none) (hO:Cq l.toArray cr on=true) (EP:Nat->aR M) (h:∀ C:World->Prop,(∀ W,C W↔M w W)->Nonempty {W//C W} ->eJ (gU P (Calls P) gz l.toArray eff (fun i=>cr.getD i 0) on EP C (fun r a W=>wpList P l.toArray Q r a W) m l 0 [] a)):(Code.region id l.toArray true).wp P Q a w:=
 RegZ.mI M hd Np hm m cr eff hB on hz hO EP (fun _ _=>True) (fun _ _=>trivial) [] (fun _=>false) rfl (fun _=>rfl) (fun h=>by obtain⟨_,h⟩:=h;cases h) _ (fun _ _ _ _ h=>h) fun C hC hne=>⟨(h C hC hne).out⟩
end Go.Proofs.YtpcmhjbehdgdbaaGreatDoor.RegG
namespace Go.Proofs.YtpcmhjbehdgdbaaGreatDoor
open Go Go.RowKit
section
variable {P:Program} {ops:Array Oper} {eff:Nat→Bool} {cr:Nat→Nat} {M:World→World→Prop} {EP:Nat→aR M} {C:World→Prop} {Fin:List Oper→Act→World→Prop}
def gU (P:Program) (Cl:FuncId->Array Value->World->(Ending->World->Prop)->Prop) (Rd:Nat->FuncId->Array Value->Code->Code->World->(Ending->World->Prop)->Prop) (ops:Array Oper) (eff:Nat->Bool) (cr:Nat->Nat) (EP:Nat->aR M) (C:World->Prop) (Fin:List Oper->Act->World->Prop) (n:Nat) (l:List Oper) (k:Nat) (aY:List (Nat× (World->Prop))) (a:Act):Prop:=
 RegQ.gU P Cl Rd ops eff cr EP C (fun _ _=>True) Fin n l k aY a
def dh (P:Program) (Cl:FuncId->Array Value->World->(Ending->World->Prop)->Prop) (Rd:Nat->FuncId->Array Value->Code->Code->World->(Ending->World->Prop)->Prop) (ops:Array Oper) (fS:Bool) (m:Nat) (E:aR M) (C:World->Prop) (o:Oper) (k:Nat) (aY:List (Nat× (World->Prop))) (a:Act) (K:List (Nat× (World->Prop))->Act->Prop):Prop:=
 RegQ.dh P Cl Rd ops fS m E C (fun _ _=>True) o k aY a K
theorem ak {m:Nat} {o:Oper} {rest:List Oper} {k:Nat} {aY:List (Nat× (World->Prop))} {a:Act} (h:∀ K:List (Nat× (World->Prop))->Act->Prop,(∀ hi a,eJ (gU P (Calls P) gz ops eff cr EP C Fin m rest (k+1) hi a)->K hi a)->dh P (Calls P) gz ops (eff k) (cr k) (EP k) C o k aY a K):eJ (gU P (Calls P) gz ops eff cr EP C Fin (m+1) (o::rest) k aY a):=
 ⟨(RegQ.ak (D:=fun _ _=>True) fun K hK=>h K fun hi a hl=>hK hi a ⟨hl.out⟩).out⟩
theorem cg {l:List Oper} {k:Nat} {aY:List (Nat× (World->Prop))} {a:Act} (h:∀ W,C W->(∀ x∈aY,x.2 W)->Fin l a W):eJ (gU P (Calls P) gz ops eff cr EP C Fin 0 l k aY a):=⟨h⟩
theorem bV {fS:Bool} {m:Nat} {E:aR M} {o:Oper} {k:Nat} {aY:List (Nat× (World->Prop))} {a:Act} {K:List (Nat× (World->Prop))->Act->Prop} (he:fS=false) (hw:Region.wanted o (yielded ops a.tmps)=true) (h:∃ v,(∀ W: {W//C W},aB P o a v W.1)/\K aY (a.put o.dst v)):dh P (Calls P) gz ops fS m E C o k aY a K:=RegQ.bV he hw h
theorem gJ {fS:Bool} {m:Nat} {E:aR M} {o:Oper} {k:Nat} {aY:List (Nat× (World->Prop))} {a:Act} {K:List (Nat× (World->Prop))->Act->Prop} (he:fS=false) (hw:Region.wanted o (yielded ops a.tmps)=true) (v:Value) (h1:∀ W,C W->needs m aY W->aB P o a v W) (h2:K aY (a.put o.dst v)):dh P (Calls P) gz ops fS m E C o k aY a K:=RegQ.gJ he hw v h1 h2
theorem bS {fS:Bool} {m:Nat} {E:aR M} {o:Oper} {k:Nat} {aY:List (Nat× (World->Prop))} {a:Act} {K:List (Nat× (World->Prop))->Act->Prop} (he:fS=true) (hw:Region.wanted o (yielded ops a.tmps)=true) (E':aR M) (hE:E=E') (h1:∀ W,C W->needs m aY W->jo (Calls P) gz (fun v W'=>M W W'/\E'.P v/\E'.H v W') ((execOp a.eval o).run P W)) (h2:∀ v,E'.P v->K ((k,E'.H v)::aY) (a.put o.dst v)):dh P (Calls P) gz ops fS m E C o k aY a K:=
 RegQ.bS he hw E' hE (fun W hW _ hN=>yu (fun _ _ ⟨h1,h2⟩=>⟨⟨h1,fun _ _ _ _=>trivial⟩,h2⟩) (h1 W hW hN)) h2
theorem cQ {fS:Bool} {m:Nat} {E:aR M} {o:Oper} {k:Nat} {aY:List (Nat× (World->Prop))} {a:Act} {K:List (Nat× (World->Prop))->Act->Prop} (hw:Region.wanted o (yielded ops a.tmps)=false) (h:K aY (a.put o.dst undef)):dh P (Calls P) gz ops fS m E C o k aY a K:=RegQ.cQ hw h
end
theorem ck {P:Program} {id:Nat} {Q:Exit->Act->World->Prop} {a:Act} {w:World} {l:List Oper} (M:World->World->Prop) (hd:M w w.drew) (Np:∀ A B C,M A B->M B C->M A C) (hm:P.follows .mixedOrders=true) (m:Nat) (cr:List Nat) (eff:Nat->Bool) (hB:ki .any l.toArray cr m=true) (EP:Nat->aR M) (h:∀ C:World->Prop,(∀ W,C W↔M w W)->Nonempty {W//C W} ->eJ (gU P (Calls P) gz l.toArray eff (fun i=>cr.getD i 0) EP C (fun r a W=>wpList P l.toArray Q r a W) m l 0 [] a)):(Code.region id l.toArray true).wp P Q a w:=
 RegQ.ck M hd Np hm m cr eff hB EP (fun _ _=>True) (fun _ _=>trivial) fun C hC hne=>⟨(h C hC hne).out⟩
theorem aM {P:Program} {id:Nat} {Q:Exit->Act->World->Prop} {a:Act} {w:World} {l:List Oper} (d:Bool) (T:Nat->Prop) (hm:P.follows .mixedOrders=true) (m:Nat) (cr:List Nat) (eff:Nat->Bool) (hB:ki .any l.toArray cr m=true) (EP:Nat->aR (Move d T)) (h:∀ C:World->Prop,(∀ W,C W↔Move d T w W)->Nonempty {W//C W} ->eJ (gU P (Calls P) gz l.toArray eff (fun i=>cr.getD i 0) EP C (fun r a W=>wpList P l.toArray Q r a W) m l 0 [] a)):(Code.region id l.toArray true).wp P Q a w:=
 ck (Move d T) (Move.ext (Ext.refl w).drew) (fun _ _ _ h k=>h.trans k) hm m cr eff hB EP h
end Go.Proofs.YtpcmhjbehdgdbaaGreatDoor
