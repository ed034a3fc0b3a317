/- The law for regions in any order (XReg), at the regions of the calculus: the check as a Bool; steps. -/
import Derived.Test.YtjgccapbphadjaaGreatDoorProg
import Derived.WalkKit
import Derived.OrdersIn
import Derived.RangeFuncNested
import Derived.Lib.Hide
import Derived.Sort.Grow
import Derived.Deep.Draws
import Derived.Deep.MidRow
import Derived.Maps.AppendAt
set_option maxRecDepth 100000
set_option maxHeartbeats 16000000
open Go.Lib (hid)
namespace Go.Proofs.YtjgccapbphadjaaGreatDoor
section
open Go Go.RowKit
abbrev aa (w w':World):Prop:=Below w.heap.size w w'
abbrev ah:=Calls Tryz.prog
theorem ag {α:Sort _} (a:α):∃ n,n=a:=⟨a,rfl⟩
theorem az {α:Type _} {l:List α} {i:Nat} (h:i<l.length):l[i]? =some l[i]:=List.getElem?_eq_getElem h
theorem aw {α:Type _} {l:List α} {i:Nat} {a:α} (h:l[i]? =some a):a∈l:=List.mem_of_getElem? h
theorem Ov {α:Type _} {i:Nat} {a:α} {l:List α} :l[i]? =some a↔ ∃ h:i<l.length,l[i]=a:=List.getElem?_eq_some_iff
theorem aA {n m k:Nat} (a:n<m) (b:m≤k):n<k:=Nat.lt_of_lt_of_le a b
theorem aG {α:Type _} {a b:List α} :(a++b).length=a.length+b.length:=List.length_append
theorem bh {α:Type _} {l:List α} {i:Nat} {a:α} :l.getD i a=l[i]?.getD a:=List.getD_eq_getElem?_getD
theorem aD (n:Nat):n≤n:=Nat.le_refl n
theorem aO {α:Type _} {β:Type _} {f:α→β} {l:List α} {i:Nat} :(l.map f)[i]? =l[i]?.map f:=List.getElem?_map
theorem aW {α:Type _} {a:α} {l:List α} :a∈a::l:=List.mem_cons_self
theorem aQ {α:Type _} {β:Type _} {a:List α} (f:α→β):(a.map f).length=a.length:=List.length_map f
theorem adM {α:Type _} {i:Nat} {b:α} {a:Array α} :a[i]? =some b↔ ∃ h:i<a.size,a[i]=b:=Array.getElem?_eq_some_iff
theorem aX {α:Type _} {l:List α} {i:Nat} (h:l.length≤i):l[i]? =none:=List.getElem?_eq_none h
theorem bJ {α:Type _} {a b:List α} {i:Nat} (h:i<a.length):(a++b)[i]? =a[i]? :=List.getElem?_append_left h
theorem cH {α:Type _} {a b:List α} {i:Nat} (h:a.length≤i):(a++b)[i]? =b[i-a.length]? :=List.getElem?_append_right h
theorem bF {α:Type _} (y:α) {a:α} {l:List α} (h:a∈l):a∈y::l:=List.mem_cons_of_mem y h
def ji (F:Fence) (n:Nat) (P:Program) (C:World->Prop) (dst:Option Tmp) (a:Act) (K:Act->World->Prop):Result Next->Prop
 | .ok (.value v) w'=>C w'/\K (a.put dst v) w'
 | .ok .skip w'=>C w'/\K (a.put dst undef) w'
 | .ok (.enter f args) w'=>CallsIn F (n-1) P f args w' (fun e w''=>∃ v,e=.returned v/\C w''/\K (a.put dst v) w'')
 | .ok (.round l f tmps DB body) w'=>RoundIn F (n-1) P l f tmps DB body w' (fun e w''=>∃ v,e=.returned v/\C w''/\K (a.put dst v) w'')
 | _=>False
def aB (P:Program) (o:Oper) (a:Act) (v:Value) (W:World):Prop:=
 (execOp a.eval o).run P W=.ok (.value v) W\/((execOp a.eval o).run P W=.ok .skip W/\v=undef)
def dS (F:Fence) (n:Nat) (P:Program) (C:World→Prop) (ops:Array Oper) (eO:Bool) (o:Oper) (K:Act→World→Prop) (a:Act) (w:World):Prop:=
  if Region.wanted o (yielded ops a.tmps)then
    (if eO then ji F n P C o.dst a K ((execOp a.eval o).run P w)
     else ∃ v,(∀ W: {W//C W},aB P o a v W.1)∧K (a.put o.dst v) w)
  else K (a.put o.dst undef) w
def kh (F:Fence) (n:Nat) (P:Program) (C:World->Prop) (ops:Array Oper) (eff:Nat->Bool) (Q:Act->World->Prop):List Oper->Nat->Act->World->Prop
 | [],_,a,w=>Q a w
 | o::rest,k,a,w=>dS F n P C ops (eff k) o (kh F n P C ops eff Q rest (k+1)) a w
section
variable {F:Fence} {n:Nat} {P:Program} {C:World→Prop} {ops:Array Oper} {eff:Nat→Bool} {md:Region.Mode}
theorem vx {dst:Option Tmp} {a:Act} {K K':Act->World->Prop} (h:∀ a w,C w->K a w->K' a w) {r:Result Next} (hh:ji F n P C dst a K r):ji F n P C dst a K' r:=by
 cases r with
 | halt x w=>exact hh.elim
 | ok x w=>
  cases x<;>simp only[ji]at hh ⊢ <;>first
   | exact⟨hh.1,h _ _ hh.1 hh.2⟩
   | exact CallsIn.mono hh (fun e w' ⟨v,he,hC,hK⟩=>⟨v,he,hC,h _ _ hC hK⟩)
   | exact RoundIn.mono hh (fun e w' ⟨v,he,hC,hK⟩=>⟨v,he,hC,h _ _ hC hK⟩)
theorem vy {eO:Bool} {o:Oper} {a:Act} {w:World} {K K':Act->World->Prop} (h0:∀ a,K a w->K' a w) (h:∀ a w,C w->K a w->K' a w) (hh:dS F n P C ops eO o K a w):dS F n P C ops eO o K' a w:=by
 unfold dS at*;split
 ·rename_i hw
  simp only[hw,if_true]at hh;cases eO with
  | true=>simp only[if_true]at hh ⊢;exact vx h hh
  | false=>simp only[Bool.false_eq_true,if_false]at hh ⊢;obtain⟨v,h1,h2⟩:=hh;exact⟨v,h1,h0 _ h2⟩
 ·rename_i hw
  simp only[hw]at hh;exact h0 _ hh
theorem vz (hd:F.depth=none) {dst:Option Tmp} {a:Act} {K:Act->World->Prop} {r:Result Next} (hh:ji F n P C dst a K r):∃ u w',K (a.put dst u) w':=by
 cases r with
 | halt x w=>exact hh.elim
 | ok x w=>
  cases x<;>simp only[ji]at hh
  case value v=>exact⟨_,_,hh.2⟩
  case skip=>exact⟨_,_,hh.2⟩
  case enter f args=>
   obtain⟨e,w',fr,⟨v,_,_,hK⟩,_⟩:=hh.2 [] (fun d h=>by rw[hd]at h;cases h);exact⟨_,_,hK⟩
  case round l f tmps DB body=>
   obtain⟨e,w',⟨v,_,_,hK⟩,_⟩:=hh.2 default [] (fun d h=>by rw[hd]at h;cases h);exact⟨_,_,hK⟩
def Lp (F:Fence) (n:Nat) (P:Program) (C:World->Prop) (ops:Array Oper) (eff:Nat->Bool) (i:Nat) (K:Act->World->Prop) (a:Act) (w:World):Prop:=
 match ops[i]? with
 | none=>K a w
 | some o=>dS F n P C ops (eff i) o K a w
def sA (F:Fence) (n:Nat) (P:Program) (C:World->Prop) (md:Region.Mode) (ops:Array Oper) (eff:Nat->Bool) (Q:Act->World->Prop):Nat->Array Bool->Act->World->Prop
 | 0,listed,a,w=>Region.ready md ops listed=[]/\Q a w
 | fuel+1,listed,a,w=>
  (Region.ready md ops listed=[]->Q a w)/\
  ∀ i∈Region.ready md ops listed,Lp F n P C ops eff i (sA F n P C md ops eff Q fuel (listed.setIfInBounds i true)) a w
def AU (ops:Array Oper):Bool:=ops.all fun o=>match o.op with | .defer _=>false | _=>true
theorem AW (h:AU ops=true) {j:Nat} {o:Oper} (ho:ops[j]? =some o) (c:Call):o.op≠ .defer c:=by intro heq;have:=Array.all_eq_true_iff_forall_mem.1 h o (Array.mem_of_getElem? ho);simp[heq]at this
theorem mj (hF:∀ f,F.fn f) (hd:F.depth=none) (VH:AU ops=true) {Q:Act->World->Prop} {Q':Exit->Act->World->Prop} (hQ:∀ a w,C w->Q a w->Q' .normal a w): ∀ (fuel:Nat) (listed:Array Bool) (a:Act) (w:World),C w->sA F n P C md ops eff Q fuel listed a w->wpAnyIn F n P md ops Q' fuel listed a w
 | 0,_,_,_,hC,h=>⟨h.1,hQ _ _ hC h.2⟩
 | fuel+1,listed,a,w,hC,h=>by
  refine⟨fun h0=>hQ _ _ hC (h.1 h0),fun i hi=>?_⟩;have hx:=h.2 i hi;have ih:=fun a' w' DC=>mj hF hd VH hQ fuel (listed.setIfInBounds i true) a' w' DC
  unfold Lp at hx;unfold wpOpIn;cases ho:ops[i]? with
  | none=>simp only[ho]at hx;exact ih _ _ hC hx
  | some o=>
   simp only[ho]at hx ⊢;have ae1:Oper.semAt F.round a.eval o=execOp a.eval o:=Oper.semAt_eq _ _ _ (AW VH ho);unfold dS at hx;split
   ·rename_i hw
    simp only[hw,if_true]at hx;refine⟨fun f _=>hF f,?_⟩;rw[ae1];cases he:eff i with
    | false=>
     simp only[he,Bool.false_eq_true,if_false]at hx;obtain⟨v,h1,h2⟩:=hx;rcases h1 ⟨w,hC⟩with hr | ⟨hr,rfl⟩<;>rw[hr]<;>exact ih _ _ hC h2
    | true=>
     simp only[he,if_true]at hx;generalize (execOp a.eval o).run P w=r at hx;cases r with
     | halt x w=>exact hx.elim
     | ok x w=>
      cases x<;>simp only[ji]at hx<;>simp only[Oper.uponIn]
      case value v=>exact ih _ _ hx.1 hx.2
      case skip=>exact ih _ _ hx.1 hx.2
      case enter f args=>exact⟨fun h=>(by rw[hd]at h;cases h),CallsIn.mono hx (fun e w' ⟨v,he,DC,hK⟩=>by subst he;exact ih _ _ DC hK)⟩
      case round l f tmps DB body=>exact⟨fun h=>(by rw[hd]at h;cases h),RoundIn.mono hx (fun e w' ⟨v,he,DC,hK⟩=>by subst he;exact ih _ _ DC hK)⟩
   ·rename_i hw
    simp only[hw]at hx;exact⟨fun f _=>hF f,ih _ _ hC hx⟩
def dD (P:Program) (ops:Array Oper) (C:World->Prop) (o:Oper) (v:Value) (a:Act):Prop:=
 (Region.wanted o (yielded ops a.tmps)=true/\∀ W,C W->aB P o a v W)\/(Region.wanted o (yielded ops a.tmps)=false/\v=undef)
theorem mQ {o:Oper} (hs:∀ cs b,o.op≠ .select cs b) {a:Act} {dst:Option Tmp} {u v:Value} {W:World} (h:∀ d,dst=some d->d∉o.looksAt ops):aB P o (a.put dst u) v W↔aB P o a v W:=by unfold aB;rw[execOp_put o hs a dst u h]
theorem dD.put {o:Oper} {v:Value} {a:Act} (hs:∀ cs b,o.op≠ .select cs b) {dst:Option Tmp} {u:Value} (h:∀ d,dst=some d->d∉o.looksAt ops):dD P ops C o v (a.put dst u)↔dD P ops C o v a:=by
 unfold dD;rw[wanted_put o a dst u h];constructor
 ·rintro(⟨h1,h2⟩ | h1)
  ·exact .inl ⟨h1,fun W hW=>(mQ hs h).1 (h2 W hW)⟩
  ·exact .inr h1
 ·rintro(⟨h1,h2⟩ | h1)
  ·exact .inl ⟨h1,fun W hW=>(mQ hs h).2 (h2 W hW)⟩
  ·exact .inr h1
theorem dD.dS {o:Oper} {v:Value} {a:Act} {w:World} {K:Act->World->Prop} (hy:dD P ops C o v a) (h:K (a.put o.dst v) w):dS F n P C ops false o K a w:=by
 unfold Proofs.YtjgccapbphadjaaGreatDoor.dS;rcases hy with⟨hw,hv⟩ | ⟨hw,rfl⟩
 ·simp only[hw,if_true,Bool.false_eq_true,if_false];exact⟨v,fun W=>hv W.1 W.2,h⟩
 ·simp only[hw,Bool.false_eq_true,if_false];exact h
theorem ir {o:Oper} {a:Act} {w:World} {K:Act->World->Prop} (h:dS F n P C ops false o K a w):∃ v,dD P ops C o v a/\K (a.put o.dst v) w:=by
 unfold Proofs.YtjgccapbphadjaaGreatDoor.dS at h;by_cases hw:Region.wanted o (yielded ops a.tmps)=true
 ·simp only[hw,if_true,Bool.false_eq_true,if_false]at h
  obtain⟨v,h1,h2⟩:=h;exact⟨v,.inl ⟨hw,fun W hW=>h1 ⟨W,hW⟩⟩,h2⟩
 ·simp only[hw]at h
  exact⟨undef,.inr ⟨by simpa using hw,rfl⟩,h⟩
theorem Lq {dx dj:Option Tmp} {v:Value} {a:Act} (hne:∀ d,dx=some d->dj≠some d) {K:Act->World->Prop} {r:Result Next} (h:ji F n P C dj (a.put dx v) K r): ji F n P C dj a (fun a' w'=>(∃ u,a'=a.put dj u)/\K (a'.put dx v) w') r:=by
 cases r with
 | halt x w=>exact h.elim
 | ok x w=>
  cases x<;>simp only[ji]at h ⊢
  case value u=>exact⟨h.1,⟨u,rfl⟩,by rw[<-Act.put_comm a v u hne];exact h.2⟩
  case skip=>exact⟨h.1,⟨_,rfl⟩,by rw[<-Act.put_comm a v undef hne];exact h.2⟩
  case enter f args=>exact CallsIn.mono h (fun e w' ⟨u,he,hC,hK⟩=>⟨u,he,hC,⟨u,rfl⟩,by rw[<-Act.put_comm a v u hne];exact hK⟩)
  case round l f tmps DB body=>exact RoundIn.mono h (fun e w' ⟨u,he,hC,hK⟩=>⟨u,he,hC,⟨u,rfl⟩,by rw[<-Act.put_comm a v u hne];exact hK⟩)
theorem Lr {eO:Bool} {oi oj:Oper} {v:Value} (hap:oi.apart ops oj=true) (Ls:∀ cs b,oi.op≠ .select cs b) (hsj:∀ cs b,oj.op≠ .select cs b) {K:Act->World->Prop} {a:Act} {w:World} (hy:dD P ops C oi v a) (h:dS F n P C ops eO oj K (a.put oi.dst v) w): dS F n P C ops eO oj (fun a' w'=>dD P ops C oi v a'/\K (a'.put oi.dst v) w') a w:=by
 obtain⟨h1,h2,h3⟩:=Oper.apart_spec hap;have keep:∀ u,dD P ops C oi v (a.put oj.dst u):=fun u=>(dD.put Ls h3).2 hy
 unfold Proofs.YtjgccapbphadjaaGreatDoor.dS at*;rw[wanted_put oj a oi.dst v h1,execOp_put oj hsj a oi.dst v h1]at h;split
 ·rename_i hw
  simp only[hw,if_true]at h;cases eO with
  | true=>
   simp only[if_true]at h ⊢;exact vx (fun a' w' _ ⟨⟨u,hu⟩,hK⟩=>⟨by rw[hu];exact keep u,hK⟩) (Lq h2 h)
  | false=>
   simp only[Bool.false_eq_true,if_false]at h ⊢;obtain⟨u,hu,hK⟩:=h;exact⟨u,fun W=>(mQ hsj h1).1 (hu W),keep u,by rw[<-Act.put_comm a v u h2];exact hK⟩
 ·rename_i hw
  simp only[hw]at h;exact⟨keep _,by rw[<-Act.put_comm a v undef h2];exact h⟩
theorem mm {i j:Nat} {listed:Array Bool} (hr:i∈Region.ready md ops listed) (hj:j∈Region.ready md ops listed) {oj:Oper} (yB:ops[j]? =some oj):∀ e∈oj.after,Region.binds md e=true->e.on≠i:=fun e he hb heq=>by
 obtain⟨_,oj',vA,hall⟩:=mem_ready.1 hj;rw[yB]at vA;cases vA;have h1:=hall e he hb;have h0:=(mem_ready.1 hr).1;rw[heq]at h1;rcases Nat.lt_or_ge i listed.size with h' | h'
 ·simp[h']at h0 h1;rw[h0]at h1;cases h1
 ·simp[Array.getElem?_eq_none h']at h1
theorem G6 {Q:Act->World->Prop} {i:Nat} {oi:Oper} {v:Value} (hi:ops[i]? =some oi) (Z0:eff i=false) (Ow:∀ (j:Nat) (o:Oper) cs b,ops[j]? =some o->o.op≠ .select cs b): ∀ (fuel:Nat) (listed:Array Bool) (a:Act) (w:World), (∀ j oj,ops[j]? =some oj->j≠i->listed.getD j true=false->(∀ e∈oj.after,Region.binds md e=true->e.on≠i)->oi.apart ops oj=true)-> i∈Region.ready md ops listed->dD P ops C oi v a-> sA F n P C md ops eff Q fuel (listed.setIfInBounds i true) (a.put oi.dst v) w->sA F n P C md ops eff Q (fuel+1) listed a w:=by
 intro fuel;induction fuel with
 | zero=>
  intro listed a w _ hr hy H;refine⟨fun h=>(by rw[h]at hr;cases hr),fun j hj=>?_⟩;by_cases ki:j=i
  ·subst ki;unfold Lp;simp only[hi,Z0];exact hy.dS H
  ·have:=ready_mono hj ki
   rw[H.1]at this;cases this
 | succ fuel ih=>
  intro listed a w zt hr hy H;refine⟨fun h=>(by rw[h]at hr;cases hr),fun j hj=>?_⟩;by_cases ki:j=i
  ·subst ki;unfold Lp;simp only[hi,Z0];exact hy.dS H
  ·have h1:=H.2 j (ready_mono hj ki)
   obtain⟨Lt,oj,yB,hall⟩:=mem_ready.1 hj;have WV:=mm hr hj yB
   have WW:∀ k ok,ops[k]? =some ok->k≠i->(listed.setIfInBounds j true).getD k true=false->
     (∀ e∈ok.after,Region.binds md e=true->e.on≠i)->oi.apart ops ok=true:=fun k ok hk eG Tc hno=>by
    refine zt k ok hk eG ?_ hno;by_cases hjk:j=k
    ·subst hjk;exact Lt
    ·rw[getD_set_ne true hjk]at Tc;exact Tc
   unfold Lp at h1 ⊢;simp only[yB]at h1 ⊢;have h2:=Lr (zt j oj yB ki Lt WV) (fun cs b=>Ow i oi cs b hi) (fun cs b=>Ow j oj cs b yB) hy h1;have step:∀ a' w',(dD P ops C oi v a'/\sA F n P C md ops eff Q fuel ((listed.setIfInBounds i true).setIfInBounds j true) (a'.put oi.dst v) w')->sA F n P C md ops eff Q (fuel+1) (listed.setIfInBounds j true) a' w':=fun a' w' h3=>by
    refine ih (listed.setIfInBounds j true) a' w' WW (ready_mono hr (Ne.symm ki)) h3.1 ?_;rw[Array.setIfInBounds_comm _ _ ki];exact h3.2
   exact vy (fun a' h3=>step a' _ h3) (fun a' w' _ h3=>step a' w' h3) h2
theorem DD (hd:F.depth=none) {Q:Act->World->Prop} {i:Nat} {oi:Oper} (hi:ops[i]? =some oi) (Z0:eff i=true) (Ow:∀ (j:Nat) (o:Oper) cs b,ops[j]? =some o->o.op≠ .select cs b): ∀ (fuel:Nat) (listed:Array Bool) (a:Act) (w:World),C w-> (∀ j oj,ops[j]? =some oj->j≠i->listed.getD j true=false->(∀ e∈oj.after,Region.binds md e=true->e.on≠i)->oi.apart ops oj=true)-> (∀ j oj,ops[j]? =some oj->j≠i->eff j=true->listed.getD j true=false->∃ e∈oj.after,Region.binds md e=true/\eff e.on=true/\listed.getD e.on false=false)-> i∈Region.ready md ops listed->Lp F n P C ops eff i (sA F n P C md ops eff Q fuel (listed.setIfInBounds i true)) a w-> sA F n P C md ops eff Q (fuel+1) listed a w:=by
 intro fuel;induction fuel with
 | zero=>
  intro listed a w hC zt Ox hr H;refine⟨fun h=>(by rw[h]at hr;cases hr),fun j hj=>?_⟩;by_cases ki:j=i
  ·subst ki;exact H
  ·exfalso
   have hne:=ready_mono hj ki;unfold Lp at H;simp only[hi]at H;unfold Proofs.YtjgccapbphadjaaGreatDoor.dS at H;by_cases hw:Region.wanted oi (yielded ops a.tmps)=true
   ·simp only[hw,if_true,Z0]at H
    obtain⟨u,w',hK⟩:=vz hd H;rw[hK.1]at hne;cases hne
   ·rw[if_neg hw]at H;rw[H.1]at hne;cases hne
 | succ fuel ih=>
  intro listed a w hC zt Ox hr H;refine⟨fun h=>(by rw[h]at hr;cases hr),fun j hj=>?_⟩;by_cases ki:j=i
  ·subst ki;exact H
  ·obtain⟨Lt,oj,yB,hall⟩:=mem_ready.1 hj
   have WV:=mm hr hj yB;have AX:eff j=false:=by
    cases h:eff j with
    | false=>rfl
    | true=>
     obtain⟨e,he,hb,_,hl⟩:=Ox j oj yB ki h Lt;rw[hall e he hb]at hl;cases hl
   have hap:=zt j oj yB ki Lt WV;obtain⟨h1,h2,h3⟩:=Oper.apart_spec hap;have Ls:=fun cs b=>Ow i oi cs b hi
   have hsj:=fun cs b=>Ow j oj cs b yB
   have h2':∀ d,oj.dst=some d->oi.dst≠some d:=fun d hd he=>h2 d he hd
   -- what the float yields, and what is left behind both
   have key:∃ v,dD P ops C oj v a/\Lp F n P C ops eff i (sA F n P C md ops eff Q fuel ((listed.setIfInBounds j true).setIfInBounds i true)) (a.put oj.dst v) w:=by
    unfold Lp at H ⊢;simp only[hi]at H ⊢;unfold Proofs.YtjgccapbphadjaaGreatDoor.dS at H ⊢;by_cases hw:Region.wanted oi (yielded ops a.tmps)=true
    ·simp only[hw,if_true,Z0]at H
     have inner:∀ u w',sA F n P C md ops eff Q (fuel+1) (listed.setIfInBounds i true) (a.put oi.dst u) w'->∃ v,dD P ops C oj v a/\sA F n P C md ops eff Q fuel ((listed.setIfInBounds j true).setIfInBounds i true) ((a.put oj.dst v).put oi.dst u) w':=fun u w' h=>by
      have hx:=h.2 j (ready_mono hj ki);unfold Lp at hx;simp only[yB,AX]at hx;obtain⟨v,hy,hK⟩:=ir hx;refine⟨v,(dD.put hsj h1).1 hy,?_⟩;rw[Array.setIfInBounds_comm _ _ ki,Act.put_comm a v u h2'];exact hK
     obtain⟨u0,w0,h0⟩:=vz hd H;obtain⟨v,hy,_⟩:=inner u0 w0 h0;refine⟨v,hy,?_⟩;rw[wanted_put oi a oj.dst v h3,execOp_put oi Ls a oj.dst v h3];simp only[hw,if_true,Z0];have uniq:∀ v',dD P ops C oj v' a->v'=v:=fun v' hy'=>by
      rcases hy with⟨g1,g2⟩ | ⟨g1,g2⟩<;>rcases hy' with⟨k1,k2⟩ | ⟨k1,k2⟩
      ·have a1:=g2 w hC
       have a2:=k2 w hC;unfold aB at a1 a2;rcases a1 with a1 | ⟨a1,b1⟩<;>rcases a2 with a2 | ⟨a2,b2⟩<;>rw[a1]at a2<;>cases a2<;>simp_all
      ·rw[g1]at k1;cases k1
      ·rw[g1]at k1;cases k1
      ·rw[g2,k2]
     generalize (execOp a.eval oi).run P w=r at H ⊢;cases r with
     | halt x w=>exact H.elim
     | ok x w=>
      cases x<;>simp only[ji]at H ⊢
      case value u=>
       obtain⟨v',hy',hK⟩:=inner _ _ H.2;rw[uniq v' hy']at hK;exact⟨H.1,hK⟩
      case skip=>
       obtain⟨v',hy',hK⟩:=inner _ _ H.2;rw[uniq v' hy']at hK;exact⟨H.1,hK⟩
      case enter f args=>
       exact CallsIn.mono H (fun e w' ⟨u,he,DC,h⟩=>by
        obtain⟨v',hy',hK⟩:=inner _ _ h;rw[uniq v' hy']at hK
        exact⟨u,he,DC,hK⟩)
      case round l f tmps DB body=>
       exact RoundIn.mono H (fun e w' ⟨u,he,DC,h⟩=>by
        obtain⟨v',hy',hK⟩:=inner _ _ h;rw[uniq v' hy']at hK
        exact⟨u,he,DC,hK⟩)
    ·simp only[hw]at H
     have hx:=H.2 j (ready_mono hj ki);unfold Lp at hx;simp only[yB,AX]at hx;obtain⟨v,hy,hK⟩:=ir hx;refine⟨v,(dD.put hsj h1).1 hy,?_⟩;rw[wanted_put oi a oj.dst v h3];simp only[hw];rw[Array.setIfInBounds_comm _ _ ki];have:=Act.put_comm a v undef h2';simpa[this]using hK
   obtain⟨v,hy,hK⟩:=key;unfold Lp;simp only[yB,AX];refine hy.dS (ih (listed.setIfInBounds j true) _ w hC ?_ ?_ (ready_mono hr (Ne.symm ki)) hK)
   ·intro k ok hk eG Tc hno
    refine zt k ok hk eG ?_ hno;by_cases hjk:j=k
    ·subst hjk;exact Lt
    ·rw[getD_set_ne true hjk]at Tc;exact Tc
   ·intro k ok hk eG Lu Tc
    have hjk:j≠k:=fun h=>by subst h;rw[AX]at Lu;cases Lu
    rw[getD_set_ne true hjk]at Tc;obtain⟨e,he,hb,hee,hl⟩:=Ox k ok hk eG Lu Tc;have hje:j≠e.on:=fun h=>by rw[<-h]at hee;rw[AX]at hee;cases hee
    exact⟨e,he,hb,hee,by rw[getD_set_ne false hje];exact hl⟩
def qL (md:Region.Mode) (ops:Array Oper) (eff:Nat->Bool) (listed:Array Bool) (i:Nat):Bool:=
 (List.range ops.size).all fun j=>j==i || !eff j || listed.getD j true || match ops[j]? with
  | some oj=>oj.after.any (fun e=>Region.binds md e&&eff e.on&& !listed.getD e.on false)
  | none=>true
theorem yC {i:Nat} {listed:Array Bool} (h:qL md ops eff listed i=true) (j:Nat) (oj:Oper) (hj:ops[j]? =some oj) (hne:j≠i) (AX:eff j=true) (Tc:listed.getD j true=false): ∃ e∈oj.after,Region.binds md e=true/\eff e.on=true/\listed.getD e.on false=false:=by simp only[qL,List.all_eq_true,List.mem_range]at h;have h1:=h j (Array.getElem?_eq_some_iff.1 hj).1;simp only[hj,Bool.or_eq_true,beq_iff_eq,hne,false_or,Tc,Bool.false_eq_true,AX,Bool.not_true]at h1;obtain⟨e,he,hb⟩:=Array.any_eq_true'.1 h1;simp only[Bool.and_eq_true,Bool.not_eq_true']at hb;exact⟨e,he,hb.1.1,hb.1.2,hb.2⟩
def mR (md:Region.Mode) (ops:Array Oper) (eff:Nat->Bool):Nat->Nat->Array Bool->Bool
 | 0,_,listed=>(Region.ready md ops listed).isEmpty
 | fuel+1,k,listed=>(Region.ready md ops listed).contains k&&Region.free md ops listed k&&(!eff k || qL md ops eff listed k)&&mR md ops eff fuel (k+1) (listed.setIfInBounds k true)
def Oy (md:Region.Mode) (ops:Array Oper) (eff:Nat->Bool):Bool:=Region.noSelect ops&&AU ops&&mR md ops eff ops.size 0 (Array.replicate ops.size false)
theorem DG (hd:F.depth=none) {Q:Act->World->Prop} (hs:Region.noSelect ops=true):∀ (l:List Oper) (k:Nat) (listed:Array Bool) (a:Act) (w:World),C w->(∀ j,l[j]? =ops[k+j]?)-> mR md ops eff l.length k listed=true->kh F n P C ops eff Q l k a w->sA F n P C md ops eff Q l.length listed a w
 | [],_,_,_,_,_,_,hB,h=>⟨by simpa[mR]using hB,h⟩
 | o::l,k,listed,a,w,hC,hl,hB,h=>by
  have h0:ops[k]? =some o:=by simpa using(hl 0).symm
  simp only[List.length_cons,mR,Bool.and_eq_true,Bool.or_eq_true,Bool.not_eq_true']at hB;obtain⟨⟨⟨hr,hf⟩,he⟩,hB'⟩:=hB;have hr':k∈Region.ready md ops listed:=by simpa using hr
  have ih:∀ a' w',C w'->kh F n P C ops eff Q l (k+1) a' w'->sA F n P C md ops eff Q l.length (listed.setIfInBounds k true) a' w':=fun a' w' DC h'=>
   DG hd hs l (k+1) _ a' w' DC (fun j=>by have:=hl (j+1);simpa[Nat.add_assoc,Nat.add_comm 1 j]using this) hB' h'
  unfold kh at h;cases Lu:eff k with
  | false=>
   rw[Lu]at h;obtain⟨v,hy,hK⟩:=ir h;exact G6 h0 Lu (Region.noSelect_spec hs) l.length listed a w (Region.free_spec h0 hf) hr' hy (ih _ _ hC hK)
  | true=>
   have he':qL md ops eff listed k=true:=he.resolve_left (by rw[Lu];decide);refine DD hd h0 Lu (Region.noSelect_spec hs) l.length listed a w hC (Region.free_spec h0 hf) (yC he') hr' ?_;unfold Lp;simp only[h0];exact vy (fun a' h'=>ih a' w hC h') (fun a' w' DC h'=>ih a' w' DC h') h
theorem mq (hF:∀ f,F.fn f) (hd:F.depth=none) {id:Nat} {Q:Exit->Act->World->Prop} {a:Act} {w:World} {l:List Oper} (hm:P.follows .mixedOrders=true) (eff:Nat->Bool) (hB:Oy .any l.toArray eff=true) (C:World->Prop) (hC:C w.drew) (h:kh F n P C l.toArray eff (fun a' w'=>Q .normal a' w') l 0 a w.drew):(Code.region id l.toArray true).wpIn F n P Q a w:=by simp only[Oy,Bool.and_eq_true]at hB;refine wpIn_region_any hm (mj (eff:=eff) hF hd hB.1.2 (Q:=fun a' w'=>Q .normal a' w') (fun _ _ _ h=>h) _ _ _ _ hC ?_);have:=DG (md:=.any) (F:=F) (n:=n) (P:=P) hd hB.1.1 l 0 (Array.replicate l.length false) a w.drew hC (by simp) (by simpa using hB.2) h;simpa using this
theorem bN {eff:Nat->Bool} {Q:Act->World->Prop} {o:Oper} {rest:List Oper} {k:Nat} {a:Act} {w:World} (h:∀ K:Act->World->Prop,(∀ a w,kh F n P C ops eff Q rest (k+1) a w->K a w)->dS F n P C ops (eff k) o K a w):kh F n P C ops eff Q (o::rest) k a w:=h _ (fun _ _ h=>h)
theorem nV {eff:Nat->Bool} {Q:Act->World->Prop} {k:Nat} {a:Act} {w:World} (h:Q a w):kh F n P C ops eff Q [] k a w:=h
theorem dw {o:Oper} {K:Act->World->Prop} {a:Act} {w:World} (hw:Region.wanted o (yielded ops a.tmps)=true) (h:∃ v,(∀ W: {W//C W},aB P o a v W.1)/\K (a.put o.dst v) w):dS F n P C ops false o K a w:=by unfold dS;simp only[hw,if_true,Bool.false_eq_true,if_false];exact h
theorem eH {o:Oper} {K:Act->World->Prop} {a:Act} {w:World} (hw:Region.wanted o (yielded ops a.tmps)=true) (h:ji F n P C o.dst a K ((execOp a.eval o).run P w)):dS F n P C ops true o K a w:=by unfold dS;simp only[hw,if_true];exact h
theorem eP {dst:Option Tmp} {a:Act} {K:Act->World->Prop} {f:FuncId} {args:Array Value} {w:World} (h:Calls P f args w fun e w''=>∃ v,e=.returned v/\C w''/\K (a.put dst v) w''):ji Fence.wide 0 P C dst a K (.ok (.enter f args) w):=callsIn_wide.2 h
theorem DI {l:Nat} {dst:Option Tmp} {a:Act} {K:Act->World->Prop} {f:FuncId} {args:Array Value} {w:World} (h:Calls P f args w fun e w''=>∃ v,e=.returned v/\C w''/\K (a.put dst v) w''):ji (Fence.wide.inRound l) 0 P C dst a K (.ok (.enter f args) w):=(callsIn_wide (n:=0)).2 h
theorem yD {id:Nat} {Q:Exit->Act->World->Prop} {a:Act} {w:World} {l:List Oper} (hm:P.follows .mixedOrders=true) (eff:Nat->Bool) (hB:Oy .any l.toArray eff=true) (C:World->Prop) (hC:C w.drew) (h:kh Fence.wide 0 P C l.toArray eff (fun a' w'=>Q .normal a' w') l 0 a w.drew):(Code.region id l.toArray true).wp P Q a w:=
 wpIn_wide.1 (mq (n:=0) (fun _=>trivial) rfl hm eff hB C hC h)
end
end
section
open Go Go.RowKit
structure ae (R:Nat->Prop) (W W':World):Prop where
 os:W'.os=W.os
 tape:W'.tape=W.tape
 output:W'.output=W.output
 size:W.heap.size<=W'.heap.size
 keep:∀ k,R k->W'.heap[k]? =W.heap[k]?
structure Ext (W W':World):Prop where
 os:W'.os=W.os
 tape:W'.tape=W.tape
 output:W'.output=W.output
 drawn:W.drawn<=W'.drawn
 size:W.heap.size<=W'.heap.size
 keep:∀ k,k<W.heap.size->W'.heap[k]? =W.heap[k]?
theorem ae.refl (R:Nat->Prop) (W:World):ae R W W:=⟨rfl,rfl,rfl,aD _,fun _ _=>rfl⟩
theorem ae.mono {R R':Nat->Prop} {W W':World} (h:ae R W W') (hr:∀ k,R' k->R k):ae R' W W':=⟨h.os,h.tape,h.output,h.size,fun k hk=>h.keep k (hr k hk)⟩
theorem Ext.mono {R':Nat->Prop} {W W':World} (h:Ext W W') (hr:∀ k,R' k->k<W.heap.size):ae R' W W':=⟨h.os,h.tape,h.output,h.size,fun k hk=>h.keep k (hr k hk)⟩
theorem Ext.keeps {W W':World} (h:Ext W W'):ae (· <W.heap.size) W W':=h.mono fun _ h=>h
theorem Ext.below {W W':World} (h:Ext W W'):aa W W':=⟨h.os,h.tape,h.output,h.size,h.keep⟩
theorem ae.trans {R R':Nat->Prop} {A B C:World} (h:ae R A B) (k:ae R' B C) (hr:∀ k,R k->R' k):ae R A C:=
 ⟨k.os.trans h.os,k.tape.trans h.tape,k.output.trans h.output,Nat.le_trans h.size k.size,fun i hi=>(k.keep i (hr i hi)).trans (h.keep i hi)⟩
theorem ae.tr {R:Nat->Prop} {A B C:World} (h:ae R A B) (k:ae R B C):ae R A C:=h.trans k fun _ h=>h
theorem ae.drew {R:Nat->Prop} {A B:World} (h:ae R A B):ae R A B.drew:=⟨h.os,h.tape,h.output,h.size,h.keep⟩
theorem ae.drewN {R:Nat->Prop} {A B:World} (h:ae R A B) (n:Nat):ae R A (B.drewN n):=⟨h.os,h.tape,h.output,h.size,h.keep⟩
theorem ae.below {B:Nat} {W W':World} (h:ae (· <B) W W'):Below B W W':=⟨h.os,h.tape,h.output,h.size,h.keep⟩
theorem ae.ak {B:Nat} {W W':World} (h:Below B W W') {R:Nat->Prop} (hr:∀ k,R k->k<B):ae R W W':=⟨h.os,h.tape,h.output,h.size,fun k hk=>h.block k (hr k hk)⟩
theorem ae.bw {row:Option Nat} {W W':World} (h:W.grownBy W' row) {R:Nat->Prop} (hr:∀ k,R k->k<W.heap.size/\some k≠row):ae R W W':=⟨h.os,h.tape,h.output,h.size,fun k hk=>h.block k (hr k hk).1 (hr k hk).2⟩
theorem ae.alloc {R:Nat->Prop} {A B:World} (h:ae R A B) (hr:∀ k,R k->k<B.heap.size) (o:Obj):ae R A (B.alloc o):=
 ⟨h.os,h.tape,h.output,Nat.le_trans h.size (by simp),fun k hk=>(Below.heap_alloc _ _ _ (hr k hk)).trans (h.keep k hk)⟩
theorem ae.setCell {R:Nat->Prop} {A B:World} (h:ae R A B) {p:Addr} (hp:¬R p.block) (u:Value):ae R A (B.setCell p u):=
 ⟨h.os,h.tape,h.output,Nat.le_trans h.size (by simp[World.setCell]),fun k hk=>(Below.heap_setCell _ _ _ _ (fun e=>hp (e▸hk))).trans (h.keep k hk)⟩
theorem ae.putObj {R:Nat->Prop} {A B:World} (h:ae R A B) {l:Nat} (hl:¬R l) (o:Obj):ae R A (B.putObj l o):=
 ⟨h.os,h.tape,h.output,Nat.le_trans h.size (by simp),fun k hk=>(World.putObj_heap_other (by rintro rfl;exact hl hk)).trans (h.keep k hk)⟩
theorem ae.cell {R:Nat->Prop} {W W':World} (h:ae R W W') {p:Addr} (hp:R p.block):W'.cell? p=W.cell? p:=World.cell?_of_block (w:=W) (h.keep p.block hp)
theorem ae.frozen {R:Nat->Prop} {W W':World} (h:ae R W W') {p:Addr} (hp:R p.block):W'.frozen? p=W.frozen? p:=World.frozen?_of_block (w:=W) (h.keep p.block hp)
theorem Ext.cell {W W':World} (h:Ext W W') {p:Addr} (hp:p.block<W.heap.size):W'.cell? p=W.cell? p:=World.cell?_of_block (w:=W) (h.keep p.block hp)
theorem Ext.frozen {W W':World} (h:Ext W W') {p:Addr} (hp:p.block<W.heap.size):W'.frozen? p=W.frozen? p:=World.frozen?_of_block (w:=W) (h.keep p.block hp)
theorem Ext.trans {A B C:World} (h:Ext A B) (k:Ext B C):Ext A C:=
 ⟨k.os.trans h.os,k.tape.trans h.tape,k.output.trans h.output,Nat.le_trans h.drawn k.drawn,Nat.le_trans h.size k.size,fun i hi=>(k.keep i (aA hi h.size)).trans (h.keep i hi)⟩
theorem Ext.cells {A B:World} (h:Ext A B):(∀ b o,b<A.heap.size->B.cell? ⟨b,o,none⟩=A.cell? ⟨b,o,none⟩)/\(∀ b o,b<A.heap.size->B.frozen? ⟨b,o,none⟩=A.frozen? ⟨b,o,none⟩):=
 ⟨fun b o hb=>h.cell (p:=⟨b,o,none⟩) hb,fun b o hb=>h.frozen (p:=⟨b,o,none⟩) hb⟩
theorem Ext.alloc {A B:World} (h:Ext A B) (o:Obj):Ext A (B.alloc o):=
 ⟨h.os,h.tape,h.output,h.drawn,Nat.le_trans h.size (by simp),fun k hk=>(Below.heap_alloc _ _ _ (aA hk h.size)).trans (h.keep k hk)⟩
theorem Ext.drew {A B:World} (h:Ext A B):Ext A B.drew:=⟨h.os,h.tape,h.output,Nat.le_succ_of_le h.drawn,h.size,h.keep⟩
theorem Ext.setCell {A B:World} (h:Ext A B) {p:Addr} (hp:A.heap.size<=p.block) (u:Value):Ext A (B.setCell p u):=
 ⟨h.os,h.tape,h.output,h.drawn,Nat.le_trans h.size (by simp[World.setCell]),fun k hk=>(Below.heap_setCell _ _ _ _ (by omega)).trans (h.keep k hk)⟩
theorem Ext.putObj {A B:World} (h:Ext A B) {l:Nat} (hl:A.heap.size<=l) (o:Obj):Ext A (B.putObj l o):=
 ⟨h.os,h.tape,h.output,h.drawn,Nat.le_trans h.size (by simp),fun k hk=>(World.putObj_heap_other (by omega)).trans (h.keep k hk)⟩
theorem Ext.refl (A:World):Ext A A:=⟨rfl,rfl,rfl,aD _,aD _,fun _ _=>rfl⟩
theorem Ext.grow {W W':World} (h:Ext W W'):∃ q os,W'=Sort.grow (W.drewN q) os:=by
 refine⟨W'.drawn-W.drawn,W'.heap.extract W.heap.size W'.heap.size,?_⟩;have hh:W'.heap=W.heap++W'.heap.extract W.heap.size W'.heap.size:=by
  apply Array.ext_getElem?;intro k;rw[Array.getElem?_append];split
  ·exact h.keep k ‹_›
  ·rw[Array.getElem?_extract]
   have hs:=h.size;split
   ·congr 1;omega
   ·rw[Array.getElem?_eq_none];omega
 have h1:=h.os;have h2:=h.tape;have h3:=h.output;have h4:=h.drawn;have h5:W.drawn+(W'.drawn-W.drawn)=W'.drawn:=by omega
 cases W with
 | mk a b c d e=>
 cases W' with
 | mk a' b' c' d' e'=>
  simp only[Sort.grow,World.drewN]at*;subst h1 h2 h3;rw[h5, <-hh]
theorem ae.step {S:Nat->Prop} {A B C:World} (h:ae S A B) (hS:∀ k,S k->k<A.heap.size) (hx:Ext B C):ae S A C:=h.tr (hx.mono fun k hk=>aA (hS k hk) h.size)
theorem ae.VI {S:Nat->Prop} {A B C:World} (h:ae S A B) (hS:∀ k,S k->k<A.heap.size) (hx:aa B C):ae S A C:=h.tr (ae.ak hx fun k hk=>aA (hS k hk) h.size)
def ar (w:World) (b:Nat) (c:Array Value) (t:TypeId):Prop:=w.heap[b]? =some (.cells c t (0,0))
theorem ar.cell {w:World} {b:Nat} {c:Array Value} {t:TypeId} (h:ar w b c t) (k:Nat):w.cell? ⟨b,k,none⟩=c[k]? :=by unfold ar at h;simp[World.cell?,h]
theorem ar.frozen {w:World} {b:Nat} {c:Array Value} {t:TypeId} (h:ar w b c t) (k:Nat):w.frozen? ⟨b,k,none⟩=false:=by unfold ar at h;simp[World.frozen?,h]
theorem ar.lt {w:World} {b:Nat} {c:Array Value} {t:TypeId} (h:ar w b c t):b<w.heap.size:=(Array.getElem?_eq_some_iff.1 h).1
theorem ar.keeps {w w':World} {b:Nat} {c:Array Value} {t:TypeId} (h:ar w b c t) {R:Nat->Prop} (hk:ae R w w') (hb:R b):ar w' b c t:=(hk.keep b hb).trans h
theorem ar.ext {w w':World} {b:Nat} {c:Array Value} {t:TypeId} (h:ar w b c t) (hk:Ext w w'):ar w' b c t:=(hk.keep b h.lt).trans h
theorem ar.below {w w':World} {b n:Nat} {c:Array Value} {t:TypeId} (h:ar w b c t) (hk:Below n w w') (hb:b<n):ar w' b c t:=(hk.block b hb).trans h
theorem ar.grown {w w':World} {b:Nat} {c:Array Value} {t:TypeId} {row:Option Nat} (h:ar w b c t) (hg:w.grownBy w' row) (hb:some b≠row):ar w' b c t:=(hg.block b h.lt hb).trans h
theorem ar.same {w w':World} {b:Nat} {c:Array Value} {t:TypeId} (h:ar w b c t) (hk:w'.heap[b]? =w.heap[b]?):ar w' b c t:=hk.trans h
theorem ar.alloc {w:World} {b:Nat} {c:Array Value} {t:TypeId} (h:ar w b c t) (o:Obj):ar (w.alloc o) b c t:=h.ext ((Ext.refl w).alloc o)
theorem ar.new (w:World) (c:Array Value) (t:TypeId):ar (w.alloc (.cells c t (0,0))) w.heap.size c t:=World.alloc_heap_new w _
theorem ar.at {w:World} {b b':Nat} {c:Array Value} {t:TypeId} (h:ar w b c t) (e:b=b'):ar w b' c t:=e▸h
theorem ar.set {w:World} {b:Nat} {c:Array Value} {t:TypeId} (h:ar w b c t) (k:Nat) (v:Value):ar (w.setCell ⟨b,k,none⟩ v) b (c.setIfInBounds k v) t:=by unfold ar at*;simp[World.setCell,Array.getElem?_modify,h]
theorem ar.other {w:World} {b:Nat} {c:Array Value} {t:TypeId} (h:ar w b c t) {p:Addr} (hp:p.block≠b) (v:Value):ar (w.setCell p v) b c t:=h.same (Below.heap_setCell _ _ _ _ (Ne.symm hp))
theorem ar.put {w:World} {b:Nat} {c:Array Value} {t:TypeId} (h:ar w b c t) {l:Nat} (hl:l≠b) (o:Obj):ar (w.putObj l o) b c t:=h.same (World.putObj_heap_other (Ne.symm hl))
theorem cK {w:World} {b:Nat} {c:Array Value} {t:TypeId} (h:ar w b c t):∀ j u,c.toList[j]? =some u->w.cell? ((⟨b,0,none⟩:Addr).add j)=some u:=fun j u hu=>by
 have WY:(⟨b,0,none⟩:Addr).add j=⟨b,j,none⟩:=by unfold Addr.add;split<;>simp_all
 rw[WY,h.cell j];simpa using hu
theorem cell_far (w:World) (p a:Addr) (v:Value) (h:p.block≠a.block):(w.setCell p v).cell? a=w.cell? a:=World.cell?_setCell_other _ _ _ _ (fun e=>h (congrArg Addr.block e))
theorem eQ {P:Program} {id:Nat} {Q:Exit->Act->World->Prop} {a:Act} {w:World} {l:List Oper} (S:Nat->Prop) (hm:P.follows .mixedOrders=true) (eff:Nat->Bool) (hB:Oy .any l.toArray eff=true) (h:∀ C:World->Prop,(∀ W,C W↔ae S w W)->Nonempty {W//C W} ->∀ w',ae S w w'->(∀ b:Nat,w'.heap[b]? =w.heap[b]?)->w'.heap.size=w.heap.size->Ext w w'->kh Fence.wide 0 P C l.toArray eff (fun a' w'=>Q .normal a' w') l 0 a w'):(Code.region id l.toArray true).wp P Q a w:=
 have hk:ae S w w.drew:=(ae.refl S w).drew
 yD hm eff hB (ae S w) hk (h _ (fun _=>Iff.rfl) ⟨⟨_,hk⟩⟩ _ hk (fun _=>rfl) rfl (Ext.refl w).drew)
theorem sB {F:Fence} (hF:∀ f,F.fn f) (hd:F.depth=none) {P:Program} {id:Nat} {Q:Exit->Act->World->Prop} {a:Act} {w:World} {l:List Oper} (S:Nat->Prop) (hm:P.follows .mixedOrders=true) (eff:Nat->Bool) (hB:Oy .any l.toArray eff=true) (h:∀ C:World->Prop,(∀ W,C W↔ae S w W)->Nonempty {W//C W} ->∀ w',ae S w w'->(∀ b:Nat,w'.heap[b]? =w.heap[b]?)->w'.heap.size=w.heap.size->Ext w w'->kh F 0 P C l.toArray eff (fun a' w'=>Q .normal a' w') l 0 a w'):(Code.region id l.toArray true).wpIn F 0 P Q a w:=
 have hk:ae S w w.drew:=(ae.refl S w).drew
 mq hF hd hm eff hB (ae S w) hk (h _ (fun _=>Iff.rfl) ⟨⟨_,hk⟩⟩ _ hk (fun _=>rfl) rfl (Ext.refl w).drew)
theorem dm {C:World->Prop} {S:Nat->Prop} {w:World} (hC:∀ W,C W↔ae S w W) {p:Addr} {v:Option Value} (hs:S p.block) (h:w.cell? p=v):∀ W: {W//C W},W.1.cell? p=v:=fun W=>(((hC W.1).1 W.2).cell hs).trans h
theorem gJ (f:FuncId):Fence.wide.fn f=True:=rfl
theorem dB:Fence.wide.depth=none:=rfl
def Move (d:Bool) (T:Nat->Prop) (W W':World):Prop:=ae (fun k=>k<W.heap.size/\¬T k) W W'/\(d=true->W.drawn<=W'.drawn)
theorem Move.put {d:Bool} {T:Nat->Prop} {W:World} {l:Nat} (hl:T l) (o:Obj):Move d T W (W.putObj l o):=⟨(ae.refl _ _).putObj (fun h=>h.2 hl) _,fun _=>aD _⟩
theorem Move.ext {d:Bool} {T:Nat->Prop} {W W':World} (h:Ext W W'):Move d T W W':=⟨h.mono fun _ h=>h.1,fun _=>h.drawn⟩
theorem Move.refl (d:Bool) (T:Nat->Prop) (W:World):Move d T W W:=.ext (Ext.refl W)
theorem Move.mono {d:Bool} {T T':Nat->Prop} {W W':World} (h:Move d T W W') (ht:∀ k,T k->T' k):Move d T' W W':=⟨h.1.mono fun k hk=>⟨hk.1,fun h=>hk.2 (ht k h)⟩,h.2⟩
def eR {β:Type} (d:Bool) (B:Nat) (J:β->(Nat->Prop)->World->Prop):Prop:=
 ∀ s T T' W W',J s T W->(∀ k,T k->B<=k/\k<W.heap.size)->(∀ k,T' k->B<=k/\k<W'.heap.size)->(∀ k,T k->T' k)->(∀ k,T' k->T k\/W.heap.size<=k)->Move d T W W'->J s T' W'
theorem eR.ext {d:Bool} {β:Type} {B:Nat} {J:β->(Nat->Prop)->World->Prop} (h:eR d B J) {s:β} {T:Nat->Prop} {W W':World} (hj:J s T W) (hT:∀ k,T k->B<=k/\k<W.heap.size) (hx:Ext W W'):J s T W':=
 h s T T W W' hj hT (fun k hk=>⟨(hT k hk).1,aA (hT k hk).2 hx.size⟩) (fun _ h=>h) (fun _ h=>.inl h) (.ext hx)
theorem ar.mS {d:Bool} {B:Nat} {T:Nat->Prop} {W W':World} {b:Nat} {c:Array Value} {t:TypeId} (h:ar W b c t) (hT:∀ k,T k->B<=k/\k<W.heap.size) (hk:Move d T W W') (hb:b<B):ar W' b c t:=
 h.keeps hk.1 ⟨h.lt,fun ht=>by have:=(hT _ ht).1;omega⟩
theorem Ext.mS {B:Nat} {T:Nat->Prop} {A W W':World} (h:Ext A W) (hT:∀ k,T k->B<=k/\k<W.heap.size) (hk:Move true T W W') (hA:A.heap.size<=B):Ext A W':=
 ⟨hk.1.os.trans h.os,hk.1.tape.trans h.tape,hk.1.output.trans h.output,Nat.le_trans h.drawn (hk.2 rfl),Nat.le_trans h.size hk.1.size,
  fun k tD=>(hk.1.keep k ⟨aA tD h.size,fun ht=>by have:=(hT _ ht).1;omega⟩).trans (h.keep k tD)⟩
theorem iu {d:Bool} {B n:Nat} {T:Nat->Prop} {A W W':World} (h:Below n A W) (hT:∀ k,T k->B<=k/\k<W.heap.size) (hk:Move d T W W') (hn:n<=A.heap.size) (hB:n<=B):Below n A W':=
 ⟨hk.1.os.trans h.os,hk.1.tape.trans h.tape,hk.1.output.trans h.output,Nat.le_trans h.size hk.1.size,fun k tD=>(hk.1.keep k ⟨by have:=h.size;omega,fun ht=>by have:=(hT _ ht).1;omega⟩).trans (h.block k tD)⟩
theorem ai {W W':World} {base:Nat} {e:TypeId} {size:Nat} {v:Value} {n:Nat} {xs:List Value} (h:W.ownsRow base e size v n xs) {R:Nat->Prop} (hk:ae R W W') (hr:∀ k,v.ownBlock=some k->R k):W'.ownsRow base e size v n xs:=by
 refine⟨h.1,?_⟩;rcases h.2 with hn | ⟨g,cap,cur,rfl,hb,hgg,rest⟩
 ·exact .inl hn
 ·exact .inr ⟨g,cap,cur,rfl,hb,(hk.keep g (hr g rfl)).trans hgg,rest⟩
theorem ownsRow_form {W:World} {base:Nat} {e:TypeId} {size:Nat} {v:Value} {n:Nat} {xs:List Value} (h:W.ownsRow base e size v n xs):∃ a c,v=.slice a n c:=by
 rcases h.2 with⟨rfl,rfl⟩ | ⟨g,cap,cur,rfl,_⟩
 ·exact⟨none,0,rfl⟩
 ·exact⟨_,cap,rfl⟩
theorem aF {W:World} {base base':Nat} {e:TypeId} {size:Nat} {v:Value} {n:Nat} {xs:List Value} (h:W.ownsRow base e size v n xs) (hb:base'<=base):W.ownsRow base' e size v n xs:=by
 refine⟨h.1,?_⟩;rcases h.2 with hn | ⟨g,cap,cur,rfl,h1,rest⟩
 ·exact .inl hn
 ·exact .inr ⟨g,cap,cur,rfl,Nat.le_trans hb h1,rest⟩
section
variable {P:Program} {d:Bool}
def Seq {α:Type} (d:Bool) (P:Program) (g:Nat) (lb:Array Value) (mU:α->Array Value) (R:Nat->Prop) (xs:List α) (w:World):Prop:=
 ∀ (l:Nat) (J Jx:List α->(Nat->Prop)->World->Prop) (W:World),ae (· <w.heap.size) w W->eR d W.heap.size J->eR d W.heap.size Jx->
  (∀ pre x T W1,(pre++ [x])<+:xs->(∀ k,T k->W.heap.size<=k/\k<W1.heap.size)->ae R W W1->J pre T W1->
   YieldAt Fence.wide 0 P l (mU x) W1 fun e W'=>
    (e=.returned (.bool true)/\J (pre++ [x]) T W'/\ae (fun k=>R k\/T k) W1 W')\/(e=.returned (.bool false)/\Jx (pre++ [x]) T W'/\ae T W1 W'))->
  J [] (fun _=>False) W->
  Calls P g (#[.func (.yield l) #[] #[]]++lb) W fun e W'=>(∃ v,e=.returned v)/\∃ T,(∀ k,T k->W.heap.size<=k/\k<W'.heap.size)/\(J xs T W'\/∃ pre,pre<+:xs/\Jx pre T W')
theorem Seq.at {α:Type} {P:Program} {d:Bool} {g:Nat} {lb:Array Value} {mU:α->Array Value} {R:Nat->Prop} {xs:List α} {w w':World} (h:Seq d P g lb mU R xs w) (hk:ae (· <w.heap.size) w w'):Seq d P g lb mU R xs w':=
 fun l J Jx W hK=>h l J Jx W (hk.tr (hK.mono fun _ tD=>aA tD hk.size))
def G7 {α:Type} (R T:Nat->Prop) (W0:World) (I:List α->(Nat->Prop)->World->Prop) (Ix:Code->List α->(Nat->Prop)->World->Prop) (xs:List α):Exit->Act->World->Prop
 | .normal,_,W'=>ae (fun k=>R k\/T k) W0 W'/\I xs T W'
 | .ret,_,W'=>ae T W0 W'/\Ix .ret xs T W'
 | .exit id,_,W'=>ae T W0 W'/\Ix (.exit id) xs T W'
 | .goto t,_,W'=>ae T W0 W'/\Ix (.goto t) xs T W'
 | .panic _,_,_=>False
 | .outgrown,_,_=>False
variable {F:Fence}
theorem G8 {α:Type} (hF:∀ f,F.fn f) (hC:∀ {f args w R},Calls P f args w R->CallsIn F 0 P f args w R) (hYd:∀ {l f tmps DB body w R},RoundIn F 0 P l f tmps DB body w R->RoundIn Fence.wide 0 P l f tmps DB body w R) {gf:Nat} {lb:Array Value} {mU:α->Array Value} {R:Nat->Prop} {xs:List α} {w:World} (hseq:Seq d P gf lb mU R xs w) {ps:Array Tmp} {assign body:Code} {fn:FuncId} (tmps:Array Value) (dfr:Nat) (Td:∀ x,(mU x).size=ps.size) (TD:∀ k,R k->k<w.heap.size) (l:Nat) (T0:Nat->Prop) (N9:∀ k,T0 k->w.heap.size<=k/\k<l+1) (WZ:T0 l) (W1:World) (hls:W1.heap.size=l+1) (hl:W1.heap[l]? =some (.loop {state:=.ready,pending:=none,fn,tmps,params:=ps,assign,body,defers:=dfr})) (hW1:Ext w W1) (I:List α->(Nat->Prop)->World->Prop) (Ix:Code->List α->(Nat->Prop)->World->Prop) (hI:eR d w.heap.size I) (TE:∀ c,eR d w.heap.size (Ix c)) (h0:I [] T0 W1) (Ia:List α×α×Act->(Nat->Prop)->World->Prop) (hIa:eR d w.heap.size Ia) (qM:∀ pre x T W,pre++ [x]<+:xs->(∀ k,T0 k->T k)->(∀ k,T k->w.heap.size<=k/\k<W.heap.size)->ae R w W->I pre T W-> assign.wpIn (F.inRound l) 0 P (Exit.then (fun a1 W'=>ae (fun k=>R k\/T k) W W'/\Ia (pre,x,a1) T W') (fun _ _ _=>False)) {tmps:=(ps.zip (mU x)).foldl (fun t (p,v)=>t.setIfInBounds p v) tmps,defers:=[]} W)
  (DJ:∀ pre x T a1 W,pre++ [x]<+:xs->(∀ k,T0 k->T k)->(∀ k,T k->w.heap.size<=k/\k<W.heap.size)->ae R w W->(∃ r:Loop,W.heap[l]? =some (.loop r)/\r.defers=dfr)->Ia (pre,x,a1) T W->
   body.wpIn (F.inRound l) 0 P (G7 R T W I Ix (pre++ [x])) a1 W):
  CallsIn F 0 P gf (#[.func (.yield l) #[] #[]]++lb) W1 fun e W3=>(∃ v,e=.returned v)/\∃ T W4 jump,(Instr.endLoop l).run P W3=.ok jump W4/\(∀ k,T0 k->T k)/\(∀ k,T k->w.heap.size<=k/\k<W4.heap.size)/\
   (∀ k,T0 k->k≠l->W4.heap[k]? =W1.heap[k]?)/\ae (fun k=>R k\/T0 k) W1 W1/\
   match jump with
   | none=>I xs T W4
   | some c=>∃ pre,pre<+:xs/\Ix c pre T W4:=by
 obtain⟨rec,sD⟩:∃ rec:LoopState->Option Code->Loop,rec=fun st pe=> {state:=st,pending:=pe,fn,tmps,params:=ps,assign,body,defers:=dfr} :=⟨_,rfl⟩
 have zu:W1.heap[l]? =some (.loop (rec .ready none)):=by rw[sD];exact hl
 have hTu:∀ {T:Nat->Prop} {W:World},(∀ k,T k->W1.heap.size<=k/\k<W.heap.size)->l<W.heap.size->∀ k,(T k\/T0 k)->w.heap.size<=k/\k<W.heap.size:=fun hT hlW k hk=>by
  have hsz:=hW1.size;rcases hk with hk | hk
  ·have:=hT k hk;omega
  ·have:=N9 k hk;omega
 -- the invariant with the record beside it
 have Oz:∀ {β:Type} {G:β->(Nat->Prop)->World->Prop} (rs:β->Loop->Prop),eR d w.heap.size G->
   eR d W1.heap.size (fun (s:β) T W=>G s (fun k=>T k\/T0 k) W/\(∃ r,rs s r/\W.heap[l]? =some (.loop r))/\(∀ k,T0 k->k≠l->W.heap[k]? =W1.heap[k]?)/\l<W.heap.size):=by
  intro β G rs hG s T T' W W' hs h1 h2 h3 h4 h5;obtain⟨hg,⟨r,hr,hlW⟩,hk,hlt⟩:=hs;have OA:∀ k,T0 k->W'.heap[k]? =W.heap[k]? :=fun k hk=>h5.1.keep k ⟨by have:=(N9 k hk).2;omega,fun ht=>by have:=(h1 k ht).1;have:=(N9 k hk).2;omega⟩
  refine⟨hG s _ _ W W' hg (hTu h1 hlt) (hTu h2 (aA hlt h5.1.size)) (fun k hk=>hk.imp (h3 k) id) (fun k hk=>?_) (h5.mono fun k hk=>.inl hk),⟨r,hr,(OA l WZ).trans hlW⟩,fun k lH hne=>(OA k lH).trans (hk k lH hne),aA hlt h5.1.size⟩;rcases hk with hk | hk
  ·exact(h4 k hk).imp .inl id
  ·exact .inl (.inr hk)
 have zv:¬R l:=fun h=>by have:=TD l h;have:=(N9 l WZ).1;omega
 refine CallsIn.mono (hC (hseq l (fun pre T W=>I pre (fun k=>T k\/T0 k) W/\(∃ r,r=rec .ready none/\W.heap[l]? =some (.loop r))/\(∀ k,T0 k->k≠l->W.heap[k]? =W1.heap[k]?)/\l<W.heap.size)
  (fun pre T W=>∃ c,Ix c pre (fun k=>T k\/T0 k) W/\(∃ r,r=rec .done (some c)/\W.heap[l]? =some (.loop r))/\(∀ k,T0 k->k≠l->W.heap[k]? =W1.heap[k]?)/\l<W.heap.size)
  W1 hW1.keeps (Oz (fun _ r=>r=rec .ready none) hI)
  (fun s T T' W W' ⟨c,hc⟩ h1 h2 h3 h4 h5=>⟨c,Oz (fun _ r=>r=rec .done (some c)) (TE c) s T T' W W' hc h1 h2 h3 h4 h5⟩) ?_
  ⟨hI _ _ _ W1 W1 h0 (fun k hk=>⟨(N9 k hk).1,by have:=(N9 k hk).2;omega⟩) (hTu (fun _ h=>h.elim) (by omega)) (fun k hk=>.inr hk) (fun k hk=>.inl (hk.resolve_left id)) (Move.refl _ _ _),⟨_,rfl,zu⟩,fun _ _ _=>rfl,by omega⟩)) ?_
 ·-- one round
  rintro pre x T W bO hT hRW ⟨hi,⟨r0,hr0,hlW⟩,hkD,hlt⟩;subst hr0;have hy:=run_yield (P:=P) (args:=mU x) hlW (by rw[sD];exact Td x);rw[sD]at hy;have Te:=hTu hT hlt;have aa6:ae R w W:=(hW1.mono TD).tr hRW;refine⟨fn,_,assign,body,hy,hYd (roundIn_of_wpIn (hF fn) (wpIn_mono (qM pre x _ W bO (fun k hk=>.inr hk) Te aa6 hi) ?_))⟩;rintro e a1 Wa hp;cases e with
  | normal=>
   obtain⟨hka,hia⟩:=hp;have hla:Wa.heap[l]? =some (.loop (rec .ready none)):=(hka.keep l (.inr (.inr WZ))).trans hlW;have Xa:l<Wa.heap.size:=aA hlt hka.size;refine⟨_,run_beginRound hla (by rw[sD]),?_⟩;obtain⟨Wb,Z4⟩:∃ Wb,Wb=Wa.putObj l (.loop {rec .ready none with state:=.busy}):=⟨_,rfl⟩;rw[<-Z4];have my:Wb.heap.size=Wa.heap.size:=by rw[Z4];simp
   have TF:Wb.heap[l]? =some (.loop {rec .ready none with state:=.busy}):=by rw[Z4];exact World.putObj_heap_same Xa
   have hab:∀ {S:Nat->Prop},¬S l->ae S Wa Wb:=fun hS=>by rw[Z4];exact(ae.refl _ _).putObj hS _
   have OB:∀ k,(T k\/T0 k)->w.heap.size<=k/\k<Wa.heap.size:=fun k hk=>⟨(Te k hk).1,aA (Te k hk).2 hka.size⟩
   have hib:Ia (pre,x,a1) (fun k=>T k\/T0 k) Wb:=hIa _ _ _ Wa Wb hia OB (fun k hk=>by rw[my];exact OB k hk) (fun _ h=>h) (fun _ h=>.inl h) (by rw[Z4];exact .put (.inr WZ) _);have ae5:ae R w Wb:=aa6.tr ((hka.mono fun k hk=>.inl hk).tr (hab zv));refine wpIn_mono (DJ pre x _ a1 Wb bO (fun k hk=>.inr hk) (fun k hk=>by rw[my];exact OB k hk) ae5 ⟨_,TF,by rw[sD]⟩ hib) ?_
   -- the round's end
   have fin:∀ (jump:Option Code) (Wc:World) (G:(Nat->Prop)->World->Prop),(∀ T T' W W',G T W->(∀ k,T k->w.heap.size<=k/\k<W.heap.size)->(∀ k,T' k->w.heap.size<=k/\k<W'.heap.size)->(∀ k,T k->T' k)->(∀ k,T' k->T k\/W.heap.size<=k)->Move d T W W'->G T' W')->
     ae (fun k=>T k\/T0 k) Wb Wc->G (fun k=>T k\/T0 k) Wc->
     ∃ Wd,(Instr.endRound l jump).run P Wc=.ok (.bool jump.isNone) Wd/\G (fun k=>T k\/T0 k) Wd/\Wd.heap[l]? =some (.loop (rec (if jump.isNone then .ready else .done) jump))/\(∀ k,T0 k->k≠l->Wd.heap[k]? =W1.heap[k]?)/\l<Wd.heap.size/\ae T W Wd/\(∀ S:Nat->Prop,¬S l->ae S Wb Wc->ae S Wa Wd):=by
    intro jump Wc G hG yE hg;have hlc:Wc.heap[l]? =some (.loop {rec .ready none with state:=.busy}):=(yE.keep l (.inr WZ)).trans TF;have aa7:l<Wc.heap.size:=by rw[<-my]at Xa;exact aA Xa yE.size
    have hend:=run_endRound (P:=P) jump hlc;rw[sD]at hend ⊢;have aa8:∀ k,(T k\/T0 k)->w.heap.size<=k/\k<Wc.heap.size:=fun k hk=>⟨(OB k hk).1,by have:=(OB k hk).2;rw[<-my]at this;exact aA this yE.size⟩
    have TG:∀ {S:Nat->Prop},¬S l->ae S Wa (Wc.putObj l (.loop (rec (if jump.isNone then .ready else .done) jump)))\/¬ae S Wb Wc:=fun {S} hS=>by
     by_cases h:ae S Wb Wc
     ·exact .inl (((hab hS).tr h).putObj hS _)
     ·exact .inr h
    have yF:¬T l:=fun h=>by have:=(hT l h).1;omega
    rw[sD]at TG;refine⟨_,hend,hG _ _ Wc _ hg aa8 (fun k hk=>by simpa using aa8 k hk) (fun _ h=>h) (fun _ h=>.inl h) (.put (.inr WZ) _),World.putObj_heap_same aa7,fun k hk hne=>?_,by simpa using aa7,?_,fun S hS hk=>(TG hS).resolve_right (fun h=>h hk)⟩
    ·rw[World.putObj_heap_other hne,yE.keep k (.inr hk),Z4,World.putObj_heap_other hne,hka.keep k (.inr (.inr hk))]
     exact hkD k hk hne
    ·exact(hka.mono fun k hk=>.inr (.inl hk)).tr ((TG yF).resolve_right (fun h=>h (yE.mono fun k hk=>.inl hk)))
   rintro e a3 Wc hp;cases e with
   | normal=>
    obtain⟨yE,Xb⟩:=hp;obtain⟨Wd,hend,hg,Xc,G9,Ha,Z5,hS⟩:=fin none Wc (I (pre++ [x])) (fun T T' W W'=>hI (pre++ [x]) T T' W W') (yE.mono fun k hk=>.inr hk) Xb;refine⟨_,Wd,hend,.inl ⟨rfl,⟨hg,⟨_,rfl,Xc⟩,G9,Ha⟩,?_⟩⟩;have yF:¬ (R l\/T l):=fun h=>h.elim zv (fun h=>by have:=(hT l h).1;omega)
    exact(hka.mono fun k hk=>hk.imp id .inl).tr (hS _ yF (yE.mono fun k hk=>hk.imp id .inl))
   | ret=>
    obtain⟨yE,Xb⟩:=hp;obtain⟨Wd,hend,hg,Xc,G9,Ha,Z5,hS⟩:=fin (some .ret) Wc (Ix .ret (pre++ [x])) (fun T T' W W'=>TE .ret (pre++ [x]) T T' W W') yE Xb;exact⟨_,Wd,hend,.inr ⟨rfl,⟨_,hg,⟨_,rfl,Xc⟩,G9,Ha⟩,Z5⟩⟩
   | exit id=>
    obtain⟨yE,Xb⟩:=hp;obtain⟨Wd,hend,hg,Xc,G9,Ha,Z5,hS⟩:=fin (some (.exit id)) Wc (Ix (.exit id) (pre++ [x])) (fun T T' W W'=>TE (.exit id) (pre++ [x]) T T' W W') yE Xb;exact⟨_,Wd,hend,.inr ⟨rfl,⟨_,hg,⟨_,rfl,Xc⟩,G9,Ha⟩,Z5⟩⟩
   | goto t=>
    obtain⟨yE,Xb⟩:=hp;obtain⟨Wd,hend,hg,Xc,G9,Ha,Z5,hS⟩:=fin (some (.goto t)) Wc (Ix (.goto t) (pre++ [x])) (fun T T' W W'=>TE (.goto t) (pre++ [x]) T T' W W') yE Xb;exact⟨_,Wd,hend,.inr ⟨rfl,⟨_,hg,⟨_,rfl,Xc⟩,G9,Ha⟩,Z5⟩⟩
   | panic ch=>exact hp.elim
   | outgrown=>exact hp.elim
  | exit id=>exact hp.elim
  | goto t=>exact hp.elim
  | ret=>exact hp.elim
  | panic ch=>exact hp.elim
  | outgrown=>exact hp.elim
 ·-- behind the iterator
  rintro e W2 ⟨hv,T,hT,h⟩;refine⟨hv,fun k=>T k\/T0 k,?_⟩
  have fin:∀ (st:LoopState) (jump:Option Code) (G:(Nat->Prop)->World->Prop),st≠ .busy->(∀ T T' W W',G T W->(∀ k,T k->w.heap.size<=k/\k<W.heap.size)->(∀ k,T' k->w.heap.size<=k/\k<W'.heap.size)->(∀ k,T k->T' k)->(∀ k,T' k->T k\/W.heap.size<=k)->Move d T W W'->G T' W')->
    G (fun k=>T k\/T0 k) W2->W2.heap[l]? =some (.loop (rec st jump))->(∀ k,T0 k->k≠l->W2.heap[k]? =W1.heap[k]?)->l<W2.heap.size->
    ∃ W4,(Instr.endLoop l).run P W2=.ok jump W4/\(∀ k,(T k\/T0 k)->w.heap.size<=k/\k<W4.heap.size)/\(∀ k,T0 k->k≠l->W4.heap[k]? =W1.heap[k]?)/\G (fun k=>T k\/T0 k) W4:=by
   intro st jump G hst hG hg hl2 hk2 Hb;have hend:=run_endLoop (P:=P) hl2 (by rw[sD];exact hst);rw[sD]at hend;have Te:=hTu hT Hb;exact⟨_,hend,fun k hk=>by simpa using Te k hk,fun k hk hne=>(World.putObj_heap_other hne).trans (hk2 k hk hne),hG _ _ W2 _ hg Te (fun k hk=>by simpa using Te k hk) (fun _ h=>h) (fun _ h=>.inl h) (.put (.inr WZ) _)⟩
  rcases h with⟨hi,⟨r,hr,hl2⟩,hk2,Hb⟩ | ⟨pre,bO,c,hi,⟨r,hr,hl2⟩,hk2,Hb⟩
  ·subst hr
   obtain⟨W4,h1,h2,h3,h4⟩:=fin .ready none (I xs) (by decide) (fun T T' W W'=>hI xs T T' W W') hi hl2 hk2 Hb;exact⟨W4,none,h1,fun k hk=>.inr hk,h2,h3,ae.refl _ _,h4⟩
  ·subst hr
   obtain⟨W4,h1,h2,h3,h4⟩:=fin .done (some c) (Ix c pre) (by decide) (fun T T' W W'=>TE c pre T T' W W') hi hl2 hk2 Hb;exact⟨W4,some c,h1,fun k hk=>.inr hk,h2,h3,ae.refl _ _,pre,bO,h4⟩
theorem ax {c:Code} {Q:Exit->Act->World->Prop} {a:Act} {w:World} (h:∀ W,W=w->c.wp P Q a W):c.wp P Q a w:=h w rfl
theorem Hc {F:Fence} {n:Nat} {c:Code} {Q:Exit->Act->World->Prop} {a:Act} {w:World} (h:∀ W,W=w->c.wpIn F n P Q a W):c.wpIn F n P Q a w:=h w rfl
theorem vB {α:Type} {g:Operand} {ps:Array Tmp} {assign body:Code} {Q:Exit->Act->World->Prop} {a:Act} {w:World} {gf:Nat} {lb:Array Value} {mU:α->Array Value} {R:Nat->Prop} {xs:List α} (hseq:Seq d P gf lb mU R xs w) (hg:a.eval g=.func (.func gf) #[] lb) (eg:∀ args w,(callFunc gf args).run P w=.ok (.enter gf args) w) (Td:∀ x,(mU x).size=ps.size) (TD:∀ k,R k->k<w.heap.size) (I:List α->(Nat->Prop)->World->Prop) (Ix:Code->List α->(Nat->Prop)->World->Prop) (hI:eR d w.heap.size I) (TE:∀ c,eR d w.heap.size (Ix c)) (h0:I [] (fun _=>False) w) (Ia:List α×α×Act->(Nat->Prop)->World->Prop) (hIa:eR d w.heap.size Ia) (qM:∀ l pre x T W,pre++ [x]<+:xs->(∀ k,T k->w.heap.size<=k/\k<W.heap.size)->ae R w W->I pre T W-> assign.wpIn (Fence.wide.inRound l) 0 P (Exit.then (fun a1 W'=>ae (fun k=>R k\/T k) W W'/\Ia (pre,x,a1) T W') (fun _ _ _=>False)) {tmps:=(ps.zip (mU x)).foldl (fun t (p,v)=>t.setIfInBounds p v) a.tmps,defers:=[]} W)
  (DJ:∀ l pre x T a1 W,pre++ [x]<+:xs->(∀ k,T k->w.heap.size<=k/\k<W.heap.size)->ae R w W->T l->(∃ r:Loop,W.heap[l]? =some (.loop r))->Ia (pre,x,a1) T W->
   body.wpIn (Fence.wide.inRound l) 0 P (G7 R T W I Ix (pre++ [x])) a1 W)
  (hdone:∀ D T W,w.heap.size<=D->T D->(∀ k,T k->w.heap.size<=k/\k<W.heap.size)->I xs T W->W.heap[D]? =some (.deferred (some []))->Q .normal {a with defers:= {target:=.collected D,args:= #[]} ::a.defers} W)
  (OC:∀ D c pre T W,w.heap.size<=D->T D->(∀ k,T k->w.heap.size<=k/\k<W.heap.size)->pre<+:xs->Ix c pre T W->W.heap[D]? =some (.deferred (some []))->c.wp P Q {a with defers:= {target:=.collected D,args:= #[]} ::a.defers} W):
  (Code.rangeFunc g ps assign body).wp P Q a w:=by
 refine wpIn_wide.1 (wpIn_rangeFunc (n:=0) ?_);intro fn hfn;obtain⟨W1,hW1⟩:∃ W1,W1=(w.alloc (.deferred (some []))).alloc (.loop {state:=.ready,pending:=none,fn,tmps:=a.tmps,params:=ps,assign,body,defers:=w.heap.size}):=⟨_,rfl⟩;have hL1:W1.heap[w.heap.size+1]? =some (.loop {state:=.ready,pending:=none,fn,tmps:=a.tmps,params:=ps,assign,body,defers:=w.heap.size}):=by
  rw[hW1];have:=World.alloc_heap_new (w.alloc (.deferred (some []))) (.loop {state:=.ready,pending:=none,fn,tmps:=a.tmps,params:=ps,assign,body,defers:=w.heap.size});rwa[World.size_alloc]at this
 have hK1:W1.heap[w.heap.size]? =some (.deferred (some [])):=by rw[hW1];exact(Below.heap_alloc _ _ _ (by simp)).trans (World.alloc_heap_new w _)
 have hsz:W1.heap.size=w.heap.size+1+1:=by rw[hW1];simp
 have hx1:Ext w W1:=by rw[hW1];exact((Ext.refl w).alloc _).alloc _
 refine⟨w.heap.size+1,[{target:=.collected w.heap.size,args:= #[]}],W1, {target:=.fn (.func gf) lb,args:= #[.func (.yield (w.heap.size+1)) #[] #[]]},W1,gf,
  #[.func (.yield (w.heap.size+1)) #[] #[]]++lb,W1,?_,?_,?_,?_,fun h=>(by cases h),?_⟩
 ·rw[hW1];exact run_enterLoop_outer _ _ _ _ _
 ·simp only[resolve,hg]
  simp[go_sem]
 ·intro f' _;trivial
 ·simp[invoke,go_sem,eg]
 ·refine(G8 (F:=Fence.wide) (fun _=>trivial) (fun h=>callsIn_wide.2 h) (fun h=>h) hseq a.tmps w.heap.size Td TD (w.heap.size+1) (fun k=>k=w.heap.size\/k=w.heap.size+1) (fun k hk=>by omega) (.inr rfl) W1 hsz hL1 hx1 I Ix hI TE
   (hI _ _ _ w W1 h0 (fun _ h=>h.elim) (fun k hk=>by omega) (fun _ h=>h.elim) (fun k hk=>.inr (by omega)) (.ext hx1)) Ia hIa
   (fun pre x T W h1 _ h3 h4 h5=>qM _ pre x T W h1 h3 h4 h5) (fun pre x T a1 W h1 h2 h3 h4 ⟨r,h5,_⟩ h6=>DJ _ pre x T a1 W h1 h3 h4 (h2 _ (.inr rfl)) ⟨r,h5⟩ h6)).mono ?_
  rintro e W3 ⟨⟨v,rfl⟩,T,W4,jump,hend,N9,hT,hk,_,hj⟩;refine⟨jump,W4,hend,?_⟩;have hD:W4.heap[w.heap.size]? =some (.deferred (some [])):=(hk _ (.inl rfl) (by omega)).trans hK1;cases jump with
  | none=>exact hdone _ T W4 (aD _) (N9 _ (.inl rfl)) hT hj hD
  | some c=>
   obtain⟨pre,bO,hx⟩:=hj;exact wpIn_wide.2 (OC _ c pre T W4 (aD _) (N9 _ (.inl rfl)) hT bO hx hD)
theorem iw {α:Type} {g:Operand} {ps:Array Tmp} {assign body:Code} {Q:Exit->Act->World->Prop} {a:Act} {w:World} {gf:Nat} {lb:Array Value} {mU:α->Array Value} {R:Nat->Prop} {xs:List α} (hseq:Seq d P gf lb mU R xs w) (hg:a.eval g=.func (.func gf) #[] lb) (eg:∀ args w,(callFunc gf args).run P w=.ok (.enter gf args) w) (Td:∀ x,(mU x).size=ps.size) (TD:∀ k,R k->k<w.heap.size) (I:List α->(Nat->Prop)->World->Prop) (Ix:Code->List α->(Nat->Prop)->World->Prop) (hI:eR d w.heap.size I) (TE:∀ c,eR d w.heap.size (Ix c)) (h0:I [] (fun _=>False) w) (a₁:α->Act) (qM:∀ l x W (K:Act->World->Prop),K (a₁ x) W->assign.wpIn (Fence.wide.inRound l) 0 P (Exit.then K (fun _ _ _=>False)) {tmps:=(ps.zip (mU x)).foldl (fun t (p,v)=>t.setIfInBounds p v) a.tmps,defers:=[]} W)
  (DJ:∀ l pre x T W,pre++ [x]<+:xs->(∀ k,T k->w.heap.size<=k/\k<W.heap.size)->ae R w W->T l->(∃ r:Loop,W.heap[l]? =some (.loop r))->I pre T W->
   body.wpIn (Fence.wide.inRound l) 0 P (G7 R T W I Ix (pre++ [x])) (a₁ x) W)
  (hdone:∀ D T W,w.heap.size<=D->T D->(∀ k,T k->w.heap.size<=k/\k<W.heap.size)->I xs T W->W.heap[D]? =some (.deferred (some []))->Q .normal {a with defers:= {target:=.collected D,args:= #[]} ::a.defers} W)
  (OC:∀ D c pre T W,w.heap.size<=D->T D->(∀ k,T k->w.heap.size<=k/\k<W.heap.size)->pre<+:xs->Ix c pre T W->W.heap[D]? =some (.deferred (some []))->c.wp P Q {a with defers:= {target:=.collected D,args:= #[]} ::a.defers} W):
  (Code.rangeFunc g ps assign body).wp P Q a w:=
 vB hseq hg eg Td TD I Ix hI TE h0 (fun z T W=>z.2.2=a₁ z.2.1/\I z.1 T W) (fun z T T' W W' hz h1 h2 h3 h4 h5=>⟨hz.1,hI z.1 T T' W W' hz.2 h1 h2 h3 h4 h5⟩)
  (fun l pre x T W _ _ _ hi=>qM l x W _ ⟨ae.refl _ _,rfl,hi⟩) (fun l pre x T a1 W h1 h2 h3 h4 h5 h6=>by obtain⟨h6,h7⟩:=h6;dsimp only at h6;subst h6;exact DJ l pre x T W h1 h2 h3 h4 h5 h7) hdone OC
theorem cq {f:FuncId} {fn:Func} {c:Code} {args:Array Value} {w:World} {R:Ending->World->Prop} (hf:P.funcs[f]? =some fn) (hb:fn.body=some c) (h:c.wp P (bodyPostM Fence.wide 0 P fn R) {tmps:=args++Array.replicate (fn.ntmps-args.size) undef,defers:=[]} w):Calls P f args w R:=
 callsIn_wide.1 (callsIn_of_wp_marks hf hb trivial (wpIn_wide.2 h))
theorem dn {fn:Func} {R:Ending->World->Prop} {a:Act} {W:World} {D:Nat} {v:Value} (hd:a.defers=[{target:=.collected D,args:= #[]}]) (hD:W.heap[D]? =some (.deferred (some []))) (hr:(results fn a.tmps).run P (W.putObj D (.deferred none))=.ok v (W.putObj D (.deferred none))) (hR:R (.returned v) (W.putObj D (.deferred none))):bodyPostM Fence.wide 0 P fn R .ret a W:=by show LeavesInM Fence.wide 0 P fn a.tmps R a.defers .returning W;rw[hd];exact⟨by simp,.inl ⟨_,_,rfl,run_takeDeferred hD,v,hr,hR⟩⟩
theorem uJ {fn:Func} {R:Ending->World->Prop} {a:Act} {W:World} {D:Nat} {v:Value} (hd:a.defers=[{target:=.collected D,args:= #[]}]) (hD:W.heap[D]? =some (.deferred (some []))) (hr:(results fn a.tmps).run P (W.putObj D (.deferred none))=.ok v (W.putObj D (.deferred none))) (hR:R (.returned v) (W.putObj D (.deferred none))):bodyPostM Fence.wide 0 P fn R .normal a W:=
 dn hd hD hr hR
theorem yG {fn:Func} {R:Ending->World->Prop} {a:Act} {W:World} {v:Value} (hd:a.defers=[]) (hr:(results fn a.tmps).run P W=.ok v W) (hR:R (.returned v) W):bodyPostM Fence.wide 0 P fn R .ret a W:=by show LeavesInM Fence.wide 0 P fn a.tmps R a.defers .returning W;rw[hd];exact⟨v,hr,hR⟩
theorem DK {W:World} {D:Nat} {o o':Obj} (h:W.heap[D]? =some o) (ho:o.isCells=false) (GH:o'.isCells=false) (a:Addr):(W.putObj D o').cell? a=W.cell? a:=by
 by_cases hb:a.block=D
 ·have h1:=World.putObj_heap_same (o:=o') (Array.getElem?_eq_some_iff.1 h).1
  simp only[World.cell?,hb,h,h1];cases o<;>cases o'<;>first | rfl | (simp[Obj.isCells]at ho GH)
 ·exact World.cell?_of_block (World.putObj_heap_other hb)
end
end
section
open Go Go.RowKit
section
variable {F:Fence} {n:Nat} {P:Program} {C:World→Prop} {ops:Array Oper}
structure en (p:Prop):Prop where
 out:p
theorem ft {eff:Nat->Bool} {Q:Act->World->Prop} {o:Oper} {rest:List Oper} {k:Nat} {a:Act} {w:World} (h:∀ K:Act->World->Prop,(∀ a w,en (kh F n P C ops eff Q rest (k+1) a w)->K a w)->dS F n P C ops (eff k) o K a w):en (kh F n P C ops eff Q (o::rest) k a w):=⟨bN fun K hK=>h K fun a w hl=>hK a w hl.out⟩
theorem DL {eff:Nat->Bool} {Q:Act->World->Prop} {k:Nat} {a:Act} {w:World} (h:Q a w):en (kh F n P C ops eff Q [] k a w):=⟨h⟩
theorem TH {eO:Bool} {o:Oper} {K:Act->World->Prop} {a:Act} {w:World} (he:eO=false) (hw:Region.wanted o (yielded ops a.tmps)=true) (h:∃ v,(∀ W: {W//C W},aB P o a v W.1)/\K (a.put o.dst v) w):dS F n P C ops eO o K a w:=by subst he;exact dw hw h
theorem OD {eO:Bool} {o:Oper} {K:Act->World->Prop} {a:Act} {w:World} (he:eO=true) (hw:Region.wanted o (yielded ops a.tmps)=true) (h:ji F n P C o.dst a K ((execOp a.eval o).run P w)):dS F n P C ops eO o K a w:=by subst he;exact eH hw h
theorem jo {op:Oper} {a:Act} {W:World} (ty:TypeId) (x:Operand) (ho:op.op=.load ty x) (b o:Nat) (hx:a.eval x=.pointer (some ⟨b,o,none⟩)) (cs:Array Value) (d:TypeDesc) (hc:W.rangeAt b o cs.toList) (hu:P.underlying ty=some d) (hd:d.isRow=true) (hi:(P.info? ty).map (·.size)=some cs.size):aB P op a (.agg cs) W:=by refine .inl ?_;unfold execOp;simp only[ho,hx,Instr.loadAt,Instr.sureAddr,Sem.run_bind,Sem.run_pure,Result.andThen_ok,run_loadVar_mid W b o ty cs.toList d hc hu hd (by rw[Array.length_toList];exact hi)]
theorem fJ {w w':World} {R:Nat->Prop} {b o:Nat} {cs:List Value} (h:w.rangeAt b o cs) (hk:ae R w w') (hb:R b):w'.rangeAt b o cs:=fun j v hj=>(hk.cell (p:=⟨b,o+j,none⟩) hb).trans (h j v hj)
theorem qN {o:Oper} {a:Act} {w:World} {K:Act->World->Prop} (s x:Operand) (t:TypeId) (ho:o.op=.call {callee:=.builtin .append,args:= #[s,x],argTypes:= #[t,t]}) (base:Nat) (e:TypeId) (i:TypeInfo) (z:Value) (size bytes:Nat) (ht:P.underlying t=some (.slice e)) (hi:P.info? e=some i) (hz:i.zero=some z) (hsize:i.size=size) (hby:i.bytes=bytes) (hzs:z.cells.size=size) (hsz:0<size) (v:Value) (m:Nat) (xs:List Value) (hs:a.eval s=v) (hown:w.ownsRow base e size v m xs) (ad:Addr) (k c:Nat) (news:List Value) (hx:a.eval x=.slice (some ad) k c) (hl:news.length=k*size) (hnews:∀ j u,news[j]? =some u->w.cell? (ad.add j)=some u) (h1:∀ u∈news,u.oneCell'=true) (h63:m+k<=maxLen) (hbytes:(m+k)*bytes<=140737488355328) (hbase:base<=w.heap.size) (h:∀ v' w',w'.ownsRow base e size v' (m+k) (xs++news)->w.grownBy w' v.ownBlock->(v'.ownBlock=v.ownBlock\/v'.ownBlock=some w.heap.size)->C w'/\K (a.put o.dst v') w'): ji F n P C o.dst a K ((execOp a.eval o).run P w):=by obtain⟨v',w',hr,h2,h3,h4,h5⟩:=run_append_own_at (P:=P) w base t o.type e i z size bytes ht hi hz hsize hby hzs hsz v m xs hown ad k c news hl hnews h1 h63 hbytes hbase;unfold execOp;simp only[ho,resolve,invoke,builtin,Sem.run_bind,Sem.run_pure,Result.andThen_ok,List.map_toArray,List.map_cons,List.map_nil,hs,hx,hr];exact h v' w' h2 h3 h5
end
end
section
open Go Go.RowKit
structure aZ (M:World->World->Prop) where
 P:Value->Prop
 H:Value->World->Prop
 nW:Value
 pw:P nW
 st:∀ v W W',M W W'->P v->H v W->H v W'
theorem Move.trans {d:Bool} {T:Nat->Prop} {A B C:World} (h:Move d T A B) (k:Move d T B C):Move d T A C:=
 ⟨h.1.trans k.1 fun _ hk=>⟨aA hk.1 h.1.size,hk.2⟩,fun hd=>Nat.le_trans (h.2 hd) (k.2 hd)⟩
def dG (ops:Array Oper) (j:Nat):Option Tmp:=(ops[j]?).bind (·.dst)
def jE (Cl:FuncId->Array Value->World->(Ending->World->Prop)->Prop) (Rd:Nat->FuncId->Array Value->Code->Code->World->(Ending->World->Prop)->Prop) (post:Value->World->Prop):Result Next->Prop
 | .ok (.value v) w'=>post v w'
 | .ok .skip w'=>post undef w'
 | .ok (.enter f args) w'=>Cl f args w' fun e w''=>∃ v,e=.returned v/\post v w''
 | .ok (.round l f tmps DB body) w'=>Rd l f tmps DB body w' fun e w''=>∃ v,e=.returned v/\post v w''
 | _=>False
def TI (S:Nat->(Act->World->Prop)->Act->World->Prop) (md:Region.Mode) (ops:Array Oper) (Qn:Act->World->Prop):Nat->Array Bool->Act->World->Prop
 | 0,listed,a,w=>Region.ready md ops listed=[]/\Qn a w
 | fuel+1,listed,a,w=>
  (Region.ready md ops listed=[]->Qn a w)/\
  ∀ i∈Region.ready md ops listed,S i (TI S md ops Qn fuel (listed.setIfInBounds i true)) a w
def zw (S:Nat->(Act->World->Prop)->Act->World->Prop) (Qn:Act->World->Prop):List Nat->Act->World->Prop
 | [],a,w=>Qn a w
 | i::rest,a,w=>S i (zw S Qn rest) a w
def needs (m:Nat) (aR:List (Nat× (World->Prop))) (W:World):Prop:=∀ x∈aR,m.testBit x.1=true->x.2 W
theorem needs.at {m:Nat} {aR:List (Nat× (World->Prop))} {W:World} (h:needs m aR W) (i:Nat) {x:Nat× (World->Prop)} (hx:aR[i]? =some x) (hm:m.testBit x.1=true):x.2 W:=h x (aw hx) hm
section
variable {P:Program} {Cl:FuncId→Array Value→World→(Ending→World→Prop)→Prop} {Rd:Nat→FuncId→Array Value→Code→Code→World→(Ending→World→Prop)→Prop}
  {ops:Array Oper} {eff:Nat→Bool} {cw:Nat→Nat} {M:World→World→Prop} {EP:Nat→aZ M} {C:World→Prop} {md:Region.Mode} {m:Nat}
def gK (ops:Array Oper) (a:Act) (val:Nat->Value):Nat->Act
 | 0=>a
 | i+1=>(gK ops a val i).put (dG ops i) (val i)
theorem fy {a:Act} {val val':Nat->Value} :∀ (i:Nat),(∀ j,j<i->val j=val' j)->gK ops a val i=gK ops a val' i
 | 0,_=>rfl
 | i+1,h=>by unfold gK;rw[fy i fun j hj=>h j (by omega),h i (by omega)]
def wantedAt (ops:Array Oper) (a:Act) (val:Nat->Value) (j:Nat):Prop:=∃ o,ops[j]? =some o/\Region.wanted o (yielded ops (gK ops a val j).tmps)=true
def sF (ops:Array Oper) (eff:Nat->Bool) (cw:Nat->Nat) (EP:Nat->aZ M) (a:Act) (val:Nat->Value) (i:Nat) (W:World):Prop:=
 ∀ j,j<i->wantedAt ops a val j->eff j=true->(cw i).testBit j=true->(EP j).H (val j) W
theorem jF {a:Act} {val val':Nat->Value} {j:Nat} (h:∀ k,k<j->val k=val' k):wantedAt ops a val j↔wantedAt ops a val' j:=by unfold wantedAt;rw[fy j h]
theorem pL {a:Act} {val val':Nat->Value} {i:Nat} (h:∀ k,k<i->val k=val' k):sF ops eff cw EP a val i=sF ops eff cw EP a val' i:=by
 funext W
 unfold sF;refine propext (forall_congr' fun j=>forall_congr' fun hj=>?_);rw[jF (val':=val') fun k hk=>h k (by omega),h j hj]
structure JU (ops:Array Oper) (a0:Act) (L:Nat->Prop) (val:Nat->Value) (a:Act):Prop where
 defers:a.defers=a0.defers
 size:a.tmps.size=a0.tmps.size
 old:∀ t,(∀ j,L j->dG ops j≠some t)->a.tmps[t]? =a0.tmps[t]?
 new:∀ j t,L j->dG ops j=some t->t<a0.tmps.size->a.tmps[t]? =some (val j)
theorem JU.start (a0:Act) (val:Nat->Value) {L:Nat->Prop} (hL:∀ j,¬L j):JU ops a0 L val a0:=⟨rfl,rfl,fun _ _=>rfl,fun j _ h=>(hL j h).elim⟩
theorem JU.put {a0 a:Act} {L L':Nat->Prop} {val:Nat->Value} (h:JU ops a0 L val a) (i:Nat) (hL:∀ j,L' j↔L j\/j=i) (hi:∀ j t,L j->dG ops j=some t->dG ops i≠some t):JU ops a0 L' val (a.put (dG ops i) (val i)):=by
 cases hd:dG ops i with
 | none=>
  refine⟨h.defers,h.size,fun t ht=>h.old t fun j hj=>ht j ((hL j).2 (.inl hj)),fun j t hj VJ Oa=>?_⟩;rcases(hL j).1 hj with hj | rfl
  ·exact h.new j t hj VJ Oa
  ·rw[hd]at VJ;cases VJ
 | some e=>
  refine⟨h.defers,by simp[Act.put,h.size],fun t ht=>?_,fun j t hj VJ Oa=>?_⟩
  ·have hne:e≠t:=fun he=>ht i ((hL i).2 (.inr rfl)) (by rw[hd,he])
   simp only[Act.put,Array.getElem?_setIfInBounds_ne hne];exact h.old t fun j hj=>ht j ((hL j).2 (.inl hj))
  ·rcases(hL j).1 hj with hj | rfl
   ·have hne:e≠t:=fun he=>hi j t hj VJ (by rw[hd,he])
    simp only[Act.put,Array.getElem?_setIfInBounds_ne hne];exact h.new j t hj VJ Oa
   ·rw[hd]at VJ;cases VJ
    simp only[Act.put];rw[Array.getElem?_setIfInBounds_self_of_lt (by rw[h.size];exact Oa)]
theorem JU.agree {a0 a a':Act} {L L':Nat->Prop} {val val':Nat->Value} (h:JU ops a0 L val a) (h':JU ops a0 L' val' a') {t:Nat} (hj:∀ j,dG ops j=some t->((L j↔L' j)/\(L j->val j=val' j))):a.tmps[t]? =a'.tmps[t]? :=by
 by_cases hex:∃ j,L j/\dG ops j=some t
 ·obtain⟨j,h1,h2⟩:=hex
  obtain⟨h3,h4⟩:=hj j h2;rcases Nat.lt_or_ge t a0.tmps.size with hlt | VK
  ·rw[h.new j t h1 h2 hlt,h'.new j t (h3.1 h1) h2 hlt,h4 h1]
  ·rw[Array.getElem?_eq_none (by rw[h.size];exact VK),Array.getElem?_eq_none (by rw[h'.size];exact VK)]
 ·rw[h.old t fun j h1 h2=>hex ⟨j,h1,h2⟩,h'.old t fun j h1 h2=>hex ⟨j,((hj j h2).1).2 h1,h2⟩]
theorem sG {o:Oper} (hs:∀ cs b,o.op≠ .select cs b) {a a':Act} (h:∀ t,t∈o.looksAt ops->a.tmps[t]? =a'.tmps[t]?): execOp a.eval o=execOp a'.eval o/\Region.wanted o (yielded ops a.tmps)=Region.wanted o (yielded ops a'.tmps):=by
 constructor
 ·refine execOp_congr o hs fun x hx=>?_
  cases x with
  | tmp t=>
   have:=h t (List.mem_append_left _ (List.mem_filterMap.2 ⟨.tmp t,by simpa using hx,rfl⟩));simp[Act.eval,this]
  | _=>rfl
 ·unfold Region.wanted
  cases hg:o.guard with
  | none=>rfl
  | some gw=>
   obtain⟨g,want⟩:=gw;have hy:yielded ops a.tmps g=yielded ops a'.tmps g:=by
    unfold yielded;cases ht:(ops[g]?).bind (·.dst)with
    | none=>rfl
    | some t=>
     have:=h t (by simp[Oper.looksAt,hg,ht]);simp[this]
   simp only[hy]
structure vC (md:Region.Mode) (ops:Array Oper) (cw:Nat->Nat) (m:Nat):Prop where
 le:m<=ops.size
 sel:∀ (j:Nat) (o:Oper) cs b,ops[j]? =some o->o.op≠ .select cs b
 DN:∀ (i:Nat) (o:Oper),ops[i]? =some o->∀ e∈o.after,Region.binds md e=true->e.on<i
 sound:∀ (i:Nat) (o:Oper) (j:Nat),ops[i]? =some o->(cw i).testBit j=true->∃ e∈o.after,Region.binds md e=true/\(e.on=j\/(cw e.on).testBit j=true)
 looks:∀ (i:Nat) (o:Oper) (t j:Nat),i<m->ops[i]? =some o->t∈o.looksAt ops->dG ops j=some t->(j<i->(cw i).testBit j=true)/\(i<j->(cw j).testBit i=true)
 TJ:∀ i j t,i<j->dG ops i=some t->dG ops j≠some t
 tail:∀ i j,m<=i->i<ops.size->j<i->(cw i).testBit j=true
theorem vC.Xd (ok:vC md ops cw m):∀ (i j:Nat) (o:Oper),ops[i]? =some o->(cw i).testBit j=true->j<i:=by
 intro i;induction i using Nat.strongRecOn with
 | ind i ih=>
  intro j o ho hj;obtain⟨e,he,hb,h⟩:=ok.sound i o j ho hj;have hlt:=ok.DN i o ho e he hb;rcases h with h | h
  ·omega
  ·have hes:e.on<ops.size:=by have:=(Array.getElem?_eq_some_iff.1 ho).1;omega
   have:=ih e.on hlt j _ (Array.getElem?_eq_getElem hes) h;omega
theorem vC.gK (ok:vC md ops cw m) (a0:Act) (val:Nat->Value):∀ i,JU ops a0 (fun j=>j<i) val (gK ops a0 val i)
 | 0=>JU.start a0 val fun j h=>by omega
 | i+1=>(ok.gK a0 val i).put i (fun j=>by constructor<;>intro h<;>omega) fun j t hj hd=>fun h=>ok.TJ j i t hj hd h
theorem count_set:∀ (l:List Bool) (i:Nat),l[i]? =some false->(l.set i true).count false+1=l.count false
 | [],_,h=>by simp at h
 | b::l,0,h=>by
  simp only[List.getElem?_cons_zero,Option.some.injEq]at h;subst h;simp
 | b::l,i+1,h=>by
  simp only[List.getElem?_cons_succ]at h;have:=count_set l i h;simp only[List.set_cons_succ,List.count_cons];omega
variable {S:Nat→(Act→World→Prop)→Act→World→Prop} {Qn:Act→World→Prop}
structure Hd (P:Program) (Cl:FuncId->Array Value->World->(Ending->World->Prop)->Prop) (Rd:Nat->FuncId->Array Value->Code->Code->World->(Ending->World->Prop)->Prop)
  (ops:Array Oper) (eff:Nat->Bool) (S:Nat->(Act->World->Prop)->Act->World->Prop):Prop where
 flt:∀ (i:Nat) (o:Oper) (K:Act->World->Prop) (a:Act) (w:World) (v:Value),ops[i]? =some o->eff i=false->Region.wanted o (yielded ops a.tmps)=true->aB P o a v w->K (a.put o.dst v) w->S i K a w
 eff:∀ (i:Nat) (o:Oper) (K:Act->World->Prop) (a:Act) (w:World),ops[i]? =some o->eff i=true->Region.wanted o (yielded ops a.tmps)=true->jE Cl Rd (fun v w'=>K (a.put o.dst v) w') ((execOp a.eval o).run P w)->S i K a w
 un:∀ (i:Nat) (o:Oper) (K:Act->World->Prop) (a:Act) (w:World),ops[i]? =some o->Region.wanted o (yielded ops a.tmps)=false->K (a.put o.dst undef) w->S i K a w
 mono:∀ (i:Nat) (K K':Act->World->Prop) (a:Act) (w:World),(∀ a w,K a w->K' a w)->S i K a w->S i K' a w
 VL:∀ (post post':Value->World->Prop) (r:Result Next),(∀ v w,post v w->post' v w)->jE Cl Rd post r->jE Cl Rd post' r
theorem He {listed:Array Bool} {j:Nat} (hj:j<listed.size):listed.getD j false=true\/listed.getD j true=false:=by simp[hj]
theorem zz (ok:vC md ops cw m) (so:Hd P Cl Rd ops eff S):∀ (r k:Nat) (fuel:Nat) (listed:Array Bool) (a:Act) (w:World),m<=k->k+r=ops.size->r<=fuel->listed.size=ops.size->(∀ j,j<ops.size->(listed.getD j false=true↔j<k))-> zw S Qn (List.range' k r) a w->TI S md ops Qn fuel listed a w:=by
 intro r;induction r with
 | zero=>
  intro k fuel listed a w hm hk hf hs hl h;have hnil:Region.ready md ops listed=[]:=by
   rw[List.eq_nil_iff_forall_not_mem];intro j hj;obtain⟨h1,o,ho,_⟩:=mem_ready.1 hj;have hjs:j<ops.size:=(Array.getElem?_eq_some_iff.1 ho).1;have h2:=(hl j hjs).2 (by omega);have Dt:j<listed.size:=by omega
   simp[Dt]at h1 h2;rw[h1]at h2;cases h2
  cases fuel with
  | zero=>exact⟨hnil,h⟩
  | succ fuel=>exact⟨fun _=>h,fun i hi=>by rw[hnil]at hi;cases hi⟩
 | succ r ih=>
  intro k fuel listed a w hm hk hf hs hl h;obtain⟨fuel,rfl⟩:∃ f,fuel=f+1:=⟨fuel-1,by omega⟩;have Tf:k<ops.size:=by omega
  have OE:∀ i,i∈Region.ready md ops listed↔i=k:=by
   intro i;rw[mem_ready];constructor
   ·rintro⟨h1,o,ho,hall⟩
    have TK:i<ops.size:=(Array.getElem?_eq_some_iff.1 ho).1;have gL:i<listed.size:=by omega
    have uK:¬listed.getD i false=true:=by simp[gL]at h1 ⊢;exact h1
    rw[hl i TK]at uK;by_cases hik:i=k
    ·exact hik
    ·exfalso
     obtain⟨e,he,hb,kE⟩:=ok.sound i o k ho (ok.tail i k (by omega) TK (by omega));have he1:=hall e he hb;have hes:=ok.DN i o ho e he hb;rw[hl e.on (by omega)]at he1;rcases kE with rfl | kE
     ·omega
     ·have:=ok.Xd e.on k _ (Array.getElem?_eq_getElem (by omega)) kE
      omega
   ·rintro rfl
    have gL:i<listed.size:=by omega
    have uK:¬listed.getD i false=true:=by rw[hl i Tf];omega
    refine⟨by simp[gL]at uK ⊢;exact uK,_,Array.getElem?_eq_getElem Tf,fun e he hb=>?_⟩;have hes:=ok.DN i _ (Array.getElem?_eq_getElem Tf) e he hb;exact(hl e.on (by omega)).2 hes
  refine⟨fun hnil=>?_,fun i hi=>?_⟩
  ·have:=(OE k).2 rfl
   rw[hnil]at this;cases this
  ·obtain rfl:=(OE i).1 hi
   rw[List.range'_succ]at h;refine so.mono i _ _ a w (fun a' w' h'=>?_) h;refine ih (i+1) fuel _ a' w' (by omega) (by omega) (by omega) (by simpa using hs) (fun j hj=>?_) h';by_cases mz:i=j
   ·subst mz
    have:i<listed.size:=by omega
    simp[this]
   ·rw[getD_set_ne false mz,hl j hj];omega
end
end
section
open Go Go.RowKit
def mV (md:Region.Mode) (ops:Array Oper) (cw:List Nat) (m:Nat):Bool:=
 Region.noSelect ops&&decide (m<=ops.size)&&(List.range ops.size).all fun i=>match ops[i]? with
  | none=>true
  | some o=>decide (cw.getD i 0<2^i)&&(o.after.all fun e=> !Region.binds md e || decide (e.on<i))&&
   (List.range ops.size).all fun j=>
    (!(cw.getD i 0).testBit j || o.after.any fun e=>Region.binds md e&&(e.on==j || (cw.getD e.on 0).testBit j))&&
    (match dG ops j with
     | none=>true
     | some t=>(decide (j<=i) || !(dG ops i==some t))&&(!decide (i<m) || !(o.looksAt ops).contains t || ((!decide (j<i) || (cw.getD i 0).testBit j)&&(!decide (i<j) || (cw.getD j 0).testBit i))))&&
    (!(decide (m<=i)&&decide (j<i)) || (cw.getD i 0).testBit j)
theorem Lv {md:Region.Mode} {ops:Array Oper} {cw:List Nat} {m:Nat} (h:mV md ops cw m=true):vC md ops (fun i=>cw.getD i 0) m:=by
 unfold mV at h;rw[Bool.and_eq_true,Bool.and_eq_true,List.all_eq_true]at h;obtain⟨⟨hs,hm⟩,hall⟩:=h
 have hi:∀ (i:Nat) (o:Oper),ops[i]? =some o->cw.getD i 0<2^i/\(∀ e∈o.after,Region.binds md e=true->e.on<i)/\
   ∀ j,j<ops.size->((cw.getD i 0).testBit j=true->∃ e∈o.after,Region.binds md e=true/\(e.on=j\/(cw.getD e.on 0).testBit j=true))/\
    (∀ t,dG ops j=some t->(j<=i\/dG ops i≠some t)/\(i<m->t∈o.looksAt ops->(j<i->(cw.getD i 0).testBit j=true)/\(i<j->(cw.getD j 0).testBit i=true)))/\
    (m<=i->j<i->(cw.getD i 0).testBit j=true):=by
  intro i o ho;have TK:i<ops.size:=(Array.getElem?_eq_some_iff.1 ho).1;have h1:=hall i (List.mem_range.2 TK);simp only[ho,Bool.and_eq_true,decide_eq_true_eq,List.all_eq_true,Array.all_eq_true_iff_forall_mem]at h1;obtain⟨⟨h1,h2⟩,h3⟩:=h1;refine⟨h1,fun e he hb=>?_,fun j hj=>?_⟩
  ·have:=h2 e he
   rw[hb]at this;simpa using this
  ·obtain⟨⟨h4,h5⟩,h6⟩:=h3 j (List.mem_range.2 hj)
   refine⟨fun hb=>?_,fun t ht=>?_,fun h7 h8=>?_⟩
   ·rw[hb,Bool.or_eq_true]at h4
    obtain⟨e,he,hx⟩:=Array.any_eq_true'.1 (h4.resolve_left (by decide));rw[Bool.and_eq_true,Bool.or_eq_true,beq_iff_eq]at hx;exact⟨e,he,hx.1,hx.2⟩
   ·rw[ht]at h5
    simp only[Bool.and_eq_true,Bool.or_eq_true,decide_eq_true_eq,Bool.not_eq_true',beq_eq_false_iff_ne,decide_eq_false_iff_not]at h5;refine⟨h5.1,fun h7 h8=>?_⟩;rcases h5.2 with(h9 | h9) | h9
    ·exact absurd h7 h9
    ·have:(o.looksAt ops).contains t=true:=List.contains_iff_mem.2 h8
     rw[h9]at this;cases this
    ·exact⟨fun h10=>h9.1.resolve_left (fun h=>h h10),fun h10=>h9.2.resolve_left (fun h=>h h10)⟩
   ·simp only[Bool.or_eq_true,Bool.not_eq_true',Bool.and_eq_false_iff,decide_eq_false_iff_not]at h6
    rcases h6 with(h6 | h6) | h6
    ·exact absurd h7 h6
    ·exact absurd h8 h6
    ·exact h6
 have hd:∀ j t,dG ops j=some t->j<ops.size:=fun j t h=>by
  rcases Nat.lt_or_ge j ops.size with h' | h'
  ·exact h'
  ·unfold dG at h;rw[Array.getElem?_eq_none h']at h;cases h
 have hlt:∀ (i:Nat) (o:Oper) (j:Nat),ops[i]? =some o->(cw.getD i 0).testBit j=true->j<i:=fun i o j ho hb=>by
  rcases Nat.lt_or_ge j i with h | h
  ·exact h
  ·rw[Nat.testBit_lt_two_pow (aA (hi i o ho).1 (Nat.pow_le_pow_right (by decide) h))]at hb;cases hb
 exact {
  le:=by simpa using hm
  sel:=fun j o cs b ho=>Region.noSelect_spec hs j o cs b ho
  DN:=fun i o ho=>(hi i o ho).2.1
  sound:=fun i o j ho hb=>((hi i o ho).2.2 j (by have:=hlt i o j ho hb;have:=(Array.getElem?_eq_some_iff.1 ho).1;omega)).1 hb
  looks:=fun i o t j Xe ho ht hj=>(((hi i o ho).2.2 j (hd j t hj)).2.1 t hj).2 Xe ht
  TJ:=fun i j t mz h1 h2=>by
   obtain⟨o,ho⟩:∃ o,ops[i]? =some o:=⟨_,Array.getElem?_eq_getElem (hd i t h1)⟩;rcases(((hi i o ho).2.2 j (hd j t h2)).2.1 t h2).1 with h | h
   ·omega
   ·exact h h1
  tail:=fun i j h1 h2 h3=>((hi i _ (Array.getElem?_eq_getElem h2)).2.2 j (by omega)).2.2 h1 h3}
def gz:Nat->FuncId->Array Value->Code->Code->World->(Ending->World->Prop)->Prop:=fun _ _ _ _ _ _ _=>False
section
variable {P:Program} {ops:Array Oper} {Q:Exit→Act→World→Prop} {eff:Nat→Bool}
theorem DO:Hd P (Calls P) gz ops eff (wpOp P ops Q) where
 flt:=fun i o K a w v ho _ hw hf hK=>by
  unfold wpOp;simp only[ho,hw,if_true];refine .inl ?_;unfold Oper.wp;unfold aB at hf;rcases hf with hf | ⟨hf,rfl⟩<;>rw[hf]<;>exact hK
 eff:=fun i o K a w ho _ hw he=>by
  unfold wpOp;simp only[ho,hw,if_true];refine .inl ?_;unfold Oper.wp;generalize (execOp a.eval o).run P w=r at he;cases r with
  | halt x w=>exact he.elim
  | ok x w=>
   cases x<;>simp only[jE]at he<;>simp only[Oper.upon]
   case value v=>exact he
   case skip=>exact he
   case enter f args=>exact Calls.mono he fun e w' ⟨v,hv,hK⟩=>by subst hv;exact hK
   case round=>exact he.elim
 un:=fun i o K a w ho hw hK=>by
  unfold wpOp;simp only[ho,hw,Bool.false_eq_true,if_false];exact hK
 mono:=fun i K K' a w h hS=>wpOp_mono h hS
 VL:=fun post post' r h he=>by
  cases r with
  | halt x w=>exact he.elim
  | ok x w=>
   cases x<;>simp only[jE]at he ⊢
   case value v=>exact h _ _ he
   case skip=>exact h _ _ he
   case enter f args=>exact Calls.mono he fun e w' ⟨v,hv,hK⟩=>⟨v,hv,h _ _ hK⟩
   case round=>exact he
theorem vD {md:Region.Mode} :∀ (fuel:Nat) (listed:Array Bool) (a:Act) (w:World),TI (wpOp P ops Q) md ops (fun a w=>Q .normal a w) fuel listed a w->wpAny P md ops Q fuel listed a w
 | 0,_,_,_,h=>h
 | fuel+1,_,_,_,h=>⟨h.1,fun i hi=>wpOp_mono (fun a w h=>vD fuel _ a w h) (h.2 i hi)⟩
theorem zA:∀ (l:List Nat) (a:Act) (w:World),(∀ i∈l,i<ops.size)->wpOps P ops Q l a w->zw (wpOp P ops Q) (fun a w=>Q .normal a w) l a w
 | [],_,_,_,h=>h
 | i::l,a,w,hl,h=>by
  rw[wpOps_cons]at h;exact wpOp_mono (fun a w h=>zA l a w (fun j hj=>hl j (bF _ hj)) h) h
end
section
variable {P:Program} {Cl:FuncId→Array Value→World→(Ending→World→Prop)→Prop} {Rd:Nat→FuncId→Array Value→Code→Code→World→(Ending→World→Prop)→Prop}
  {ops:Array Oper} {eff:Nat→Bool} {cw:Nat→Nat} {M:World→World→Prop} {EP:Nat→aZ M} {C:World→Prop} {Fin:List Oper→Act→World→Prop}
theorem bM {f:FuncId} {args:Array Value} {W:World} {post:Value->World->Prop} (h:Cl f args W fun e w'=>∃ v,e=.returned v/\post v w'):jE Cl Rd post (.ok (.enter f args) W):=h
end
def aZ.Du (M:World->World->Prop) (x:Value):aZ M:=⟨fun v=>v=x,fun _ _=>True,x,rfl,fun _ _ _ _ _ _=>trivial⟩
def aZ.any (M:World->World->Prop):aZ M:=⟨fun _=>True,fun _ _=>True,undef,trivial,fun _ _ _ _ _ _=>trivial⟩
theorem Move.Xf {d:Bool} {T:Nat->Prop} {W W':World} (h:Ext W W'):Move d T W W':=Move.ext h
theorem Move.ak {T:Nat->Prop} {W W':World} (h:aa W W'):Move false T W W':=⟨ae.ak h fun _ hk=>hk.1,fun h=>by cases h⟩
theorem Move.keeps {d:Bool} {T:Nat->Prop} {W W':World} (h:Move d T W W'):ae (fun k=>k<W.heap.size/\¬T k) W W':=h.1
theorem Move.below {d:Bool} {W W':World} (h:Move d (fun _=>False) W W'):aa W W':=(h.1.mono fun _ hk=>⟨hk,fun h=>h⟩:ae (· <W.heap.size) W W').below
theorem Move.size {d:Bool} {T:Nat->Prop} {W W':World} (h:Move d T W W'):W.heap.size<=W'.heap.size:=h.1.size
end
end Go.Proofs.YtjgccapbphadjaaGreatDoor
namespace Go.Proofs.YtjgccapbphadjaaGreatDoor.RegG
open Go Go.RowKit
structure aZ (M:World->World->Prop) where
 P:Value->Prop
 H:Value->Value->World->Prop
 nW:Value
 pw:P nW
 st:∀ x v W W',M W W'->P v->H x v W->H x v W'
def aZ.Du (M:World->World->Prop) (x:Value):aZ M:=⟨fun v=>v=x,fun _ _ _=>True,x,rfl,fun _ _ _ _ _ _ _=>trivial⟩
def aZ.any (M:World->World->Prop):aZ M:=⟨fun _=>True,fun _ _ _=>True,undef,trivial,fun _ _ _ _ _ _ _=>trivial⟩
def eT (s:Option Tmp) (a:Act):Value:=match s with | none=>undef | some t=>a.tmps[t]?.getD undef
theorem tE {s:Option Tmp} {a a':Act} (h:∀ t,s=some t->a.tmps[t]? =a'.tmps[t]?):eT s a=eT s a':=by
 cases s with
 | none=>rfl
 | some t=>unfold eT;simp only;rw[h t rfl]
def JV (ops:Array Oper) (cw:List Nat) (on:Nat->Option Tmp):Bool:=(List.range ops.size).all fun j=>(List.range j).all fun k=>match on j with
 | some t=> !(dG ops k==some t) || (cw.getD j 0).testBit k
 | none=>true
theorem OG {ops:Array Oper} {cw:List Nat} {on:Nat->Option Tmp} (hz:∀ j,ops.size<=j->on j=none) (h:JV ops cw on=true):∀ (j t k:Nat),on j=some t->dG ops k=some t->k<j->(cw.getD j 0).testBit k=true:=fun j t k ht hk hkj=>by
 unfold JV at h;have hj:j<ops.size:=by
  rcases Nat.lt_or_ge j ops.size with h' | h'
  ·exact h'
  ·rw[hz j h']at ht;cases ht
 have:=List.all_eq_true.1 (List.all_eq_true.1 h j (List.mem_range.2 hj)) k (List.mem_range.2 hkj);rw[ht,hk]at this;simpa using this
end Go.Proofs.YtjgccapbphadjaaGreatDoor.RegG
namespace Go.Proofs.YtjgccapbphadjaaGreatDoor.fS
open Go Go.RowKit
def Lx:Value->Option Nat
 | .pointer (some ⟨b,_,_⟩)=>some b
 | .slice (some ⟨b,_,_⟩) _ _=>some b
 | _=>none
def DR (W:World) (v:Value) (W':World):Prop:=∃ b,Lx v=some b/\W.heap.size<=b/\b<W'.heap.size
def fre (b:Bool) (F G:Prop):Prop:=match b with | true=>F/\G | false=>G
theorem TL {F G:Prop} :∀ {b:Bool},fre b F G->G
 | true,h=>h.2
 | false,h=>h
theorem TM {F G:Prop} {b:Bool} (hb:b=true) (h:fre b F G):F:=by subst hb;exact h.1
def mW (al:Nat->Bool) (m:Nat) (val:Nat->Value):Prop:=∀ j k,j<m->k<m->al j=true->al k=true->j≠k->Lx (val j)≠Lx (val k)
structure vE (al:Nat->Bool) (L:Nat->Prop) (val:Nat->Value) (W:World):Prop where
 old:∀ j,L j->al j=true->∃ b,Lx (val j)=some b/\b<W.heap.size
 ne:∀ j k,L j->L k->al j=true->al k=true->j≠k->Lx (val j)≠Lx (val k)
theorem vE.skip {al:Nat->Bool} {L L':Nat->Prop} {val:Nat->Value} {W:World} {i:Nat} (h:vE al L val W) (hi:al i=false) (hL:∀ j,L' j->L j\/j=i):vE al L' val W:=by
 have key:∀ j,L' j->al j=true->L j:=fun j hj ha=>(hL j hj).resolve_right fun e=>by subst e;rw[hi]at ha;cases ha
 exact⟨fun j hj ha=>h.old j (key j hj ha) ha,fun j k hj hk h1 h2 h3=>h.ne j k (key j hj h1) (key k hk h2) h1 h2 h3⟩
theorem vE.step {al:Nat->Bool} {L L':Nat->Prop} {val val':Nat->Value} {W W':World} {i:Nat} (h:vE al L val W) (hs:(∃ j,al j=true)->W.heap.size<=W'.heap.size) (hL:∀ j,L' j->L j\/j=i) (hv:∀ j,L j->val' j=val j) (hn:al i=true->DR W (val' i) W'):vE al L' val' W':=by
 have key:∀ j,L j->al j=true->∃ b,Lx (val' j)=some b/\b<W.heap.size:=fun j hj ha=>by rw[hv j hj];exact h.old j hj ha
 refine⟨fun j hj ha=>?_,fun j k hj hk h1 h2 h3=>?_⟩
 ·rcases hL j hj with hj | rfl
  ·obtain⟨b,e,hb⟩:=key j hj ha
   exact⟨b,e,aA hb (hs ⟨j,ha⟩)⟩
  ·obtain⟨b,e,_,hb⟩:=hn ha
   exact⟨_,e,hb⟩
 ·rcases hL j hj with hj | rfl
  ·rcases hL k hk with hk | rfl
   ·rw[hv j hj,hv k hk];exact h.ne j k hj hk h1 h2 h3
   ·obtain⟨b,e,hb⟩:=key j hj h1
    obtain⟨c,e2,hc,_⟩:=hn h2;rw[e,e2];intro e3;injection e3 with e3
    omega
  ·rcases hL k hk with hk | rfl
   ·obtain⟨b,e,hb⟩:=key k hk h2
    obtain⟨c,e2,hc,_⟩:=hn h1;rw[e,e2];intro e3;injection e3 with e3
    omega
   ·exact absurd rfl h3
section
variable {P:Program} {Cl:FuncId→Array Value→World→(Ending→World→Prop)→Prop} {Rd:Nat→FuncId→Array Value→Code→Code→World→(Ending→World→Prop)→Prop}
  {ops:Array Oper} {eff:Nat→Bool} {cw:Nat→Nat} {M:World→World→Prop} {on:Nat→Option Tmp} {EP:Nat→RegG.aZ M} {C:World→Prop} {D:Nat→World→Prop} {al:Nat→Bool} {md:Region.Mode} {m:Nat}
def cJ (P:Program) (Cl:FuncId->Array Value->World->(Ending->World->Prop)->Prop) (Rd:Nat->FuncId->Array Value->Code->Code->World->(Ending->World->Prop)->Prop) (ops:Array Oper) (eO:Bool) (m:Nat) (s:Option Tmp) (E:RegG.aZ M) (C:World->Prop) (D:Nat->World->Prop) (al:Nat->Bool) (o:Oper) (k:Nat) (aR:List (Nat× (World->Prop))) (a:Act) (K:List (Nat× (World->Prop))->Act->Prop):Prop:=
 if Region.wanted o (yielded ops a.tmps)then
  if eO then(∀ W,C W->D k W->needs m aR W->jE Cl Rd (fun v W'=>fre (al k) (DR W v W') ((M W W'/\∀ j,j≠k->m.testBit j=false->D j W->D j W')/\E.P v/\E.H (RegG.eT s a) v W')) ((execOp a.eval o).run P W))/\∀ v,E.P v->K ((k,E.H (RegG.eT s a) v)::aR) (a.put o.dst v)
  else ∃ v,(∀ W,C W->needs m aR W->aB P o a v W)/\K aR (a.put o.dst v)
 else K aR (a.put o.dst undef)
def OH (P:Program) (Cl:FuncId->Array Value->World->(Ending->World->Prop)->Prop) (Rd:Nat->FuncId->Array Value->Code->Code->World->(Ending->World->Prop)->Prop) (ops:Array Oper) (eff:Nat->Bool) (cw:Nat->Nat) (on:Nat->Option Tmp) (EP:Nat->RegG.aZ M) (C:World->Prop) (D:Nat->World->Prop) (al:Nat->Bool) (Fin:Act->World->Prop):List Oper->Nat->List (Nat× (World->Prop))->Act->Prop
 | [],_,aR,a=>∀ W,C W->(∀ x∈aR,x.2 W)->Fin a W
 | o::rest,k,aR,a=>cJ P Cl Rd ops (eff k) (cw k) (on k) (EP k) C D al o k aR a (OH P Cl Rd ops eff cw on EP C D al Fin rest (k+1))
def sF (ops:Array Oper) (eff:Nat->Bool) (cw:Nat->Nat) (on:Nat->Option Tmp) (EP:Nat->RegG.aZ M) (a:Act) (val:Nat->Value) (i:Nat) (W:World):Prop:=
 ∀ j,j<i->wantedAt ops a val j->eff j=true->(cw i).testBit j=true->(EP j).H (RegG.eT (on j) (gK ops a val j)) (val j) W
def yH (P:Program) (Cl:FuncId->Array Value->World->(Ending->World->Prop)->Prop) (Rd:Nat->FuncId->Array Value->Code->Code->World->(Ending->World->Prop)->Prop) (ops:Array Oper) (eO:Bool) (m:Nat) (s:Option Tmp) (E:RegG.aZ M) (C:World->Prop) (D:Nat->World->Prop) (al:Nat->Bool) (k:Nat) (o:Oper) (f:Act) (v uv:Value) (N:World->Prop):Prop:=
 if Region.wanted o (yielded ops f.tmps)then
  if eO then v=uv/\∀ W,C W->D k W->N W->jE Cl Rd (fun v W'=>fre (al k) (DR W v W') ((M W W'/\∀ j,j≠k->m.testBit j=false->D j W->D j W')/\E.P v/\E.H (RegG.eT s f) v W')) ((execOp f.eval o).run P W)
  else ∀ W,C W->N W->aB P o f v W
 else v=undef
def DT (P:Program) (Cl:FuncId->Array Value->World->(Ending->World->Prop)->Prop) (Rd:Nat->FuncId->Array Value->Code->Code->World->(Ending->World->Prop)->Prop) (ops:Array Oper) (eff:Nat->Bool) (cw:Nat->Nat) (on:Nat->Option Tmp) (EP:Nat->RegG.aZ M) (C:World->Prop) (D:Nat->World->Prop) (al:Nat->Bool) (a:Act) (u val:Nat->Value) (i:Nat):Prop:=
 ∀ o,ops[i]? =some o->yH P Cl Rd ops (eff i) (cw i) (on i) (EP i) C D al i o (gK ops a val i) (val i) (u i) (sF ops eff cw on EP a val i)
theorem pL {a:Act} {val val':Nat->Value} {i:Nat} (h:∀ k,k<i->val k=val' k):sF ops eff cw on EP a val i=sF ops eff cw on EP a val' i:=by
 funext W
 unfold sF;refine propext (forall_congr' fun j=>forall_congr' fun hj=>?_);rw[jF (val':=val') fun k hk=>h k (by omega),fy j fun k hk=>h k (by omega),h j hj]
theorem Hf {a:Act} {u val val':Nat->Value} {i:Nat} (h:∀ k,k<=i->val k=val' k) (hb:DT P Cl Rd ops eff cw on EP C D al a u val i):DT P Cl Rd ops eff cw on EP C D al a u val' i:=fun o ho=>by
 have:=hb o ho;rwa[fy i fun k hk=>h k (by omega),pL fun k hk=>h k (by omega),h i (aD _)]at this
theorem branch {Fin:Act->World->Prop} {a:Act} {u:Nat->Value} (hu:∀ j,(EP j).P (u j)):∀ (l:List Oper) (k:Nat) (val:Nat->Value) (aR:List (Nat× (World->Prop))), k+l.length=m->(∀ j,j<l.length->l[j]? =ops[k+j]?)->(∀ x∈aR,∃ j,j<k/\wantedAt ops a val j/\eff j=true/\x.1=j/\x.2=(EP j).H (RegG.eT (on j) (gK ops a val j)) (val j))-> (∀ i,i<k->DT P Cl Rd ops eff cw on EP C D al a u val i)->OH P Cl Rd ops eff cw on EP C D al Fin l k aR (gK ops a val k)-> ∃ val',(∀ i,i<m->DT P Cl Rd ops eff cw on EP C D al a u val' i)/\∀ W,C W->(∀ j,j<m->wantedAt ops a val' j->eff j=true->(EP j).H (RegG.eT (on j) (gK ops a val' j)) (val' j) W)->Fin (gK ops a val' m) W
 | [],k,val,aR,hk,_,hh,hb,h=>by
  obtain rfl:k=m:=by simpa using hk
  refine⟨val,hb,fun W hW hN=>h W hW fun x hx=>?_⟩;obtain⟨j,hj,hw,he,_,hx2⟩:=hh x hx;rw[hx2];exact hN j hj hw he
 | o::l,k,val,aR,hk,hl,hh,hb,h=>by
  have ho:ops[k]? =some o:=by simpa using(hl 0 (by simp)).symm
  have step:∀ (v:Value) (JY:List (Nat× (World->Prop))),yH P Cl Rd ops (eff k) (cw k) (on k) (EP k) C D al k o (gK ops a val k) v (u k) (sF ops eff cw on EP a val k)->
    (∀ x∈JY,x∈aR\/(Region.wanted o (yielded ops (gK ops a val k).tmps)=true/\eff k=true/\x.1=k/\x.2=(EP k).H (RegG.eT (on k) (gK ops a val k)) v))->OH P Cl Rd ops eff cw on EP C D al Fin l (k+1) JY ((gK ops a val k).put o.dst v)->
    ∃ val',(∀ i,i<m->DT P Cl Rd ops eff cw on EP C D al a u val' i)/\∀ W,C W->(∀ j,j<m->wantedAt ops a val' j->eff j=true->(EP j).H (RegG.eT (on j) (gK ops a val' j)) (val' j) W)->Fin (gK ops a val' m) W:=by
   intro v JY mP hh' ht;obtain⟨LD,VM⟩:=ag (fun j=>if j=k then v else val j:Nat->Value);have e1:∀ j,j<k->val j=LD j:=fun j hj=>by rw[VM];simp[show j≠k by omega]
   have ek:LD k=v:=by rw[VM];simp
   refine branch hu l (k+1) LD JY (by simp at hk;omega) (fun j hj=>?_) (fun x hx=>?_) (fun i hi=>?_) ?_
   ·have:=hl (j+1) (by simp;omega)
    rw[List.getElem?_cons_succ]at this;rw[this];congr 1;omega
   ·rcases hh' x hx with hx | ⟨h1,h2,h3,h4⟩
    ·obtain⟨j,hj,hw,he,h1,h2⟩:=hh x hx
     exact⟨j,by omega,(jF fun i hi=>e1 i (by omega)).1 hw,he,h1,by rw[h2,e1 j hj,fy j fun i hi=>e1 i (by omega)]⟩
    ·exact⟨k,by omega,⟨o,ho,by rw[<-fy k e1];exact h1⟩,h2,h3,by rw[h4,ek,fy k e1]⟩
   ·by_cases hik:i=k
    ·subst hik
     intro o' GH;rw[ho]at GH;cases GH;rw[<-fy i e1,ek, <-pL e1];exact mP
    ·exact Hf (fun j hj=>e1 j (by omega)) (hb i (by omega))
   ·have:gK ops a LD (k+1)=(gK ops a val k).put o.dst v:=by
     show(gK ops a LD k).put (dG ops k) (LD k)=_;rw[<-fy k e1,ek];unfold dG;rw[ho];rfl
    rw[this];exact ht
  have OI:∀ W,sF ops eff cw on EP a val k W->needs (cw k) aR W:=fun W hN x hx hm=>by
   obtain⟨j,hj,hw,he,h1,h2⟩:=hh x hx;rw[h2];rw[h1]at hm;exact hN j hj hw he hm
  unfold OH cJ at h;split at h
  ·rename_i hw
   split at h
   ·rename_i he
    refine step (u k) _ ?_ ?_ (h.2 (u k) (hu k))
    ·unfold yH;rw[if_pos hw,if_pos he];exact⟨rfl,fun W hW hD hN=>h.1 W hW hD (OI W hN)⟩
    ·intro x hx
     rcases List.mem_cons.1 hx with rfl | hx
     ·exact .inr ⟨hw,he,rfl,rfl⟩
     ·exact .inl hx
   ·rename_i he
    obtain⟨v,h1,h2⟩:=h;refine step v _ ?_ (fun x hx=>.inl hx) h2;unfold yH;rw[if_pos hw,if_neg he];exact fun W hW hN=>h1 W hW (OI W hN)
  ·rename_i hw
   refine step undef _ ?_ (fun x hx=>.inl hx) h;unfold yH;rw[if_neg hw]
variable {S:Nat→(Act→World→Prop)→Act→World→Prop} {Qn:Act→World→Prop}
theorem OJ (nX:∀ (i:Nat) (o:Oper),ops[i]? =some o->al i=true->eff i=true/\∀ y,Region.wanted o y=true) (hMs:(∃ j,al j=true)->∀ A B,M A B->A.heap.size<=B.heap.size) (ok:vC md ops cw m) (so:Hd P Cl Rd ops eff S) (hO:∀ (j t k:Nat),on j=some t->dG ops k=some t->k<j->(cw j).testBit k=true) (hCm:∀ W W',C W->M W W'->C W') {a0:Act} (hT:∀ u:Nat->Value,(∀ j,(EP j).P (u j))->∃ val,(∀ i,i<m->DT P Cl Rd ops eff cw on EP C D al a0 u val i)/\∀ W,C W->(∀ j,j<m->wantedAt ops a0 val j->eff j=true->(EP j).H (RegG.eT (on j) (gK ops a0 val j)) (val j) W)->mW al m val->zw S Qn (List.range' m (ops.size-m)) (gK ops a0 val m) W): ∀ (fuel:Nat) (listed:Array Bool) (a:Act) (W:World),listed.size=ops.size->listed.toList.count false<=fuel->C W-> (∀ i j,listed.getD i false=true->(cw i).testBit j=true->listed.getD j false=true)->(∀ i,m<=i->listed.getD i false=false)->(∀ i,¬listed.getD i false=true->i<m->D i W)-> (∃ u val,(∀ j,(EP j).P (u j))/\(∀ i,i<m->DT P Cl Rd ops eff cw on EP C D al a0 u val i)/\ (∀ W,C W->(∀ j,j<m->wantedAt ops a0 val j->eff j=true->(EP j).H (RegG.eT (on j) (gK ops a0 val j)) (val j) W)->mW al m val->zw S Qn (List.range' m (ops.size-m)) (gK ops a0 val m) W)/\ (∀ j,listed.getD j false=true->wantedAt ops a0 val j->eff j=true->(EP j).H (RegG.eT (on j) (gK ops a0 val j)) (val j) W)/\JU ops a0 (fun j=>listed.getD j false=true) val a/\vE al (fun j=>listed.getD j false=true) val W)-> TI S md ops Qn fuel listed a W:=by
 intro fuel;induction fuel with
 | zero=>
  intro listed a W hs hc hC tF AY mI hex
  -- nothing is left
  obtain⟨u,val,hu,hb,kQ,hH,DU,hold⟩:=hex;have hall:∀ j,j<ops.size->listed.getD j false=true:=fun j hj=>by
   rcases He (listed:=listed) (j:=j) (by omega)with h | h
   ·exact h
   ·have h0:listed.toList.count false=0:=by omega
    rw[List.count_eq_zero]at h0;have Dt:j<listed.size:=by omega
    refine absurd ?_ h0;have:listed[j]=false:=by simpa[Dt]using h
    rw[<-this];exact Array.getElem_mem_toList Dt
  have hm:m=ops.size:=by
   rcases Nat.lt_or_ge m ops.size with h | h
   ·have h1:=hall m h;rw[AY m (aD _)]at h1;cases h1
   ·have:=ok.le;omega
  have hae:a=gK ops a0 val m:=by
   have h2:=ok.gK a0 val m;have:a.tmps=(gK ops a0 val m).tmps:=Array.ext_getElem? fun t=>DU.agree h2 fun j hj=>by
    have hjs:j<ops.size:=by
     rcases Nat.lt_or_ge j ops.size with h | h
     ·exact h
     ·unfold dG at hj;rw[Array.getElem?_eq_none h]at hj;cases hj
    exact⟨⟨fun _=>by omega,fun _=>hall j hjs⟩,fun _=>rfl⟩
   cases a
   have hd:=DU.defers.trans h2.defers.symm;cases hf:gK ops a0 val m;rw[hf]at this hd;simp only at this hd;rw[this,hd]
  refine zz ok so 0 ops.size 0 listed a W (by omega) (by omega) (aD _) hs (fun j hj=>⟨fun _=>hj,fun _=>hall j hj⟩) ?_;have:=kQ W hC (fun j hj=>hH j (hall j (by omega))) fun j k hj hk=>hold.ne j k (hall j (by omega)) (hall k (by omega))
  rw[hae];rw[hm,Nat.sub_self]at this;rw[hm];exact this
 | succ fuel ih=>
  intro listed a W hs hc hC tF AY mI hex;obtain⟨u,val,hu,hb,kQ,hH,DU,hold⟩:=hex;by_cases hall:∀ j,j<m->listed.getD j false=true
  ·have hae:a=gK ops a0 val m:=by
    have h2:=ok.gK a0 val m;have:a.tmps=(gK ops a0 val m).tmps:=Array.ext_getElem? fun t=>DU.agree h2 fun j hj=>by
     refine⟨⟨fun hj'=>?_,fun hj'=>hall j hj'⟩,fun _=>rfl⟩;rcases Nat.lt_or_ge j m with h | h
     ·exact h
     ·rw[AY j h]at hj';cases hj'
    cases a
    have hd:=DU.defers.trans h2.defers.symm;cases hf:gK ops a0 val m;rw[hf]at this hd;simp only at this hd;rw[this,hd]
   have Xg:ops.size-m<=fuel+1:=by
    refine Nat.le_trans ?_ hc;have h1:(listed.toList.drop m).count false=(listed.toList.drop m).length:=by
     rw[List.count_eq_length];intro b hb';obtain⟨k,hk,rfl⟩:=List.getElem_of_mem hb';rw[List.getElem_drop];have tD:m+k<listed.size:=by simp at hk;omega
     have:=AY (m+k) (by omega);simp[tD]at this;simp[this]
    have h2:(listed.toList.drop m).count false<=listed.toList.count false:=List.Sublist.count_le _ (List.drop_sublist _ _);rw[h1]at h2;simp at h2 ⊢;omega
   refine zz ok so (ops.size-m) m (fuel+1) listed a W (aD _) (by have:=ok.le;omega) Xg hs (fun j hj=>⟨fun h=>?_,fun h=>hall j h⟩) ?_
   ·rcases Nat.lt_or_ge j m with h' | h'
    ·exact h'
    ·rw[AY j h']at h;cases h
   ·rw[hae];exact kQ W hC (fun j hj=>hH j (hall j hj)) fun j k hj hk=>hold.ne j k (hall j hj) (hall k hk)
  ·-- some operation of the free part is still to come
   have hex:∃ j,j<m/\¬listed.getD j false=true:=by refine Classical.byContradiction fun hno=>hall fun j hj=>Classical.byContradiction fun hn=>hno ⟨j,hj,hn⟩
   refine⟨fun hnil=>?_,fun i hi=>?_⟩
   ·exfalso
    -- the first of them is ready
    have key:∀ k,k<m->¬listed.getD k false=true->False:=by
     intro k;induction k using Nat.strongRecOn with
     | ind k ihk=>
      intro hk hn;have Tf:k<ops.size:=by have:=ok.le;omega
      have AZ:k<listed.size:=by omega
      have:k∈Region.ready md ops listed:=by rw[mem_ready];refine⟨by simp[AZ]at hn ⊢;exact hn,_,Array.getElem?_eq_getElem Tf,fun e he hb'=>?_⟩;have hes:=ok.DN k _ (Array.getElem?_eq_getElem Tf) e he hb';exact Classical.byContradiction fun h=>ihk e.on hes (by omega) h
      rw[hnil]at this;cases this
    obtain⟨j,hj,hn⟩:=hex;exact key j hj hn
   ·obtain⟨h1,o,ho,OL⟩:=mem_ready.1 hi
    have TK:i<ops.size:=(Array.getElem?_eq_some_iff.1 ho).1;have gL:i<listed.size:=by omega
    have jY:¬listed.getD i false=true:=by simp[gL]at h1 ⊢;exact h1
    have Hg:∀ j,(cw i).testBit j=true->listed.getD j false=true:=fun j hj=>by
     obtain⟨e,he,hb',kE⟩:=ok.sound i o j ho hj;rcases kE with rfl | kE
     ·exact OL e he hb'
     ·exact tF e.on j (OL e he hb') kE
    have Xe:i<m:=by
     rcases Nat.lt_or_ge i m with h | h
     ·exact h
     ·exfalso
      obtain⟨j,hj,hn⟩:=hex;exact hn (Hg j (ok.tail i j h TK (by omega)))
    have ae9:dG ops i=o.dst:=by unfold dG;rw[ho];rfl
    -- the frame where it looks
    have oX:∀ t,t∈o.looksAt ops->a.tmps[t]? =(gK ops a0 val i).tmps[t]? :=fun t ht=>DU.agree (ok.gK a0 val i) fun j hj=>by
     obtain⟨k1,k2⟩:=ok.looks i o t j Xe ho ht hj;refine⟨⟨fun Dt=>?_,fun ki=>Hg j (k1 ki)⟩,fun _=>rfl⟩;rcases Nat.lt_trichotomy j i with h | h | h
     ·exact h
     ·subst h;exact absurd Dt jY
     ·exact absurd (tF j i Dt (k2 h)) jY
    obtain⟨abb,Xh⟩:=sG (ok.sel i o · · ho) oX;have hN:sF ops eff cw on EP a0 val i W:=fun j _ hw he ha=>hH j (Hg j ha) hw he
    have OO:=hb i Xe o ho
    -- what follows
    have hs':(listed.setIfInBounds i true).size=ops.size:=by simpa using hs
    have hc':(listed.setIfInBounds i true).toList.count false<=fuel:=by rw[Array.toList_setIfInBounds];have:=count_set listed.toList i (by simp[gL]at h1;simp[gL,h1]);omega
    have mJ:∀ j,(listed.setIfInBounds i true).getD j false=true↔(listed.getD j false=true\/j=i):=fun j=>by
     by_cases mz:i=j
     ·subst mz;simp[gL]
     ·rw[getD_set_ne false mz]
      constructor
      ·exact .inl
      ·rintro(h | h)
       ·exact h
       ·exact absurd h.symm mz
    have Hh:∀ k j,(listed.setIfInBounds i true).getD k false=true->(cw k).testBit j=true->(listed.setIfInBounds i true).getD j false=true:=fun k j hk hj=>by
     rw[mJ]at hk ⊢;rcases hk with hk | rfl
     ·exact .inl (tF k j hk hj)
     ·exact .inl (Hg j hj)
    have Xi:∀ k,m<=k->(listed.setIfInBounds i true).getD k false=false:=fun k hk=>by
     rw[getD_set_ne false (by omega)];exact AY k hk
    have hput:∀ (val':Nat->Value),(∀ j,listed.getD j false=true->val' j=val j)->JU ops a0 (fun j=>(listed.setIfInBounds i true).getD j false=true) val' (a.put o.dst (val' i)):=fun val' hv=>by
     have h0:JU ops a0 (fun j=>listed.getD j false=true) val' a:=⟨DU.defers,DU.size,DU.old,fun j t h1 h2 h3=>by rw[hv j h1];exact DU.new j t h1 h2 h3⟩;have:=h0.put (L':=fun j=>(listed.setIfInBounds i true).getD j false=true) i mJ fun j t g1 g2 g3=>by
      rcases Nat.lt_trichotomy j i with h | h | h
      ·exact ok.TJ j i t h g2 g3
      ·exact jY (h▸g1)
      ·exact ok.TJ i j t h g3 g2
     rwa[ae9]at this
    unfold yH at OO;by_cases hw:Region.wanted o (yielded ops (gK ops a0 val i).tmps)=true
    ·rw[if_pos hw]at OO
     cases he:eff i with
     | false=>
      rw[he,if_neg (by decide)]at OO;have nY:=OO W hC hN;unfold aB at nY;rw[<-abb]at nY;refine so.flt i o _ a W (val i) ho he (by rw[Xh];exact hw) nY ?_;refine ih _ _ W hs' hc' hC Hh Xi (fun j hj GI=>mI j (fun h=>hj ((mJ j).2 (.inl h))) GI) ⟨u,val,hu,hb,kQ,fun j hj TN AX=>?_,hput val fun _ _=>rfl,hold.skip (Bool.eq_false_iff.2 fun ha=>by rw[(nX i o ho ha).1]at he;cases he) fun j hj=>(mJ j).1 hj⟩;rcases(mJ j).1 hj with hj | rfl
      ·exact hH j hj TN AX
      ·rw[he]at AX;cases AX
     | true=>
      rw[he,if_pos rfl]at OO;have hef:=OO.2 W hC (mI i jY Xe) hN;rw[<-abb]at hef;refine so.eff i o _ a W ho he (by rw[Xh];exact hw) (so.VL _ _ _ (fun v W' abc=>?_) hef);obtain⟨⟨OP,hDv⟩,hPv,hHv⟩:=TL abc
      -- another branch
      obtain⟨u',Xj⟩:=ag (fun j=>if j=i then v else u j:Nat->Value);have hu':∀ j,(EP j).P (u' j):=fun j=>by
       rw[Xj];show(EP j).P (if j=i then v else u j);split
       ·rename_i h;subst h;exact hPv
       ·exact hu j
      obtain⟨val',hb',abd⟩:=hT u' hu';have DC:=hCm W W' hC OP;have DV:∀ j,listed.getD j false=true->val' j=val j/\(wantedAt ops a0 val' j↔wantedAt ops a0 val j)/\RegG.eT (on j) (gK ops a0 val' j)=RegG.eT (on j) (gK ops a0 val j):=by
       intro j;induction j using Nat.strongRecOn with
       | ind j ihj=>
        intro hj;have GI:j<m:=by
         rcases Nat.lt_or_ge j m with h | h
         ·exact h
         ·rw[AY j h]at hj;cases hj
        have hjs:j<ops.size:=by have:=ok.le;omega
        have yB:=Array.getElem?_eq_getElem hjs;obtain⟨oj,vA⟩:∃ oj,ops[j]? =some oj:=⟨_,yB⟩;have hlk:∀ t,t∈oj.looksAt ops->(gK ops a0 val' j).tmps[t]? =(gK ops a0 val j).tmps[t]? :=fun t ht=>(ok.gK a0 val' j).agree (ok.gK a0 val j) fun k hk=>by
         refine⟨Iff.rfl,fun hkj=>(ihj k hkj ?_).1⟩;exact tF j k hj ((ok.looks j oj t k GI vA ht hk).1 hkj)
        obtain⟨he1,he2⟩:=sG (ok.sel j oj · · vA) hlk;have abf:wantedAt ops a0 val' j↔wantedAt ops a0 val j:=by
         unfold wantedAt;constructor
         ·rintro⟨o1,h1,h2⟩
          rw[vA]at h1;cases h1;exact⟨oj,vA,by rw[<-he2];exact h2⟩
         ·rintro⟨o1,h1,h2⟩
          rw[vA]at h1;cases h1;exact⟨oj,vA,by rw[he2];exact h2⟩
        refine⟨?_,abf,RegG.tE fun t ht=>(ok.gK a0 val' j).agree (ok.gK a0 val j) fun k hk=>⟨Iff.rfl,fun hkj=>(ihj k hkj (tF j k hj (hO j t k ht hk hkj))).1⟩⟩;have b1:=hb j GI oj vA;have b2:=hb' j GI oj vA;unfold yH at b1 b2;rw[he2]at b2;by_cases TN:Region.wanted oj (yielded ops (gK ops a0 val j).tmps)=true
        ·rw[if_pos TN]at b1 b2
         cases AX:eff j with
         | true=>
          rw[AX,if_pos rfl]at b1 b2;have ki:j≠i:=fun h=>by subst h;exact jY hj
          rw[b1.1,b2.1,Xj];simp[ki]
         | false=>
          rw[AX,if_neg (by decide)]at b1 b2;have n1:sF ops eff cw on EP a0 val j W':=fun k hk hwk Lu hak=>by
           have AZ:=tF j k hj hak;have hPk:(EP k).P (val k):=by have bk:=hb k (by omega);obtain⟨ok',mP,afb⟩:=hwk;have:=bk ok' mP;unfold yH at this;rw[if_pos afb,Lu,if_pos rfl]at this;rw[this.1];exact hu k
           exact(EP k).st _ _ W W' OP hPk (hH k AZ hwk Lu)
          have n2:sF ops eff cw on EP a0 val' j W':=fun k hk hwk Lu hak=>by
           obtain⟨s1,s2,s3⟩:=ihj k hk (tF j k hj hak);rw[s1,s3];exact n1 k hk (s2.1 hwk) Lu hak
          have f1:=b1 W' DC n1;have f2:=b2 W' DC n2;unfold aB at f1 f2;rw[he1]at f2;rcases f1 with f1 | ⟨f1,g1⟩<;>rcases f2 with f2 | ⟨f2,g2⟩<;>rw[f1]at f2
          ·injection f2 with f2 _;injection f2 with f2;exact f2.symm
          ·injection f2 with f2 _;cases f2
          ·injection f2 with f2 _;cases f2
          ·rw[g1,g2]
        ·rw[if_neg TN]at b1 b2
         rw[b1,b2]
      have afc:RegG.eT (on i) (gK ops a0 val' i)=RegG.eT (on i) (gK ops a0 val i):=RegG.tE fun t ht=>(ok.gK a0 val' i).agree (ok.gK a0 val i) fun k hk=>
        ⟨Iff.rfl,fun eG=>(DV k (Hg k (hO i t k ht hk eG))).1⟩
      have hvi:val' i=v:=by
       have b2:=hb' i Xe o ho;have hlk:∀ t,t∈o.looksAt ops->(gK ops a0 val' i).tmps[t]? =(gK ops a0 val i).tmps[t]? :=fun t ht=>(ok.gK a0 val' i).agree (ok.gK a0 val i) fun k hk=>
        ⟨Iff.rfl,fun eG=>(DV k (Hg k ((ok.looks i o t k Xe ho ht hk).1 eG))).1⟩
       obtain⟨_,he2⟩:=sG (ok.sel i o · · ho) hlk;unfold yH at b2;rw[he2,if_pos hw,he,if_pos rfl]at b2;rw[b2.1,Xj];simp
      have:=hput val' fun j hj=>(DV j hj).1
      rw[hvi]at this;refine ih _ _ W' hs' hc' DC Hh Xi (fun j hj GI=>hDv j (fun e=>hj ((mJ j).2 (.inr e))) (Bool.eq_false_iff.2 fun e=>hj ((mJ j).2 (.inl (Hg j e)))) (mI j (fun h=>hj ((mJ j).2 (.inl h))) GI)) ⟨u',val',hu',hb',abd,fun j hj TN AX=>?_,this,hold.step (fun h=>hMs h _ _ OP) (fun j hj=>(mJ j).1 hj) (fun j hj=>(DV j hj).1) (fun ha=>by rw[hvi];exact TM ha abc)⟩;rcases(mJ j).1 hj with hj | rfl
      ·obtain⟨s1,s2,s3⟩:=DV j hj
       have abg:=s2.1 TN;have hPj:(EP j).P (val j):=by
        have GI:j<m:=by
         rcases Nat.lt_or_ge j m with h | h
         ·exact h
         ·rw[AY j h]at hj;cases hj
        obtain⟨oj,yB,Xk⟩:=abg;have:=hb j GI oj yB;unfold yH at this;rw[if_pos Xk,AX,if_pos rfl]at this;rw[this.1];exact hu j
       rw[s1,s3];exact(EP j).st _ _ W W' OP hPj (hH j hj abg AX)
      ·rw[hvi,afc];exact hHv
    ·rw[if_neg hw]at OO
     have hwf:Region.wanted o (yielded ops a.tmps)=false:=by rw[Xh];simpa using hw
     refine so.un i o _ a W ho hwf ?_;have h0:=hput val fun _ _=>rfl
     rw[OO]at h0;refine ih _ _ W hs' hc' hC Hh Xi (fun j hj GI=>mI j (fun h=>hj ((mJ j).2 (.inl h))) GI) ⟨u,val,hu,hb,kQ,fun j hj TN AX=>?_,h0,hold.skip (Bool.eq_false_iff.2 fun ha=>hw ((nX i o ho ha).2 _)) fun j hj=>(mJ j).1 hj⟩;rcases(mJ j).1 hj with hj | rfl
     ·exact hH j hj TN AX
     ·obtain⟨oj,yB,Xk⟩:=TN
      rw[ho]at yB;cases yB;exact absurd Xk hw
end
section
variable {P:Program} {Cl:FuncId→Array Value→World→(Ending→World→Prop)→Prop} {Rd:Nat→FuncId→Array Value→Code→Code→World→(Ending→World→Prop)→Prop}
  {ops:Array Oper} {eff:Nat→Bool} {cw:Nat→Nat} {M:World→World→Prop} {on:Nat→Option Tmp} {EP:Nat→RegG.aZ M} {C:World→Prop} {D:Nat→World→Prop} {al:Nat→Bool} {Fin:List Oper→Act→World→Prop}
def fT (P:Program) (Cl:FuncId->Array Value->World->(Ending->World->Prop)->Prop) (Rd:Nat->FuncId->Array Value->Code->Code->World->(Ending->World->Prop)->Prop) (ops:Array Oper) (eff:Nat->Bool) (cw:Nat->Nat) (on:Nat->Option Tmp) (EP:Nat->RegG.aZ M) (C:World->Prop) (D:Nat->World->Prop) (al:Nat->Bool) (Fin:List Oper->Act->World->Prop):Nat->List Oper->Nat->List (Nat× (World->Prop))->Act->Prop
 | 0,l,_,aR,a=>∀ W,C W->(∀ x∈aR,x.2 W)->Fin l a W
 | _+1,[],_,_,_=>False
 | m+1,o::rest,k,aR,a=>cJ P Cl Rd ops (eff k) (cw k) (on k) (EP k) C D al o k aR a (fT P Cl Rd ops eff cw on EP C D al Fin m rest (k+1))
theorem Hi {eO:Bool} {m:Nat} {s:Option Tmp} {E:RegG.aZ M} {o:Oper} {k:Nat} {aR:List (Nat× (World->Prop))} {a:Act} {K K':List (Nat× (World->Prop))->Act->Prop} (h:∀ hi a,K hi a->K' hi a) (hh:cJ P Cl Rd ops eO m s E C D al o k aR a K):cJ P Cl Rd ops eO m s E C D al o k aR a K':=by
 unfold cJ at*;split
 ·rename_i hw
  rw[if_pos hw]at hh;split
  ·rename_i he
   rw[if_pos he]at hh;exact⟨hh.1,fun v hv=>h _ _ (hh.2 v hv)⟩
  ·rename_i he
   rw[if_neg he]at hh;obtain⟨v,h1,h2⟩:=hh;exact⟨v,h1,h _ _ h2⟩
 ·rename_i hw
  rw[if_neg hw]at hh;exact h _ _ hh
theorem qO:∀ (m:Nat) (l:List Oper) (k:Nat) (aR:List (Nat× (World->Prop))) (a:Act),fT P Cl Rd ops eff cw on EP C D al Fin m l k aR a->OH P Cl Rd ops eff cw on EP C D al (Fin (l.drop m)) (l.take m) k aR a
 | 0,l,_,_,_,h=>by rw[List.take_zero,List.drop_zero];exact h
 | m+1,[],_,_,_,h=>h.elim
 | m+1,o::l,k,aR,a,h=>by
  rw[List.take_succ_cons,List.drop_succ_cons];exact Hi (fun hi a h=>qO m l (k+1) hi a h) h
theorem au {m:Nat} {o:Oper} {rest:List Oper} {k:Nat} {aR:List (Nat× (World->Prop))} {a:Act} (h:∀ K:List (Nat× (World->Prop))->Act->Prop,(∀ hi a,en (fT P Cl Rd ops eff cw on EP C D al Fin m rest (k+1) hi a)->K hi a)->cJ P Cl Rd ops (eff k) (cw k) (on k) (EP k) C D al o k aR a K):en (fT P Cl Rd ops eff cw on EP C D al Fin (m+1) (o::rest) k aR a):=
 ⟨h _ fun _ _ h=>h.out⟩
theorem bG {l:List Oper} {k:Nat} {aR:List (Nat× (World->Prop))} {a:Act} (h:∀ W,C W->(∀ x∈aR,x.2 W)->Fin l a W):en (fT P Cl Rd ops eff cw on EP C D al Fin 0 l k aR a):=⟨h⟩
theorem bR {eO:Bool} {m:Nat} {s:Option Tmp} {E:RegG.aZ M} {o:Oper} {k:Nat} {aR:List (Nat× (World->Prop))} {a:Act} {K:List (Nat× (World->Prop))->Act->Prop} (he:eO=false) (hw:Region.wanted o (yielded ops a.tmps)=true) (h:∃ v,(∀ W: {W//C W},aB P o a v W.1)/\K aR (a.put o.dst v)):cJ P Cl Rd ops eO m s E C D al o k aR a K:=by subst he;unfold cJ;rw[if_pos hw,if_neg (by decide)];obtain⟨v,h1,h2⟩:=h;exact⟨v,fun W hW _=>h1 ⟨W,hW⟩,h2⟩
theorem DW {eO:Bool} {m:Nat} {s:Option Tmp} {E:RegG.aZ M} {o:Oper} {k:Nat} {aR:List (Nat× (World->Prop))} {a:Act} {K:List (Nat× (World->Prop))->Act->Prop} (he:eO=false) (hw:Region.wanted o (yielded ops a.tmps)=true) (v:Value) (h1:∀ W,C W->needs m aR W->aB P o a v W) (h2:K aR (a.put o.dst v)):cJ P Cl Rd ops eO m s E C D al o k aR a K:=by subst he;unfold cJ;rw[if_pos hw,if_neg (by decide)];exact⟨v,h1,h2⟩
theorem ck {eO:Bool} {m:Nat} {s:Option Tmp} {E:RegG.aZ M} {o:Oper} {k:Nat} {aR:List (Nat× (World->Prop))} {a:Act} {K:List (Nat× (World->Prop))->Act->Prop} (he:eO=true) (hw:Region.wanted o (yielded ops a.tmps)=true) (E':RegG.aZ M) (hE:E=E') (h1:∀ W,C W->D k W->needs m aR W->jE Cl Rd (fun v W'=>fre (al k) (DR W v W') ((M W W'/\∀ j,j≠k->m.testBit j=false->D j W->D j W')/\E'.P v/\E'.H (RegG.eT s a) v W')) ((execOp a.eval o).run P W)) (h2:∀ v,E'.P v->K ((k,E'.H (RegG.eT s a) v)::aR) (a.put o.dst v)):cJ P Cl Rd ops eO m s E C D al o k aR a K:=by subst he hE;unfold cJ;rw[if_pos hw,if_pos rfl];exact⟨h1,h2⟩
theorem bX {eO:Bool} {m:Nat} {s:Option Tmp} {E:RegG.aZ M} {o:Oper} {k:Nat} {aR:List (Nat× (World->Prop))} {a:Act} {K:List (Nat× (World->Prop))->Act->Prop} (hw:Region.wanted o (yielded ops a.tmps)=false) (h:K aR (a.put o.dst undef)):cJ P Cl Rd ops eO m s E C D al o k aR a K:=by unfold cJ;rw[hw,if_neg (by decide)];exact h
end
def OQ (ops:Array Oper) (eff:Nat->Bool) (al:List Nat) (m:Nat):Bool:=
 al.all fun i=>decide (i<m)&&eff i&&match ops[i]? with
  | none=>false
  | some o=>o.guard.isNone
theorem vF {ops:Array Oper} {eff:Nat->Bool} {al:List Nat} {m:Nat} (h:OQ ops eff al m=true) (i:Nat) (hi:al.contains i=true):i<m/\eff i=true/\∃ o,ops[i]? =some o/\o.guard=none:=by
 have h1:=List.all_eq_true.1 h i (List.contains_iff_mem.1 hi);simp only[Bool.and_eq_true,decide_eq_true_eq]at h1;obtain⟨⟨h1,h2⟩,h3⟩:=h1;refine⟨h1,h2,?_⟩;split at h3
 ·cases h3
 ·rename_i o ho
  exact⟨o,ho,Option.isNone_iff_eq_none.1 h3⟩
def A0 (ops:Array Oper) (al:List Nat) (a:Act):Prop:=∀ i j s t u v,al.contains i=true->al.contains j=true->i≠j->dG ops i=some s->dG ops j=some t->s<a.tmps.size->t<a.tmps.size->a.tmps[s]? =some u->a.tmps[t]? =some v->Lx u≠Lx v
theorem jG {P:Program} {id:Nat} {Q:Exit->Act->World->Prop} {a:Act} {w:World} {l:List Oper} (M:World->World->Prop) (hd:M w w.drew) (Xl:∀ A B C,M A B->M B C->M A C) (hm:P.follows .mixedOrders=true) (m:Nat) (cw:List Nat) (eff:Nat->Bool) (hB:mV .any l.toArray cw m=true) (on:Nat->Option Tmp) (hz:∀ j,l.toArray.size<=j->on j=none) (hO:RegG.JV l.toArray cw on=true) (EP:Nat->RegG.aZ M) (D:Nat->World->Prop) (hD0:∀ j,j<m->D j w.drew) (al:List Nat) (Z8:Nat->Bool) (hA:OQ l.toArray eff al m=true) (hf:∀ j,Z8 j=al.contains j) (hMs:(∃ j,Z8 j=true)->∀ A B,M A B->A.heap.size<=B.heap.size) (Fin:List Oper->Act->World->Prop) (hF:∀ r a W,A0 l.toArray al a->Fin r a W->wpList P l.toArray Q r a W) (h:∀ C:World->Prop,(∀ W,C W↔M w W)->Nonempty {W//C W} ->en (fT P (Calls P) gz l.toArray eff (fun i=>cw.getD i 0) on EP C D Z8 Fin m l 0 [] a)):(Code.region id l.toArray true).wp P Q a w:=by
 have ok:=Lv hB;have h0:M w w.drew:=hd;have hT:=qO m l 0 [] a (h (M w) (fun _=>Iff.rfl) ⟨⟨_,h0⟩⟩).out;have sr:m<=l.length:=by have:=ok.le;simpa using this
 have hbr:∀ u:Nat->Value,(∀ j,(EP j).P (u j))->∃ val,(∀ i,i<m->DT P (Calls P) gz l.toArray eff (fun i=>cw.getD i 0) on EP (M w) D Z8 a u val i)/\
   ∀ W,M w W->(∀ j,j<m->wantedAt l.toArray a val j->eff j=true->(EP j).H (RegG.eT (on j) (gK l.toArray a val j)) (val j) W)->mW Z8 m val->zw (wpOp P l.toArray Q) (fun a w=>Q .normal a w) (List.range' m (l.toArray.size-m)) (gK l.toArray a val m) W:=fun u hu=>by
  obtain⟨val,h1,h2⟩:=branch (ops:=l.toArray) (m:=m) (a:=a) hu (l.take m) 0 (fun _=>undef) [] (by rw[List.length_take];omega) (fun j hj=>by rw[List.length_take]at hj;simp[List.getElem?_take];omega) (fun x hx=>by cases hx) (fun i hi=>by omega) hT;refine⟨val,h1,fun W hW hN hap=>zA _ _ _ (fun i hi=>?_) ?_⟩
  ·have:=(List.mem_range'.1 hi)
   obtain⟨k,hk,rfl⟩:=this;simp only[List.size_toArray]at*;omega
  ·have:=wpOps_eq_wpList (P:=P) (ops:=l.toArray) (Q:=Q) (l.drop m) m (fun j=>by simp[List.getElem?_drop])
   rw[List.length_drop]at this;simp only[List.size_toArray];rw[this];refine hF _ _ _ (fun i j s t u v hi hj mz hs ht h3 h4 h5 h6=>?_) (h2 W hW hN);have DU:=ok.gK a val m;rw[DU.size]at h3 h4;have Z9:=(vF hA i hi).1;have kR:=(vF hA j hj).1;rw[DU.new i s Z9 hs h3]at h5;rw[DU.new j t kR ht h4]at h6;cases h5;cases h6;exact hap i j Z9 kR (by rw[hf];exact hi) (by rw[hf];exact hj) mz
 have hno:∀ j,(Array.replicate l.toArray.size false).getD j false=false:=fun j=>by
  rcases Nat.lt_or_ge j l.length with h | h
  ·simp[h]
  ·simp[Nat.not_lt.2 h]
 refine wp_region_any hm (vD _ _ _ _ ?_)
 refine OJ (eff:=eff) (on:=on) (EP:=EP) (C:=M w) (D:=D) (al:=Z8) (fun i o ho ha=>by
  obtain⟨_,h1,o',GH,hg⟩:=vF hA i (by rw[<-hf];exact ha);rw[ho]at GH;cases GH
  exact⟨h1,fun y=>by unfold Region.wanted;rw[hg]⟩) hMs ok DO (RegG.OG hz hO) (fun W W' h h'=>Xl _ _ _ h h') (a0:=a) hbr _ _ _ _ (by simp) (by simp) h0 (fun i j hi=>by rw[hno]at hi;cases hi) (fun i _=>hno i) (fun i _ hi=>hD0 i hi) ?_
 obtain⟨val,h1,h2⟩:=hbr (fun j=>(EP j).nW) (fun j=>(EP j).pw);exact⟨_,val,fun j=>(EP j).pw,h1,h2,fun j hj=>by(rw[hno]at hj;cases hj),JU.start a _ (fun j hj=>by(rw[hno]at hj;cases hj)),⟨fun j hj=>by(rw[hno]at hj;cases hj),fun j _ hj=>by(rw[hno]at hj;cases hj)⟩⟩
end Go.Proofs.YtjgccapbphadjaaGreatDoor.fS
namespace Go.Proofs.YtjgccapbphadjaaGreatDoor
open Go Go.RowKit
theorem nZ {P:Program} {p q:Value->World->Prop} (h:∀ v W,p v W->q v W):∀ {r:Result Next},jE (Calls P) gz p r->jE (Calls P) gz q r
 | .ok (.value _) _,hr=>h _ _ hr
 | .ok .skip _,hr=>h _ _ hr
 | .ok (.enter _ _) _,hr=>Calls.mono hr fun _ _ ⟨v,e,hv⟩=>⟨v,e,h _ _ hv⟩
 | .ok (.round _ _ _ _ _) _,hr=>nomatch hr
end Go.Proofs.YtjgccapbphadjaaGreatDoor
namespace Go.Proofs.YtjgccapbphadjaaGreatDoor.RegQ
open Go Go.RowKit
def up {M:World->World->Prop} (E:aZ M):RegG.aZ M:=⟨E.P,fun _=>E.H,E.nW,E.pw,fun _ v W W'=>E.st v W W'⟩
def fT {M:World->World->Prop} (P:Program) (Cl:FuncId->Array Value->World->(Ending->World->Prop)->Prop) (Rd:Nat->FuncId->Array Value->Code->Code->World->(Ending->World->Prop)->Prop) (ops:Array Oper) (eff:Nat->Bool) (cw:Nat->Nat) (EP:Nat->aZ M) (C:World->Prop) (D:Nat->World->Prop) (Fin:List Oper->Act->World->Prop) (n:Nat) (l:List Oper) (k:Nat) (aR:List (Nat× (World->Prop))) (a:Act):Prop:=
 fS.fT P Cl Rd ops eff cw (fun _=>none) (fun i=>up (EP i)) C D (fun _=>false) Fin n l k aR a
def cJ {M:World->World->Prop} (P:Program) (Cl:FuncId->Array Value->World->(Ending->World->Prop)->Prop) (Rd:Nat->FuncId->Array Value->Code->Code->World->(Ending->World->Prop)->Prop) (ops:Array Oper) (eO:Bool) (m:Nat) (E:aZ M) (C:World->Prop) (D:Nat->World->Prop) (o:Oper) (k:Nat) (aR:List (Nat× (World->Prop))) (a:Act) (K:List (Nat× (World->Prop))->Act->Prop):Prop:=
 fS.cJ P Cl Rd ops eO m none (up E) C D (fun _=>false) o k aR a K
section
variable {P:Program} {Cl:FuncId→Array Value→World→(Ending→World→Prop)→Prop} {Rd:Nat→FuncId→Array Value→Code→Code→World→(Ending→World→Prop)→Prop}
  {ops:Array Oper} {eff:Nat→Bool} {cw:Nat→Nat} {M:World→World→Prop} {on:Nat→Option Tmp} {EP:Nat→aZ M} {C:World→Prop} {D:Nat→World→Prop} {Fin:List Oper→Act→World→Prop} {eO:Bool} {m:Nat} {s:Option Tmp} {E:aZ M} {o:Oper} {k:Nat} {aR:List (Nat× (World→Prop))} {a:Act} {K:List (Nat× (World→Prop))→Act→Prop} {l:List Oper}
theorem au (h:∀ K:List (Nat× (World->Prop))->Act->Prop,(∀ hi a,en (fT P Cl Rd ops eff cw EP C D Fin m l (k+1) hi a)->K hi a)->cJ P Cl Rd ops (eff k) (cw k) (EP k) C D o k aR a K):en (fT P Cl Rd ops eff cw EP C D Fin (m+1) (o::l) k aR a):=
 ⟨(fS.au (D:=D) (al:=fun _=>false) (on:=(fun _=>none)) fun K hK=>h K fun hi a hl=>hK hi a ⟨hl.out⟩).out⟩
theorem bG (h:∀ W,C W->(∀ x∈aR,x.2 W)->Fin l a W):en (fT P Cl Rd ops eff cw EP C D Fin 0 l k aR a):=⟨h⟩
theorem bR (he:eO=false) (hw:Region.wanted o (yielded ops a.tmps)=true) (h:∃ v,(∀ W: {W//C W},aB P o a v W.1)/\K aR (a.put o.dst v)):cJ P Cl Rd ops eO m E C D o k aR a K:=fS.bR he hw h
theorem DW (he:eO=false) (hw:Region.wanted o (yielded ops a.tmps)=true) (v:Value) (h1:∀ W,C W->needs m aR W->aB P o a v W) (h2:K aR (a.put o.dst v)):cJ P Cl Rd ops eO m E C D o k aR a K:=fS.DW he hw v h1 h2
theorem ck (he:eO=true) (hw:Region.wanted o (yielded ops a.tmps)=true) (E':aZ M) (hE:E=E') (h1:∀ W,C W->D k W->needs m aR W->jE Cl Rd (fun v W'=>(M W W'/\∀ j,j≠k->m.testBit j=false->D j W->D j W')/\E'.P v/\E'.H v W') ((execOp a.eval o).run P W)) (h2:∀ v,E'.P v->K ((k,E'.H v)::aR) (a.put o.dst v)):cJ P Cl Rd ops eO m E C D o k aR a K:=
 fS.ck (al:=fun _=>false) (s:=none) he hw (up E') (by rw[hE]) h1 h2
theorem bX (hw:Region.wanted o (yielded ops a.tmps)=false) (h:K aR (a.put o.dst undef)):cJ P Cl Rd ops eO m E C D o k aR a K:=fS.bX hw h
end
theorem bB {P:Program} {id:Nat} {Q:Exit->Act->World->Prop} {a:Act} {w:World} {l:List Oper} (M:World->World->Prop) (hd:M w w.drew) (Xl:∀ A B C,M A B->M B C->M A C) (hm:P.follows .mixedOrders=true) (m:Nat) (cw:List Nat) (eff:Nat->Bool) (hB:mV .any l.toArray cw m=true) (EP:Nat->aZ M) (D:Nat->World->Prop) (hD0:∀ j,j<m->D j w.drew) (h:∀ C:World->Prop,(∀ W,C W↔M w W)->Nonempty {W//C W} ->en (fT P (Calls P) gz l.toArray eff (fun i=>cw.getD i 0) EP C D (fun r a W=>wpList P l.toArray Q r a W) m l 0 [] a)):(Code.region id l.toArray true).wp P Q a w:=
 fS.jG M hd Xl hm m cw eff hB (fun _=>none) (fun _ _=>rfl) (List.all_eq_true.2 fun _ _=>List.all_eq_true.2 fun _ _=>rfl) (fun i=>up (EP i)) D hD0 [] (fun _=>false) rfl (fun _=>rfl) (fun h=>by obtain⟨_,h⟩:=h;cases h) _ (fun _ _ _ _ h=>h) fun C hC hne=>⟨(h C hC hne).out⟩
end Go.Proofs.YtjgccapbphadjaaGreatDoor.RegQ
namespace Go.Proofs.YtjgccapbphadjaaGreatDoor.RegG
open Go Go.RowKit
def fT {M:World->World->Prop} (P:Program) (Cl:FuncId->Array Value->World->(Ending->World->Prop)->Prop) (Rd:Nat->FuncId->Array Value->Code->Code->World->(Ending->World->Prop)->Prop) (ops:Array Oper) (eff:Nat->Bool) (cw:Nat->Nat) (on:Nat->Option Tmp) (EP:Nat->aZ M) (C:World->Prop) (Fin:List Oper->Act->World->Prop) (n:Nat) (l:List Oper) (k:Nat) (aR:List (Nat× (World->Prop))) (a:Act):Prop:=
 fS.fT P Cl Rd ops eff cw on EP C (fun _ _=>True) (fun _=>false) Fin n l k aR a
def cJ {M:World->World->Prop} (P:Program) (Cl:FuncId->Array Value->World->(Ending->World->Prop)->Prop) (Rd:Nat->FuncId->Array Value->Code->Code->World->(Ending->World->Prop)->Prop) (ops:Array Oper) (eO:Bool) (m:Nat) (s:Option Tmp) (E:aZ M) (C:World->Prop) (o:Oper) (k:Nat) (aR:List (Nat× (World->Prop))) (a:Act) (K:List (Nat× (World->Prop))->Act->Prop):Prop:=
 fS.cJ P Cl Rd ops eO m s E C (fun _ _=>True) (fun _=>false) o k aR a K
section
variable {P:Program} {Cl:FuncId→Array Value→World→(Ending→World→Prop)→Prop} {Rd:Nat→FuncId→Array Value→Code→Code→World→(Ending→World→Prop)→Prop}
  {ops:Array Oper} {eff:Nat→Bool} {cw:Nat→Nat} {M:World→World→Prop} {on:Nat→Option Tmp} {EP:Nat→aZ M} {C:World→Prop} {D:Nat→World→Prop} {Fin:List Oper→Act→World→Prop} {eO:Bool} {m:Nat} {s:Option Tmp} {E:aZ M} {o:Oper} {k:Nat} {aR:List (Nat× (World→Prop))} {a:Act} {K:List (Nat× (World→Prop))→Act→Prop} {l:List Oper}
theorem au (h:∀ K:List (Nat× (World->Prop))->Act->Prop,(∀ hi a,en (fT P (Calls P) gz ops eff cw on EP C Fin m l (k+1) hi a)->K hi a)->cJ P (Calls P) gz ops (eff k) (cw k) (on k) (EP k) C o k aR a K):en (fT P (Calls P) gz ops eff cw on EP C Fin (m+1) (o::l) k aR a):=
 ⟨(fS.au (D:=(fun _ _=>True)) (al:=fun _=>false) (on:=on) fun K hK=>h K fun hi a hl=>hK hi a ⟨hl.out⟩).out⟩
theorem bG (h:∀ W,C W->(∀ x∈aR,x.2 W)->Fin l a W):en (fT P (Calls P) gz ops eff cw on EP C Fin 0 l k aR a):=⟨h⟩
theorem bR (he:eO=false) (hw:Region.wanted o (yielded ops a.tmps)=true) (h:∃ v,(∀ W: {W//C W},aB P o a v W.1)/\K aR (a.put o.dst v)):cJ P (Calls P) gz ops eO m s E C o k aR a K:=fS.bR he hw h
theorem ck (he:eO=true) (hw:Region.wanted o (yielded ops a.tmps)=true) (E':aZ M) (hE:E=E') (h1:∀ W,C W->needs m aR W->jE (Calls P) gz (fun v W'=>M W W'/\E'.P v/\E'.H (eT s a) v W') ((execOp a.eval o).run P W)) (h2:∀ v,E'.P v->K ((k,E'.H (eT s a) v)::aR) (a.put o.dst v)):cJ P (Calls P) gz ops eO m s E C o k aR a K:=
 fS.ck (al:=fun _=>false) he hw E' hE (fun W hW _ hN=>nZ (fun _ _ ⟨h1,h2⟩=>⟨⟨h1,fun _ _ _ _=>trivial⟩,h2⟩) (h1 W hW hN)) h2
end
theorem bB {P:Program} {id:Nat} {Q:Exit->Act->World->Prop} {a:Act} {w:World} {l:List Oper} (M:World->World->Prop) (hd:M w w.drew) (Xl:∀ A B C,M A B->M B C->M A C) (hm:P.follows .mixedOrders=true) (m:Nat) (cw:List Nat) (eff:Nat->Bool) (hB:mV .any l.toArray cw m=true) (on:Nat->Option Tmp) (hz:∀ j,l.toArray.size<=j->on j=none) (hO:JV l.toArray cw on=true) (EP:Nat->aZ M) (h:∀ C:World->Prop,(∀ W,C W↔M w W)->Nonempty {W//C W} ->en (fT P (Calls P) gz l.toArray eff (fun i=>cw.getD i 0) on EP C (fun r a W=>wpList P l.toArray Q r a W) m l 0 [] a)):(Code.region id l.toArray true).wp P Q a w:=
 fS.jG M hd Xl hm m cw eff hB on hz hO EP (fun _ _=>True) (fun _ _=>trivial) [] (fun _=>false) rfl (fun _=>rfl) (fun h=>by obtain⟨_,h⟩:=h;cases h) _ (fun _ _ _ _ h=>h) fun C hC hne=>⟨(h C hC hne).out⟩
end Go.Proofs.YtjgccapbphadjaaGreatDoor.RegG
namespace Go.Proofs.YtjgccapbphadjaaGreatDoor
open Go Go.RowKit
section
variable {P:Program} {ops:Array Oper} {eff:Nat→Bool} {cw:Nat→Nat} {M:World→World→Prop} {EP:Nat→aZ M} {C:World→Prop} {Fin:List Oper→Act→World→Prop}
def fT (P:Program) (Cl:FuncId->Array Value->World->(Ending->World->Prop)->Prop) (Rd:Nat->FuncId->Array Value->Code->Code->World->(Ending->World->Prop)->Prop) (ops:Array Oper) (eff:Nat->Bool) (cw:Nat->Nat) (EP:Nat->aZ M) (C:World->Prop) (Fin:List Oper->Act->World->Prop) (n:Nat) (l:List Oper) (k:Nat) (aR:List (Nat× (World->Prop))) (a:Act):Prop:=
 RegQ.fT P Cl Rd ops eff cw EP C (fun _ _=>True) Fin n l k aR a
def cJ (P:Program) (Cl:FuncId->Array Value->World->(Ending->World->Prop)->Prop) (Rd:Nat->FuncId->Array Value->Code->Code->World->(Ending->World->Prop)->Prop) (ops:Array Oper) (eO:Bool) (m:Nat) (E:aZ M) (C:World->Prop) (o:Oper) (k:Nat) (aR:List (Nat× (World->Prop))) (a:Act) (K:List (Nat× (World->Prop))->Act->Prop):Prop:=
 RegQ.cJ P Cl Rd ops eO m E C (fun _ _=>True) o k aR a K
theorem au {m:Nat} {o:Oper} {rest:List Oper} {k:Nat} {aR:List (Nat× (World->Prop))} {a:Act} (h:∀ K:List (Nat× (World->Prop))->Act->Prop,(∀ hi a,en (fT P (Calls P) gz ops eff cw EP C Fin m rest (k+1) hi a)->K hi a)->cJ P (Calls P) gz ops (eff k) (cw k) (EP k) C o k aR a K):en (fT P (Calls P) gz ops eff cw EP C Fin (m+1) (o::rest) k aR a):=
 ⟨(RegQ.au (D:=fun _ _=>True) fun K hK=>h K fun hi a hl=>hK hi a ⟨hl.out⟩).out⟩
theorem bG {l:List Oper} {k:Nat} {aR:List (Nat× (World->Prop))} {a:Act} (h:∀ W,C W->(∀ x∈aR,x.2 W)->Fin l a W):en (fT P (Calls P) gz ops eff cw EP C Fin 0 l k aR a):=⟨h⟩
theorem bR {eO:Bool} {m:Nat} {E:aZ M} {o:Oper} {k:Nat} {aR:List (Nat× (World->Prop))} {a:Act} {K:List (Nat× (World->Prop))->Act->Prop} (he:eO=false) (hw:Region.wanted o (yielded ops a.tmps)=true) (h:∃ v,(∀ W: {W//C W},aB P o a v W.1)/\K aR (a.put o.dst v)):cJ P (Calls P) gz ops eO m E C o k aR a K:=RegQ.bR he hw h
theorem DW {eO:Bool} {m:Nat} {E:aZ M} {o:Oper} {k:Nat} {aR:List (Nat× (World->Prop))} {a:Act} {K:List (Nat× (World->Prop))->Act->Prop} (he:eO=false) (hw:Region.wanted o (yielded ops a.tmps)=true) (v:Value) (h1:∀ W,C W->needs m aR W->aB P o a v W) (h2:K aR (a.put o.dst v)):cJ P (Calls P) gz ops eO m E C o k aR a K:=RegQ.DW he hw v h1 h2
theorem ck {eO:Bool} {m:Nat} {E:aZ M} {o:Oper} {k:Nat} {aR:List (Nat× (World->Prop))} {a:Act} {K:List (Nat× (World->Prop))->Act->Prop} (he:eO=true) (hw:Region.wanted o (yielded ops a.tmps)=true) (E':aZ M) (hE:E=E') (h1:∀ W,C W->needs m aR W->jE (Calls P) gz (fun v W'=>M W W'/\E'.P v/\E'.H v W') ((execOp a.eval o).run P W)) (h2:∀ v,E'.P v->K ((k,E'.H v)::aR) (a.put o.dst v)):cJ P (Calls P) gz ops eO m E C o k aR a K:=
 RegQ.ck he hw E' hE (fun W hW _ hN=>nZ (fun _ _ ⟨h1,h2⟩=>⟨⟨h1,fun _ _ _ _=>trivial⟩,h2⟩) (h1 W hW hN)) h2
theorem bX {eO:Bool} {m:Nat} {E:aZ M} {o:Oper} {k:Nat} {aR:List (Nat× (World->Prop))} {a:Act} {K:List (Nat× (World->Prop))->Act->Prop} (hw:Region.wanted o (yielded ops a.tmps)=false) (h:K aR (a.put o.dst undef)):cJ P (Calls P) gz ops eO m E C o k aR a K:=RegQ.bX hw h
end
theorem bB {P:Program} {id:Nat} {Q:Exit->Act->World->Prop} {a:Act} {w:World} {l:List Oper} (M:World->World->Prop) (hd:M w w.drew) (Xl:∀ A B C,M A B->M B C->M A C) (hm:P.follows .mixedOrders=true) (m:Nat) (cw:List Nat) (eff:Nat->Bool) (hB:mV .any l.toArray cw m=true) (EP:Nat->aZ M) (h:∀ C:World->Prop,(∀ W,C W↔M w W)->Nonempty {W//C W} ->en (fT P (Calls P) gz l.toArray eff (fun i=>cw.getD i 0) EP C (fun r a W=>wpList P l.toArray Q r a W) m l 0 [] a)):(Code.region id l.toArray true).wp P Q a w:=
 RegQ.bB M hd Xl hm m cw eff hB EP (fun _ _=>True) (fun _ _=>trivial) fun C hC hne=>⟨(h C hC hne).out⟩
theorem aK {P:Program} {id:Nat} {Q:Exit->Act->World->Prop} {a:Act} {w:World} {l:List Oper} (d:Bool) (T:Nat->Prop) (hm:P.follows .mixedOrders=true) (m:Nat) (cw:List Nat) (eff:Nat->Bool) (hB:mV .any l.toArray cw m=true) (EP:Nat->aZ (Move d T)) (h:∀ C:World->Prop,(∀ W,C W↔Move d T w W)->Nonempty {W//C W} ->en (fT P (Calls P) gz l.toArray eff (fun i=>cw.getD i 0) EP C (fun r a W=>wpList P l.toArray Q r a W) m l 0 [] a)):(Code.region id l.toArray true).wp P Q a w:=
 bB (Move d T) (Move.ext (Ext.refl w).drew) (fun _ _ _ h k=>h.trans k) hm m cw eff hB EP h
end Go.Proofs.YtjgccapbphadjaaGreatDoor
