/- The law for regions in any order (XReg), at the regions of the calculus: the check as a Bool; steps. -/
import Derived.Test.YtjgccapbphadjaaGreatDoorProg
import Derived.WalkKit
import Derived.OrdersIn
import Derived.RangeFuncNested
import Derived.Lib.Hide
import Derived.Sort.Grow
import Derived.Deep.Draws
import Derived.Deep.MidRow
import Derived.Maps.AppendAt
set_option maxRecDepth 100000
set_option maxHeartbeats 16000000
open Go.Lib (hid)
open Go renaming World->An,Oper->AM,Act->A_,Program->A',FuncId->Bm,Ending->Bs,Code->D0,Calls->EV,TypeId->E_,undef->GB,getD_set_ne->GS,mem_ready->If,ready_mono->Is,callsIn_wide->K_,Exit->NX,wanted_put->N_,Fence->On,Result->O',wpIn_wide->P',Addr->Rr,execOp_put->RC,wpOp_mono->R_,Operand->Se,Next->SO
open Go.Region renaming wanted->As,ready->By,binds->DH,Mode->DS,noSelect_spec->It,noSelect->Lw,free_spec->P_
open Bool renaming true->AF,false->AI,false_eq_true->C_,and_eq_true->DE,or_eq_true->FG,not_eq_true'->G',eq_false_iff->I'
open Option renaming some->AN,none->D_
open Array renaming getElem?_eq_some_iff->AS,getElem?_eq_getElem->AT,getElem?_eq_none->DP,setIfInBounds_comm->GO,all_eq_true_iff_forall_mem->GW,getElem?_setIfInBounds_ne->H',replicate->IN,ext_getElem?->I_,any_eq_true'->N'
open Go.Fence renaming wide->B_
open Nat renaming le_trans->B',lt_or_ge->C',strongRecOn->Ly,lt_trichotomy->OR
open Go.World renaming putObj_heap_other->Cd,putObj_heap_same->H_,cell?_of_block->Iv,alloc_heap_new->IF,frozen?_of_block->Lo,setCell->M_,cell?->St
open List renaming all_eq_true->DQ,mem_range->G_,getElem?_cons_succ->J_,range->Kx,contains_iff_mem->L7,range'->L_,size_toArray->O_,length_take->Q_
open Go.Ending renaming returned->D'
open Go.Code renaming region->Ft,rangeFunc->RE
open Go.Act renaming put_comm->FF,put->Sf
open Classical renaming byContradiction->F_
open Go.CallsIn renaming mono->IT
open Go.RoundIn renaming mono->J'
open Iff renaming rfl->MY
namespace Go.Proofs.YtjgccapbphadjaaGreatDoor
section
open Go Go.RowKit
abbrev aa (w w':An):Prop:=Below w.heap.size w w'
abbrev ah:=EV Tryz.prog
theorem ag {α:Sort _} (a:α):∃ n,n=a:=⟨a,rfl⟩
theorem aB {α:Type _} {l:List α} {i:Nat} (h:i<l.length):l[i]? =AN l[i]:=List.getElem?_eq_getElem h
theorem ax {α:Type _} {l:List α} {i:Nat} {a:α} (h:l[i]? =AN a):a∈l:=List.mem_of_getElem? h
theorem Ob {α:Type _} {i:Nat} {a:α} {l:List α} :l[i]? =AN a↔ ∃ h:i<l.length,l[i]=a:=List.getElem?_eq_some_iff
theorem ay {n m k:Nat} (a:n<m) (b:m≤k):n<k:=Nat.lt_of_lt_of_le a b
theorem aJ {α:Type _} {a b:List α} :(a++b).length=a.length+b.length:=List.length_append
theorem bB {α:Type _} {l:List α} {i:Nat} {a:α} :l.getD i a=l[i]?.getD a:=List.getD_eq_getElem?_getD
theorem aF (n:Nat):n≤n:=Nat.le_refl n
theorem aN {α:Type _} {β:Type _} {f:α→β} {l:List α} {i:Nat} :(l.map f)[i]? =l[i]?.map f:=List.getElem?_map
theorem bu {α:Type _} {a:α} {l:List α} :a∈a::l:=List.mem_cons_self
theorem aP {α:Type _} {β:Type _} {a:List α} (f:α→β):(a.map f).length=a.length:=List.length_map f
theorem aey {α:Type _} {i:Nat} {b:α} {a:Array α} :a[i]? =AN b↔ ∃ h:i<a.size,a[i]=b:=AS
theorem aT {α:Type _} {l:List α} {i:Nat} (h:l.length≤i):l[i]? =none:=List.getElem?_eq_none h
theorem bH {α:Type _} {a b:List α} {i:Nat} (h:i<a.length):(a++b)[i]? =a[i]? :=List.getElem?_append_left h
theorem cF {α:Type _} {a b:List α} {i:Nat} (h:a.length≤i):(a++b)[i]? =b[i-a.length]? :=List.getElem?_append_right h
theorem bM {α:Type _} (y:α) {a:α} {l:List α} (h:a∈l):a∈y::l:=List.mem_cons_of_mem y h
def iU (F:On) (n:Nat) (P:A') (C:An->Prop) (dst:Option Tmp) (a:A_) (K:A_->An->Prop):O' SO->Prop
 | .ok (.value v) w'=>C w'/\K (a.put dst v) w'
 | .ok .skip w'=>C w'/\K (a.put dst GB) w'
 | .ok (.enter f args) w'=>CallsIn F (n-1) P f args w' (fun e w''=>∃ v,e=D' v/\C w''/\K (a.put dst v) w'')
 | .ok (.round l f tmps Cv body) w'=>RoundIn F (n-1) P l f tmps Cv body w' (fun e w''=>∃ v,e=D' v/\C w''/\K (a.put dst v) w'')
 | _=>False
def az (P:A') (o:AM) (a:A_) (v:Value) (W:An):Prop:=
 (execOp a.eval o).run P W=.ok (.value v) W\/((execOp a.eval o).run P W=.ok .skip W/\v=GB)
def dN (F:On) (n:Nat) (P:A') (C:An→Prop) (ops:Array AM) (eI:Bool) (o:AM) (K:A_→An→Prop) (a:A_) (w:An):Prop:=
  if As o (yielded ops a.tmps)then
    (if eI then iU F n P C o.dst a K ((execOp a.eval o).run P w)
     else ∃ v,(∀ W: {W//C W},az P o a v W.1)∧K (a.put o.dst v) w)
  else K (a.put o.dst GB) w
def kh (F:On) (n:Nat) (P:A') (C:An->Prop) (ops:Array AM) (eff:Nat->Bool) (Q:A_->An->Prop):List AM->Nat->A_->An->Prop
 | [],_,a,w=>Q a w
 | o::rest,k,a,w=>dN F n P C ops (eff k) o (kh F n P C ops eff Q rest (k+1)) a w
section
variable {F:On} {n:Nat} {P:A'} {C:An→Prop} {ops:Array AM} {eff:Nat→Bool} {md:DS}
theorem uL {dst:Option Tmp} {a:A_} {K K':A_->An->Prop} (h:∀ a w,C w->K a w->K' a w) {r:O' SO} (hh:iU F n P C dst a K r):iU F n P C dst a K' r:=by
 cases r with
 | halt x w=>exact hh.elim
 | ok x w=>
  cases x<;>simp only[iU]at hh ⊢ <;>first
   | exact⟨hh.1,h _ _ hh.1 hh.2⟩
   | exact IT hh (fun e w' ⟨v,he,hC,hK⟩=>⟨v,he,hC,h _ _ hC hK⟩)
   | exact J' hh (fun e w' ⟨v,he,hC,hK⟩=>⟨v,he,hC,h _ _ hC hK⟩)
theorem uM {eI:Bool} {o:AM} {a:A_} {w:An} {K K':A_->An->Prop} (h0:∀ a,K a w->K' a w) (h:∀ a w,C w->K a w->K' a w) (hh:dN F n P C ops eI o K a w):dN F n P C ops eI o K' a w:=by
 unfold dN at*;split
 ·rename_i hw
  simp only[hw,if_true]at hh;cases eI with
  | true=>simp only[if_true]at hh ⊢;exact uL h hh
  | false=>simp only[C_,if_false]at hh ⊢;obtain⟨v,h1,h2⟩:=hh;exact⟨v,h1,h0 _ h2⟩
 ·rename_i hw
  simp only[hw]at hh;exact h0 _ hh
theorem uN (hd:F.depth=D_) {dst:Option Tmp} {a:A_} {K:A_->An->Prop} {r:O' SO} (hh:iU F n P C dst a K r):∃ u w',K (a.put dst u) w':=by
 cases r with
 | halt x w=>exact hh.elim
 | ok x w=>
  cases x<;>simp only[iU]at hh
  case value v=>exact⟨_,_,hh.2⟩
  case skip=>exact⟨_,_,hh.2⟩
  case enter f args=>
   obtain⟨e,w',fr,⟨v,_,_,hK⟩,_⟩:=hh.2 [] (fun d h=>by rw[hd]at h;cases h);exact⟨_,_,hK⟩
  case round l f tmps Cv body=>
   obtain⟨e,w',⟨v,_,_,hK⟩,_⟩:=hh.2 default [] (fun d h=>by rw[hd]at h;cases h);exact⟨_,_,hK⟩
def KH (F:On) (n:Nat) (P:A') (C:An->Prop) (ops:Array AM) (eff:Nat->Bool) (i:Nat) (K:A_->An->Prop) (a:A_) (w:An):Prop:=
 match ops[i]? with
 | none=>K a w
 | some o=>dN F n P C ops (eff i) o K a w
def rP (F:On) (n:Nat) (P:A') (C:An->Prop) (md:DS) (ops:Array AM) (eff:Nat->Bool) (Q:A_->An->Prop):Nat->Array Bool->A_->An->Prop
 | 0,listed,a,w=>By md ops listed=[]/\Q a w
 | fuel+1,listed,a,w=>
  (By md ops listed=[]->Q a w)/\
  ∀ i∈By md ops listed,KH F n P C ops eff i (rP F n P C md ops eff Q fuel (listed.setIfInBounds i AF)) a w
def Aa (ops:Array AM):Bool:=ops.all fun o=>match o.op with | .defer _=>AI | _=>AF
theorem Ab (h:Aa ops=AF) {j:Nat} {o:AM} (ho:ops[j]? =AN o) (c:Call):o.op≠ .defer c:=by intro heq;have:=GW.1 h o (Array.mem_of_getElem? ho);simp[heq]at this
theorem l9 (hF:∀ f,F.fn f) (hd:F.depth=D_) (VI:Aa ops=AF) {Q:A_->An->Prop} {Q':NX->A_->An->Prop} (hQ:∀ a w,C w->Q a w->Q' .normal a w): ∀ (fuel:Nat) (listed:Array Bool) (a:A_) (w:An),C w->rP F n P C md ops eff Q fuel listed a w->wpAnyIn F n P md ops Q' fuel listed a w
 | 0,_,_,_,hC,h=>⟨h.1,hQ _ _ hC h.2⟩
 | fuel+1,listed,a,w,hC,h=>by
  refine⟨fun h0=>hQ _ _ hC (h.1 h0),fun i hi=>?_⟩;have hx:=h.2 i hi;have ih:=fun a' w' Cw=>l9 hF hd VI hQ fuel (listed.setIfInBounds i AF) a' w' Cw
  unfold KH at hx;unfold wpOpIn;cases ho:ops[i]? with
  | none=>simp only[ho]at hx;exact ih _ _ hC hx
  | some o=>
   simp only[ho]at hx ⊢;have afS:Oper.semAt F.round a.eval o=execOp a.eval o:=Oper.semAt_eq _ _ _ (Ab VI ho);unfold dN at hx;split
   ·rename_i hw
    simp only[hw,if_true]at hx;refine⟨fun f _=>hF f,?_⟩;rw[afS];cases he:eff i with
    | false=>
     simp only[he,C_,if_false]at hx;obtain⟨v,h1,h2⟩:=hx;rcases h1 ⟨w,hC⟩with hr | ⟨hr,rfl⟩<;>rw[hr]<;>exact ih _ _ hC h2
    | true=>
     simp only[he,if_true]at hx;generalize (execOp a.eval o).run P w=r at hx;cases r with
     | halt x w=>exact hx.elim
     | ok x w=>
      cases x<;>simp only[iU]at hx<;>simp only[Oper.uponIn]
      case value v=>exact ih _ _ hx.1 hx.2
      case skip=>exact ih _ _ hx.1 hx.2
      case enter f args=>exact⟨fun h=>(by rw[hd]at h;cases h),IT hx (fun e w' ⟨v,he,Cw,hK⟩=>by subst he;exact ih _ _ Cw hK)⟩
      case round l f tmps Cv body=>exact⟨fun h=>(by rw[hd]at h;cases h),J' hx (fun e w' ⟨v,he,Cw,hK⟩=>by subst he;exact ih _ _ Cw hK)⟩
   ·rename_i hw
    simp only[hw]at hx;exact⟨fun f _=>hF f,ih _ _ hC hx⟩
def dB (P:A') (ops:Array AM) (C:An->Prop) (o:AM) (v:Value) (a:A_):Prop:=
 (As o (yielded ops a.tmps)=AF/\∀ W,C W->az P o a v W)\/(As o (yielded ops a.tmps)=AI/\v=GB)
theorem mH {o:AM} (hs:∀ cs b,o.op≠ .select cs b) {a:A_} {dst:Option Tmp} {u v:Value} {W:An} (h:∀ d,dst=AN d->d∉o.looksAt ops):az P o (a.put dst u) v W↔az P o a v W:=by unfold az;rw[RC o hs a dst u h]
theorem dB.put {o:AM} {v:Value} {a:A_} (hs:∀ cs b,o.op≠ .select cs b) {dst:Option Tmp} {u:Value} (h:∀ d,dst=AN d->d∉o.looksAt ops):dB P ops C o v (a.put dst u)↔dB P ops C o v a:=by
 unfold dB;rw[N_ o a dst u h];constructor
 ·rintro(⟨h1,h2⟩ | h1)
  ·exact .inl ⟨h1,fun W hW=>(mH hs h).1 (h2 W hW)⟩
  ·exact .inr h1
 ·rintro(⟨h1,h2⟩ | h1)
  ·exact .inl ⟨h1,fun W hW=>(mH hs h).2 (h2 W hW)⟩
  ·exact .inr h1
theorem dB.dN {o:AM} {v:Value} {a:A_} {w:An} {K:A_->An->Prop} (hy:dB P ops C o v a) (h:K (a.put o.dst v) w):dN F n P C ops AI o K a w:=by
 unfold Proofs.YtjgccapbphadjaaGreatDoor.dN;rcases hy with⟨hw,hv⟩ | ⟨hw,rfl⟩
 ·simp only[hw,if_true,C_,if_false];exact⟨v,fun W=>hv W.1 W.2,h⟩
 ·simp only[hw,C_,if_false];exact h
theorem ia {o:AM} {a:A_} {w:An} {K:A_->An->Prop} (h:dN F n P C ops AI o K a w):∃ v,dB P ops C o v a/\K (a.put o.dst v) w:=by
 unfold Proofs.YtjgccapbphadjaaGreatDoor.dN at h;by_cases hw:As o (yielded ops a.tmps)=AF
 ·simp only[hw,if_true,C_,if_false]at h
  obtain⟨v,h1,h2⟩:=h;exact⟨v,.inl ⟨hw,fun W hW=>h1 ⟨W,hW⟩⟩,h2⟩
 ·simp only[hw]at h
  exact⟨GB,.inr ⟨by simpa using hw,rfl⟩,h⟩
theorem KJ {dx dj:Option Tmp} {v:Value} {a:A_} (hne:∀ d,dx=AN d->dj≠AN d) {K:A_->An->Prop} {r:O' SO} (h:iU F n P C dj (a.put dx v) K r): iU F n P C dj a (fun a' w'=>(∃ u,a'=a.put dj u)/\K (a'.put dx v) w') r:=by
 cases r with
 | halt x w=>exact h.elim
 | ok x w=>
  cases x<;>simp only[iU]at h ⊢
  case value u=>exact⟨h.1,⟨u,rfl⟩,by rw[<-FF a v u hne];exact h.2⟩
  case skip=>exact⟨h.1,⟨_,rfl⟩,by rw[<-FF a v GB hne];exact h.2⟩
  case enter f args=>exact IT h (fun e w' ⟨u,he,hC,hK⟩=>⟨u,he,hC,⟨u,rfl⟩,by rw[<-FF a v u hne];exact hK⟩)
  case round l f tmps Cv body=>exact J' h (fun e w' ⟨u,he,hC,hK⟩=>⟨u,he,hC,⟨u,rfl⟩,by rw[<-FF a v u hne];exact hK⟩)
theorem KM {eI:Bool} {oi oj:AM} {v:Value} (hap:oi.apart ops oj=AF) (Gi:∀ cs b,oi.op≠ .select cs b) (hsj:∀ cs b,oj.op≠ .select cs b) {K:A_->An->Prop} {a:A_} {w:An} (hy:dB P ops C oi v a) (h:dN F n P C ops eI oj K (a.put oi.dst v) w): dN F n P C ops eI oj (fun a' w'=>dB P ops C oi v a'/\K (a'.put oi.dst v) w') a w:=by
 obtain⟨h1,h2,h3⟩:=Oper.apart_spec hap;have keep:∀ u,dB P ops C oi v (a.put oj.dst u):=fun u=>(dB.put Gi h3).2 hy
 unfold Proofs.YtjgccapbphadjaaGreatDoor.dN at*;rw[N_ oj a oi.dst v h1,RC oj hsj a oi.dst v h1]at h;split
 ·rename_i hw
  simp only[hw,if_true]at h;cases eI with
  | true=>
   simp only[if_true]at h ⊢;exact uL (fun a' w' _ ⟨⟨u,hu⟩,hK⟩=>⟨by rw[hu];exact keep u,hK⟩) (KJ h2 h)
  | false=>
   simp only[C_,if_false]at h ⊢;obtain⟨u,hu,hK⟩:=h;exact⟨u,fun W=>(mH hsj h1).1 (hu W),keep u,by rw[<-FF a v u h2];exact hK⟩
 ·rename_i hw
  simp only[hw]at h;exact⟨keep _,by rw[<-FF a v GB h2];exact h⟩
theorem mf {i j:Nat} {listed:Array Bool} (hr:i∈By md ops listed) (hj:j∈By md ops listed) {oj:AM} (xK:ops[j]? =AN oj):∀ e∈oj.after,DH md e=AF->e.on≠i:=fun e he hb heq=>by
 obtain⟨_,oj',uO,hall⟩:=If.1 hj;rw[xK]at uO;cases uO;have h1:=hall e he hb;have h0:=(If.1 hr).1;rw[heq]at h1;rcases C' i listed.size with h' | h'
 ·simp[h']at h0 h1;rw[h0]at h1;cases h1
 ·simp[DP h']at h1
theorem Gj {Q:A_->An->Prop} {i:Nat} {oi:AM} {v:Value} (hi:ops[i]? =AN oi) (hei:eff i=AI) (Oc:∀ (j:Nat) (o:AM) cs b,ops[j]? =AN o->o.op≠ .select cs b): ∀ (fuel:Nat) (listed:Array Bool) (a:A_) (w:An), (∀ j oj,ops[j]? =AN oj->j≠i->listed.getD j AF=AI->(∀ e∈oj.after,DH md e=AF->e.on≠i)->oi.apart ops oj=AF)-> i∈By md ops listed->dB P ops C oi v a-> rP F n P C md ops eff Q fuel (listed.setIfInBounds i AF) (a.put oi.dst v) w->rP F n P C md ops eff Q (fuel+1) listed a w:=by
 intro fuel;induction fuel with
 | zero=>
  intro listed a w _ hr hy H;refine⟨fun h=>(by rw[h]at hr;cases hr),fun j hj=>?_⟩;by_cases jA:j=i
  ·subst jA;unfold KH;simp only[hi,hei];exact hy.dN H
  ·have:=Is hj jA
   rw[H.1]at this;cases this
 | succ fuel ih=>
  intro listed a w yD hr hy H;refine⟨fun h=>(by rw[h]at hr;cases hr),fun j hj=>?_⟩;by_cases jA:j=i
  ·subst jA;unfold KH;simp only[hi,hei];exact hy.dN H
  ·have h1:=H.2 j (Is hj jA)
   obtain⟨KN,oj,xK,hall⟩:=If.1 hj;have Xf:=mf hr hj xK
   have Xg:∀ k ok,ops[k]? =AN ok->k≠i->(listed.setIfInBounds j AF).getD k AF=AI->
     (∀ e∈ok.after,DH md e=AF->e.on≠i)->oi.apart ops ok=true:=fun k ok hk ed S8 hno=>by
    refine yD k ok hk ed ?_ hno;by_cases hjk:j=k
    ·subst hjk;exact KN
    ·rw[GS AF hjk]at S8;exact S8
   unfold KH at h1 ⊢;simp only[xK]at h1 ⊢;have h2:=KM (yD j oj xK jA KN Xf) (fun cs b=>Oc i oi cs b hi) (fun cs b=>Oc j oj cs b xK) hy h1;have step:∀ a' w',(dB P ops C oi v a'/\rP F n P C md ops eff Q fuel ((listed.setIfInBounds i AF).setIfInBounds j AF) (a'.put oi.dst v) w')->rP F n P C md ops eff Q (fuel+1) (listed.setIfInBounds j AF) a' w':=fun a' w' h3=>by
    refine ih (listed.setIfInBounds j AF) a' w' Xg (Is hr (Ne.symm jA)) h3.1 ?_;rw[GO _ _ jA];exact h3.2
   exact uM (fun a' h3=>step a' _ h3) (fun a' w' _ h3=>step a' w' h3) h2
theorem Cx (hd:F.depth=D_) {Q:A_->An->Prop} {i:Nat} {oi:AM} (hi:ops[i]? =AN oi) (hei:eff i=AF) (Oc:∀ (j:Nat) (o:AM) cs b,ops[j]? =AN o->o.op≠ .select cs b): ∀ (fuel:Nat) (listed:Array Bool) (a:A_) (w:An),C w-> (∀ j oj,ops[j]? =AN oj->j≠i->listed.getD j AF=AI->(∀ e∈oj.after,DH md e=AF->e.on≠i)->oi.apart ops oj=AF)-> (∀ j oj,ops[j]? =AN oj->j≠i->eff j=AF->listed.getD j AF=AI->∃ e∈oj.after,DH md e=AF/\eff e.on=AF/\listed.getD e.on AI=AI)-> i∈By md ops listed->KH F n P C ops eff i (rP F n P C md ops eff Q fuel (listed.setIfInBounds i AF)) a w-> rP F n P C md ops eff Q (fuel+1) listed a w:=by
 intro fuel;induction fuel with
 | zero=>
  intro listed a w hC yD Od hr H;refine⟨fun h=>(by rw[h]at hr;cases hr),fun j hj=>?_⟩;by_cases jA:j=i
  ·subst jA;exact H
  ·exfalso
   have hne:=Is hj jA;unfold KH at H;simp only[hi]at H;unfold Proofs.YtjgccapbphadjaaGreatDoor.dN at H;by_cases hw:As oi (yielded ops a.tmps)=AF
   ·simp only[hw,if_true,hei]at H
    obtain⟨u,w',hK⟩:=uN hd H;rw[hK.1]at hne;cases hne
   ·rw[if_neg hw]at H;rw[H.1]at hne;cases hne
 | succ fuel ih=>
  intro listed a w hC yD Od hr H;refine⟨fun h=>(by rw[h]at hr;cases hr),fun j hj=>?_⟩;by_cases jA:j=i
  ·subst jA;exact H
  ·obtain⟨KN,oj,xK,hall⟩:=If.1 hj
   have Xf:=mf hr hj xK;have Ac:eff j=false:=by
    cases h:eff j with
    | false=>rfl
    | true=>
     obtain⟨e,he,hb,_,hl⟩:=Od j oj xK jA h KN;rw[hall e he hb]at hl;cases hl
   have hap:=yD j oj xK jA KN Xf;obtain⟨h1,h2,h3⟩:=Oper.apart_spec hap;have Gi:=fun cs b=>Oc i oi cs b hi
   have hsj:=fun cs b=>Oc j oj cs b xK
   have h2':∀ d,oj.dst=AN d->oi.dst≠AN d:=fun d hd he=>h2 d he hd
   -- what the float yields, and what is left behind both
   have key:∃ v,dB P ops C oj v a/\KH F n P C ops eff i (rP F n P C md ops eff Q fuel ((listed.setIfInBounds j AF).setIfInBounds i AF)) (a.put oj.dst v) w:=by
    unfold KH at H ⊢;simp only[hi]at H ⊢;unfold Proofs.YtjgccapbphadjaaGreatDoor.dN at H ⊢;by_cases hw:As oi (yielded ops a.tmps)=AF
    ·simp only[hw,if_true,hei]at H
     have inner:∀ u w',rP F n P C md ops eff Q (fuel+1) (listed.setIfInBounds i AF) (a.put oi.dst u) w'->∃ v,dB P ops C oj v a/\rP F n P C md ops eff Q fuel ((listed.setIfInBounds j AF).setIfInBounds i AF) ((a.put oj.dst v).put oi.dst u) w':=fun u w' h=>by
      have hx:=h.2 j (Is hj jA);unfold KH at hx;simp only[xK,Ac]at hx;obtain⟨v,hy,hK⟩:=ia hx;refine⟨v,(dB.put hsj h1).1 hy,?_⟩;rw[GO _ _ jA,FF a v u h2'];exact hK
     obtain⟨u0,w0,h0⟩:=uN hd H;obtain⟨v,hy,_⟩:=inner u0 w0 h0;refine⟨v,hy,?_⟩;rw[N_ oi a oj.dst v h3,RC oi Gi a oj.dst v h3];simp only[hw,if_true,hei];have uniq:∀ v',dB P ops C oj v' a->v'=v:=fun v' hy'=>by
      rcases hy with⟨g1,g2⟩ | ⟨g1,g2⟩<;>rcases hy' with⟨k1,k2⟩ | ⟨k1,k2⟩
      ·have a1:=g2 w hC
       have a2:=k2 w hC;unfold az at a1 a2;rcases a1 with a1 | ⟨a1,b1⟩<;>rcases a2 with a2 | ⟨a2,b2⟩<;>rw[a1]at a2<;>cases a2<;>simp_all
      ·rw[g1]at k1;cases k1
      ·rw[g1]at k1;cases k1
      ·rw[g2,k2]
     generalize (execOp a.eval oi).run P w=r at H ⊢;cases r with
     | halt x w=>exact H.elim
     | ok x w=>
      cases x<;>simp only[iU]at H ⊢
      case value u=>
       obtain⟨v',hy',hK⟩:=inner _ _ H.2;rw[uniq v' hy']at hK;exact⟨H.1,hK⟩
      case skip=>
       obtain⟨v',hy',hK⟩:=inner _ _ H.2;rw[uniq v' hy']at hK;exact⟨H.1,hK⟩
      case enter f args=>
       exact IT H (fun e w' ⟨u,he,Cw,h⟩=>by
        obtain⟨v',hy',hK⟩:=inner _ _ h;rw[uniq v' hy']at hK
        exact⟨u,he,Cw,hK⟩)
      case round l f tmps Cv body=>
       exact J' H (fun e w' ⟨u,he,Cw,h⟩=>by
        obtain⟨v',hy',hK⟩:=inner _ _ h;rw[uniq v' hy']at hK
        exact⟨u,he,Cw,hK⟩)
    ·simp only[hw]at H
     have hx:=H.2 j (Is hj jA);unfold KH at hx;simp only[xK,Ac]at hx;obtain⟨v,hy,hK⟩:=ia hx;refine⟨v,(dB.put hsj h1).1 hy,?_⟩;rw[N_ oi a oj.dst v h3];simp only[hw];rw[GO _ _ jA];have:=FF a v GB h2';simpa[this]using hK
   obtain⟨v,hy,hK⟩:=key;unfold KH;simp only[xK,Ac];refine hy.dN (ih (listed.setIfInBounds j AF) _ w hC ?_ ?_ (Is hr (Ne.symm jA)) hK)
   ·intro k ok hk ed S8 hno
    refine yD k ok hk ed ?_ hno;by_cases hjk:j=k
    ·subst hjk;exact KN
    ·rw[GS AF hjk]at S8;exact S8
   ·intro k ok hk ed KP S8
    have hjk:j≠k:=fun h=>by subst h;rw[Ac]at KP;cases KP
    rw[GS AF hjk]at S8;obtain⟨e,he,hb,hee,hl⟩:=Od k ok hk ed KP S8;have hje:j≠e.on:=fun h=>by rw[<-h]at hee;rw[Ac]at hee;cases hee
    exact⟨e,he,hb,hee,by rw[GS AI hje];exact hl⟩
def qB (md:DS) (ops:Array AM) (eff:Nat->Bool) (listed:Array Bool) (i:Nat):Bool:=
 (Kx ops.size).all fun j=>j==i || !eff j || listed.getD j AF || match ops[j]? with
  | some oj=>oj.after.any (fun e=>DH md e&&eff e.on&& !listed.getD e.on AI)
  | none=>AF
theorem xL {i:Nat} {listed:Array Bool} (h:qB md ops eff listed i=AF) (j:Nat) (oj:AM) (hj:ops[j]? =AN oj) (hne:j≠i) (Ac:eff j=AF) (S8:listed.getD j AF=AI): ∃ e∈oj.after,DH md e=AF/\eff e.on=AF/\listed.getD e.on AI=false:=by simp only[qB,DQ,G_]at h;have h1:=h j (AS.1 hj).1;simp only[hj,FG,beq_iff_eq,hne,false_or,S8,C_,Ac,Bool.not_true]at h1;obtain⟨e,he,hb⟩:=N'.1 h1;simp only[DE,G']at hb;exact⟨e,he,hb.1.1,hb.1.2,hb.2⟩
def mI (md:DS) (ops:Array AM) (eff:Nat->Bool):Nat->Nat->Array Bool->Bool
 | 0,_,listed=>(By md ops listed).isEmpty
 | fuel+1,k,listed=>(By md ops listed).contains k&&Region.free md ops listed k&&(!eff k || qB md ops eff listed k)&&mI md ops eff fuel (k+1) (listed.setIfInBounds k AF)
def Oe (md:DS) (ops:Array AM) (eff:Nat->Bool):Bool:=Lw ops&&Aa ops&&mI md ops eff ops.size 0 (IN ops.size AI)
theorem Cy (hd:F.depth=D_) {Q:A_->An->Prop} (hs:Lw ops=AF):∀ (l:List AM) (k:Nat) (listed:Array Bool) (a:A_) (w:An),C w->(∀ j,l[j]? =ops[k+j]?)-> mI md ops eff l.length k listed=AF->kh F n P C ops eff Q l k a w->rP F n P C md ops eff Q l.length listed a w
 | [],_,_,_,_,_,_,hB,h=>⟨by simpa[mI]using hB,h⟩
 | o::l,k,listed,a,w,hC,hl,hB,h=>by
  have h0:ops[k]? =AN o:=by simpa using(hl 0).symm
  simp only[List.length_cons,mI,DE,FG,G']at hB;obtain⟨⟨⟨hr,hf⟩,he⟩,hB'⟩:=hB;have hr':k∈By md ops listed:=by simpa using hr
  have ih:∀ a' w',C w'->kh F n P C ops eff Q l (k+1) a' w'->rP F n P C md ops eff Q l.length (listed.setIfInBounds k AF) a' w':=fun a' w' Cw h'=>
   Cy hd hs l (k+1) _ a' w' Cw (fun j=>by have:=hl (j+1);simpa[Nat.add_assoc,Nat.add_comm 1 j]using this) hB' h'
  unfold kh at h;cases KP:eff k with
  | false=>
   rw[KP]at h;obtain⟨v,hy,hK⟩:=ia h;exact Gj h0 KP (It hs) l.length listed a w (P_ h0 hf) hr' hy (ih _ _ hC hK)
  | true=>
   have he':qB md ops eff listed k=true:=he.resolve_left (by rw[KP];decide);refine Cx hd h0 KP (It hs) l.length listed a w hC (P_ h0 hf) (xL he') hr' ?_;unfold KH;simp only[h0];exact uM (fun a' h'=>ih a' w hC h') (fun a' w' Cw h'=>ih a' w' Cw h') h
theorem mh (hF:∀ f,F.fn f) (hd:F.depth=D_) {id:Nat} {Q:NX->A_->An->Prop} {a:A_} {w:An} {l:List AM} (hm:P.follows .mixedOrders=AF) (eff:Nat->Bool) (hB:Oe .any l.toArray eff=AF) (C:An->Prop) (hC:C w.drew) (h:kh F n P C l.toArray eff (fun a' w'=>Q .normal a' w') l 0 a w.drew):(Ft id l.toArray AF).wpIn F n P Q a w:=by simp only[Oe,DE]at hB;refine wpIn_region_any hm (l9 (eff:=eff) hF hd hB.1.2 (Q:=fun a' w'=>Q .normal a' w') (fun _ _ _ h=>h) _ _ _ _ hC ?_);have:=Cy (md:=.any) (F:=F) (n:=n) (P:=P) hd hB.1.1 l 0 (IN l.length AI) a w.drew hC (by simp) (by simpa using hB.2) h;simpa using this
theorem bN {eff:Nat->Bool} {Q:A_->An->Prop} {o:AM} {rest:List AM} {k:Nat} {a:A_} {w:An} (h:∀ K:A_->An->Prop,(∀ a w,kh F n P C ops eff Q rest (k+1) a w->K a w)->dN F n P C ops (eff k) o K a w):kh F n P C ops eff Q (o::rest) k a w:=h _ (fun _ _ h=>h)
theorem nT {eff:Nat->Bool} {Q:A_->An->Prop} {k:Nat} {a:A_} {w:An} (h:Q a w):kh F n P C ops eff Q [] k a w:=h
theorem dt {o:AM} {K:A_->An->Prop} {a:A_} {w:An} (hw:As o (yielded ops a.tmps)=AF) (h:∃ v,(∀ W: {W//C W},az P o a v W.1)/\K (a.put o.dst v) w):dN F n P C ops AI o K a w:=by unfold dN;simp only[hw,if_true,C_,if_false];exact h
theorem eB {o:AM} {K:A_->An->Prop} {a:A_} {w:An} (hw:As o (yielded ops a.tmps)=AF) (h:iU F n P C o.dst a K ((execOp a.eval o).run P w)):dN F n P C ops AF o K a w:=by unfold dN;simp only[hw,if_true];exact h
theorem eJ {dst:Option Tmp} {a:A_} {K:A_->An->Prop} {f:Bm} {args:Array Value} {w:An} (h:EV P f args w fun e w''=>∃ v,e=D' v/\C w''/\K (a.put dst v) w''):iU B_ 0 P C dst a K (.ok (.enter f args) w):=K_.2 h
theorem Cz {l:Nat} {dst:Option Tmp} {a:A_} {K:A_->An->Prop} {f:Bm} {args:Array Value} {w:An} (h:EV P f args w fun e w''=>∃ v,e=D' v/\C w''/\K (a.put dst v) w''):iU (B_.inRound l) 0 P C dst a K (.ok (.enter f args) w):=(K_ (n:=0)).2 h
theorem xM {id:Nat} {Q:NX->A_->An->Prop} {a:A_} {w:An} {l:List AM} (hm:P.follows .mixedOrders=AF) (eff:Nat->Bool) (hB:Oe .any l.toArray eff=AF) (C:An->Prop) (hC:C w.drew) (h:kh B_ 0 P C l.toArray eff (fun a' w'=>Q .normal a' w') l 0 a w.drew):(Ft id l.toArray AF).wp P Q a w:=
 P'.1 (mh (n:=0) (fun _=>trivial) rfl hm eff hB C hC h)
end
end
section
open Go Go.RowKit
structure ae (R:Nat->Prop) (W W':An):Prop where
 os:W'.os=W.os
 tape:W'.tape=W.tape
 output:W'.output=W.output
 size:W.heap.size<=W'.heap.size
 keep:∀ k,R k->W'.heap[k]? =W.heap[k]?
structure Ext (W W':An):Prop where
 os:W'.os=W.os
 tape:W'.tape=W.tape
 output:W'.output=W.output
 drawn:W.drawn<=W'.drawn
 size:W.heap.size<=W'.heap.size
 keep:∀ k,k<W.heap.size->W'.heap[k]? =W.heap[k]?
theorem ae.refl (R:Nat->Prop) (W:An):ae R W W:=⟨rfl,rfl,rfl,aF _,fun _ _=>rfl⟩
theorem ae.mono {R R':Nat->Prop} {W W':An} (h:ae R W W') (hr:∀ k,R' k->R k):ae R' W W':=⟨h.os,h.tape,h.output,h.size,fun k hk=>h.keep k (hr k hk)⟩
theorem Ext.mono {R':Nat->Prop} {W W':An} (h:Ext W W') (hr:∀ k,R' k->k<W.heap.size):ae R' W W':=⟨h.os,h.tape,h.output,h.size,fun k hk=>h.keep k (hr k hk)⟩
theorem Ext.keeps {W W':An} (h:Ext W W'):ae (· <W.heap.size) W W':=h.mono fun _ h=>h
theorem Ext.below {W W':An} (h:Ext W W'):aa W W':=⟨h.os,h.tape,h.output,h.size,h.keep⟩
theorem ae.trans {R R':Nat->Prop} {A B C:An} (h:ae R A B) (k:ae R' B C) (hr:∀ k,R k->R' k):ae R A C:=
 ⟨k.os.trans h.os,k.tape.trans h.tape,k.output.trans h.output,B' h.size k.size,fun i hi=>(k.keep i (hr i hi)).trans (h.keep i hi)⟩
theorem ae.tr {R:Nat->Prop} {A B C:An} (h:ae R A B) (k:ae R B C):ae R A C:=h.trans k fun _ h=>h
theorem ae.drew {R:Nat->Prop} {A B:An} (h:ae R A B):ae R A B.drew:=⟨h.os,h.tape,h.output,h.size,h.keep⟩
theorem ae.drewN {R:Nat->Prop} {A B:An} (h:ae R A B) (n:Nat):ae R A (B.drewN n):=⟨h.os,h.tape,h.output,h.size,h.keep⟩
theorem ae.below {B:Nat} {W W':An} (h:ae (· <B) W W'):Below B W W':=⟨h.os,h.tape,h.output,h.size,h.keep⟩
theorem ae.aj {B:Nat} {W W':An} (h:Below B W W') {R:Nat->Prop} (hr:∀ k,R k->k<B):ae R W W':=⟨h.os,h.tape,h.output,h.size,fun k hk=>h.block k (hr k hk)⟩
theorem ae.aZ {row:Option Nat} {W W':An} (h:W.grownBy W' row) {R:Nat->Prop} (hr:∀ k,R k->k<W.heap.size/\AN k≠row):ae R W W':=⟨h.os,h.tape,h.output,h.size,fun k hk=>h.block k (hr k hk).1 (hr k hk).2⟩
theorem ae.alloc {R:Nat->Prop} {A B:An} (h:ae R A B) (hr:∀ k,R k->k<B.heap.size) (o:Obj):ae R A (B.alloc o):=
 ⟨h.os,h.tape,h.output,B' h.size (by simp),fun k hk=>(Below.heap_alloc _ _ _ (hr k hk)).trans (h.keep k hk)⟩
theorem ae.setCell {R:Nat->Prop} {A B:An} (h:ae R A B) {p:Rr} (hp:¬R p.block) (u:Value):ae R A (B.setCell p u):=
 ⟨h.os,h.tape,h.output,B' h.size (by simp[M_]),fun k hk=>(Below.heap_setCell _ _ _ _ (fun e=>hp (e▸hk))).trans (h.keep k hk)⟩
theorem ae.putObj {R:Nat->Prop} {A B:An} (h:ae R A B) {l:Nat} (hl:¬R l) (o:Obj):ae R A (B.putObj l o):=
 ⟨h.os,h.tape,h.output,B' h.size (by simp),fun k hk=>(Cd (by rintro rfl;exact hl hk)).trans (h.keep k hk)⟩
theorem ae.cell {R:Nat->Prop} {W W':An} (h:ae R W W') {p:Rr} (hp:R p.block):W'.cell? p=W.cell? p:=Iv (w:=W) (h.keep p.block hp)
theorem ae.frozen {R:Nat->Prop} {W W':An} (h:ae R W W') {p:Rr} (hp:R p.block):W'.frozen? p=W.frozen? p:=Lo (w:=W) (h.keep p.block hp)
theorem Ext.cell {W W':An} (h:Ext W W') {p:Rr} (hp:p.block<W.heap.size):W'.cell? p=W.cell? p:=Iv (w:=W) (h.keep p.block hp)
theorem Ext.frozen {W W':An} (h:Ext W W') {p:Rr} (hp:p.block<W.heap.size):W'.frozen? p=W.frozen? p:=Lo (w:=W) (h.keep p.block hp)
theorem Ext.trans {A B C:An} (h:Ext A B) (k:Ext B C):Ext A C:=
 ⟨k.os.trans h.os,k.tape.trans h.tape,k.output.trans h.output,B' h.drawn k.drawn,B' h.size k.size,fun i hi=>(k.keep i (ay hi h.size)).trans (h.keep i hi)⟩
theorem Ext.cells {A B:An} (h:Ext A B):(∀ b o,b<A.heap.size->B.cell? ⟨b,o,D_⟩=A.cell? ⟨b,o,D_⟩)/\(∀ b o,b<A.heap.size->B.frozen? ⟨b,o,D_⟩=A.frozen? ⟨b,o,D_⟩):=
 ⟨fun b o hb=>h.cell (p:=⟨b,o,D_⟩) hb,fun b o hb=>h.frozen (p:=⟨b,o,D_⟩) hb⟩
theorem Ext.alloc {A B:An} (h:Ext A B) (o:Obj):Ext A (B.alloc o):=
 ⟨h.os,h.tape,h.output,h.drawn,B' h.size (by simp),fun k hk=>(Below.heap_alloc _ _ _ (ay hk h.size)).trans (h.keep k hk)⟩
theorem Ext.drew {A B:An} (h:Ext A B):Ext A B.drew:=⟨h.os,h.tape,h.output,Nat.le_succ_of_le h.drawn,h.size,h.keep⟩
theorem Ext.setCell {A B:An} (h:Ext A B) {p:Rr} (hp:A.heap.size<=p.block) (u:Value):Ext A (B.setCell p u):=
 ⟨h.os,h.tape,h.output,h.drawn,B' h.size (by simp[M_]),fun k hk=>(Below.heap_setCell _ _ _ _ (by omega)).trans (h.keep k hk)⟩
theorem Ext.putObj {A B:An} (h:Ext A B) {l:Nat} (hl:A.heap.size<=l) (o:Obj):Ext A (B.putObj l o):=
 ⟨h.os,h.tape,h.output,h.drawn,B' h.size (by simp),fun k hk=>(Cd (by omega)).trans (h.keep k hk)⟩
theorem Ext.refl (A:An):Ext A A:=⟨rfl,rfl,rfl,aF _,aF _,fun _ _=>rfl⟩
theorem Ext.grow {W W':An} (h:Ext W W'):∃ q os,W'=Sort.grow (W.drewN q) os:=by
 refine⟨W'.drawn-W.drawn,W'.heap.extract W.heap.size W'.heap.size,?_⟩;have hh:W'.heap=W.heap++W'.heap.extract W.heap.size W'.heap.size:=by
  apply I_;intro k;rw[Array.getElem?_append];split
  ·exact h.keep k ‹_›
  ·rw[Array.getElem?_extract]
   have hs:=h.size;split
   ·congr 1;omega
   ·rw[DP];omega
 have h1:=h.os;have h2:=h.tape;have h3:=h.output;have h4:=h.drawn;have h5:W.drawn+(W'.drawn-W.drawn)=W'.drawn:=by omega
 cases W with
 | mk a b c d e=>
 cases W' with
 | mk a' b' c' d' e'=>
  simp only[Sort.grow,World.drewN]at*;subst h1 h2 h3;rw[h5, <-hh]
theorem ae.step {S:Nat->Prop} {A B C:An} (h:ae S A B) (hS:∀ k,S k->k<A.heap.size) (hx:Ext B C):ae S A C:=h.tr (hx.mono fun k hk=>ay (hS k hk) h.size)
theorem ae.VJ {S:Nat->Prop} {A B C:An} (h:ae S A B) (hS:∀ k,S k->k<A.heap.size) (hx:aa B C):ae S A C:=h.tr (ae.aj hx fun k hk=>ay (hS k hk) h.size)
def ar (w:An) (b:Nat) (c:Array Value) (t:E_):Prop:=w.heap[b]? =AN (.cells c t (0,0))
theorem ar.cell {w:An} {b:Nat} {c:Array Value} {t:E_} (h:ar w b c t) (k:Nat):w.cell? ⟨b,k,D_⟩=c[k]? :=by unfold ar at h;simp[St,h]
theorem ar.frozen {w:An} {b:Nat} {c:Array Value} {t:E_} (h:ar w b c t) (k:Nat):w.frozen? ⟨b,k,D_⟩=false:=by unfold ar at h;simp[World.frozen?,h]
theorem ar.lt {w:An} {b:Nat} {c:Array Value} {t:E_} (h:ar w b c t):b<w.heap.size:=(AS.1 h).1
theorem ar.keeps {w w':An} {b:Nat} {c:Array Value} {t:E_} (h:ar w b c t) {R:Nat->Prop} (hk:ae R w w') (hb:R b):ar w' b c t:=(hk.keep b hb).trans h
theorem ar.ext {w w':An} {b:Nat} {c:Array Value} {t:E_} (h:ar w b c t) (hk:Ext w w'):ar w' b c t:=(hk.keep b h.lt).trans h
theorem ar.below {w w':An} {b n:Nat} {c:Array Value} {t:E_} (h:ar w b c t) (hk:Below n w w') (hb:b<n):ar w' b c t:=(hk.block b hb).trans h
theorem ar.grown {w w':An} {b:Nat} {c:Array Value} {t:E_} {row:Option Nat} (h:ar w b c t) (hg:w.grownBy w' row) (hb:AN b≠row):ar w' b c t:=(hg.block b h.lt hb).trans h
theorem ar.same {w w':An} {b:Nat} {c:Array Value} {t:E_} (h:ar w b c t) (hk:w'.heap[b]? =w.heap[b]?):ar w' b c t:=hk.trans h
theorem ar.alloc {w:An} {b:Nat} {c:Array Value} {t:E_} (h:ar w b c t) (o:Obj):ar (w.alloc o) b c t:=h.ext ((Ext.refl w).alloc o)
theorem ar.new (w:An) (c:Array Value) (t:E_):ar (w.alloc (.cells c t (0,0))) w.heap.size c t:=IF w _
theorem ar.at {w:An} {b b':Nat} {c:Array Value} {t:E_} (h:ar w b c t) (e:b=b'):ar w b' c t:=e▸h
theorem ar.set {w:An} {b:Nat} {c:Array Value} {t:E_} (h:ar w b c t) (k:Nat) (v:Value):ar (w.setCell ⟨b,k,D_⟩ v) b (c.setIfInBounds k v) t:=by unfold ar at*;simp[M_,Array.getElem?_modify,h]
theorem ar.other {w:An} {b:Nat} {c:Array Value} {t:E_} (h:ar w b c t) {p:Rr} (hp:p.block≠b) (v:Value):ar (w.setCell p v) b c t:=h.same (Below.heap_setCell _ _ _ _ (Ne.symm hp))
theorem ar.put {w:An} {b:Nat} {c:Array Value} {t:E_} (h:ar w b c t) {l:Nat} (hl:l≠b) (o:Obj):ar (w.putObj l o) b c t:=h.same (Cd (Ne.symm hl))
theorem cC {w:An} {b:Nat} {c:Array Value} {t:E_} (h:ar w b c t):∀ j u,c.toList[j]? =AN u->w.cell? ((⟨b,0,D_⟩:Rr).add j)=AN u:=fun j u hu=>by
 have TC:(⟨b,0,D_⟩:Rr).add j=⟨b,j,D_⟩:=by unfold Addr.add;split<;>simp_all
 rw[TC,h.cell j];simpa using hu
theorem cell_far (w:An) (p a:Rr) (v:Value) (h:p.block≠a.block):(w.setCell p v).cell? a=w.cell? a:=World.cell?_setCell_other _ _ _ _ (fun e=>h (congrArg Addr.block e))
theorem eK {P:A'} {id:Nat} {Q:NX->A_->An->Prop} {a:A_} {w:An} {l:List AM} (S:Nat->Prop) (hm:P.follows .mixedOrders=AF) (eff:Nat->Bool) (hB:Oe .any l.toArray eff=AF) (h:∀ C:An->Prop,(∀ W,C W↔ae S w W)->Nonempty {W//C W} ->∀ w',ae S w w'->(∀ b:Nat,w'.heap[b]? =w.heap[b]?)->w'.heap.size=w.heap.size->Ext w w'->kh B_ 0 P C l.toArray eff (fun a' w'=>Q .normal a' w') l 0 a w'):(Ft id l.toArray AF).wp P Q a w:=
 have hk:ae S w w.drew:=(ae.refl S w).drew
 xM hm eff hB (ae S w) hk (h _ (fun _=>MY) ⟨⟨_,hk⟩⟩ _ hk (fun _=>rfl) rfl (Ext.refl w).drew)
theorem rQ {F:On} (hF:∀ f,F.fn f) (hd:F.depth=D_) {P:A'} {id:Nat} {Q:NX->A_->An->Prop} {a:A_} {w:An} {l:List AM} (S:Nat->Prop) (hm:P.follows .mixedOrders=AF) (eff:Nat->Bool) (hB:Oe .any l.toArray eff=AF) (h:∀ C:An->Prop,(∀ W,C W↔ae S w W)->Nonempty {W//C W} ->∀ w',ae S w w'->(∀ b:Nat,w'.heap[b]? =w.heap[b]?)->w'.heap.size=w.heap.size->Ext w w'->kh F 0 P C l.toArray eff (fun a' w'=>Q .normal a' w') l 0 a w'):(Ft id l.toArray AF).wpIn F 0 P Q a w:=
 have hk:ae S w w.drew:=(ae.refl S w).drew
 mh hF hd hm eff hB (ae S w) hk (h _ (fun _=>MY) ⟨⟨_,hk⟩⟩ _ hk (fun _=>rfl) rfl (Ext.refl w).drew)
theorem dh {C:An->Prop} {S:Nat->Prop} {w:An} (hC:∀ W,C W↔ae S w W) {p:Rr} {v:Option Value} (hs:S p.block) (h:w.cell? p=v):∀ W: {W//C W},W.1.cell? p=v:=fun W=>(((hC W.1).1 W.2).cell hs).trans h
theorem gj (f:Bm):B_.fn f=True:=rfl
theorem dz:B_.depth=none:=rfl
def Move (d:Bool) (T:Nat->Prop) (W W':An):Prop:=ae (fun k=>k<W.heap.size/\¬T k) W W'/\(d=AF->W.drawn<=W'.drawn)
theorem Move.put {d:Bool} {T:Nat->Prop} {W:An} {l:Nat} (hl:T l) (o:Obj):Move d T W (W.putObj l o):=⟨(ae.refl _ _).putObj (fun h=>h.2 hl) _,fun _=>aF _⟩
theorem Move.ext {d:Bool} {T:Nat->Prop} {W W':An} (h:Ext W W'):Move d T W W':=⟨h.mono fun _ h=>h.1,fun _=>h.drawn⟩
theorem Move.refl (d:Bool) (T:Nat->Prop) (W:An):Move d T W W:=.ext (Ext.refl W)
theorem Move.mono {d:Bool} {T T':Nat->Prop} {W W':An} (h:Move d T W W') (ht:∀ k,T k->T' k):Move d T' W W':=⟨h.1.mono fun k hk=>⟨hk.1,fun h=>hk.2 (ht k h)⟩,h.2⟩
def eL {β:Type} (d:Bool) (B:Nat) (J:β->(Nat->Prop)->An->Prop):Prop:=
 ∀ s T T' W W',J s T W->(∀ k,T k->B<=k/\k<W.heap.size)->(∀ k,T' k->B<=k/\k<W'.heap.size)->(∀ k,T k->T' k)->(∀ k,T' k->T k\/W.heap.size<=k)->Move d T W W'->J s T' W'
theorem eL.ext {d:Bool} {β:Type} {B:Nat} {J:β->(Nat->Prop)->An->Prop} (h:eL d B J) {s:β} {T:Nat->Prop} {W W':An} (hj:J s T W) (hT:∀ k,T k->B<=k/\k<W.heap.size) (hx:Ext W W'):J s T W':=
 h s T T W W' hj hT (fun k hk=>⟨(hT k hk).1,ay (hT k hk).2 hx.size⟩) (fun _ h=>h) (fun _ h=>.inl h) (.ext hx)
theorem ar.mJ {d:Bool} {B:Nat} {T:Nat->Prop} {W W':An} {b:Nat} {c:Array Value} {t:E_} (h:ar W b c t) (hT:∀ k,T k->B<=k/\k<W.heap.size) (hk:Move d T W W') (hb:b<B):ar W' b c t:=
 h.keeps hk.1 ⟨h.lt,fun ht=>by have:=(hT _ ht).1;omega⟩
theorem Ext.mJ {B:Nat} {T:Nat->Prop} {A W W':An} (h:Ext A W) (hT:∀ k,T k->B<=k/\k<W.heap.size) (hk:Move AF T W W') (hA:A.heap.size<=B):Ext A W':=
 ⟨hk.1.os.trans h.os,hk.1.tape.trans h.tape,hk.1.output.trans h.output,B' h.drawn (hk.2 rfl),B' h.size hk.1.size,
  fun k sU=>(hk.1.keep k ⟨ay sU h.size,fun ht=>by have:=(hT _ ht).1;omega⟩).trans (h.keep k sU)⟩
theorem ib {d:Bool} {B n:Nat} {T:Nat->Prop} {A W W':An} (h:Below n A W) (hT:∀ k,T k->B<=k/\k<W.heap.size) (hk:Move d T W W') (hn:n<=A.heap.size) (hB:n<=B):Below n A W':=
 ⟨hk.1.os.trans h.os,hk.1.tape.trans h.tape,hk.1.output.trans h.output,B' h.size hk.1.size,fun k sU=>(hk.1.keep k ⟨by have:=h.size;omega,fun ht=>by have:=(hT _ ht).1;omega⟩).trans (h.block k sU)⟩
theorem ak {W W':An} {base:Nat} {e:E_} {size:Nat} {v:Value} {n:Nat} {xs:List Value} (h:W.ownsRow base e size v n xs) {R:Nat->Prop} (hk:ae R W W') (hr:∀ k,v.ownBlock=AN k->R k):W'.ownsRow base e size v n xs:=by
 refine⟨h.1,?_⟩;rcases h.2 with hn | ⟨g,cap,cur,rfl,hb,hgg,rest⟩
 ·exact .inl hn
 ·exact .inr ⟨g,cap,cur,rfl,hb,(hk.keep g (hr g rfl)).trans hgg,rest⟩
theorem ownsRow_form {W:An} {base:Nat} {e:E_} {size:Nat} {v:Value} {n:Nat} {xs:List Value} (h:W.ownsRow base e size v n xs):∃ a c,v=.slice a n c:=by
 rcases h.2 with⟨rfl,rfl⟩ | ⟨g,cap,cur,rfl,_⟩
 ·exact⟨D_,0,rfl⟩
 ·exact⟨_,cap,rfl⟩
theorem aC {W:An} {base base':Nat} {e:E_} {size:Nat} {v:Value} {n:Nat} {xs:List Value} (h:W.ownsRow base e size v n xs) (hb:base'<=base):W.ownsRow base' e size v n xs:=by
 refine⟨h.1,?_⟩;rcases h.2 with hn | ⟨g,cap,cur,rfl,h1,rest⟩
 ·exact .inl hn
 ·exact .inr ⟨g,cap,cur,rfl,B' hb h1,rest⟩
section
variable {P:A'} {d:Bool}
def Seq {α:Type} (d:Bool) (P:A') (g:Nat) (lb:Array Value) (mK:α->Array Value) (R:Nat->Prop) (xs:List α) (w:An):Prop:=
 ∀ (l:Nat) (J Jx:List α->(Nat->Prop)->An->Prop) (W:An),ae (· <w.heap.size) w W->eL d W.heap.size J->eL d W.heap.size Jx->
  (∀ pre x T W1,(pre++ [x])<+:xs->(∀ k,T k->W.heap.size<=k/\k<W1.heap.size)->ae R W W1->J pre T W1->
   YieldAt B_ 0 P l (mK x) W1 fun e W'=>
    (e=D' (.bool AF)/\J (pre++ [x]) T W'/\ae (fun k=>R k\/T k) W1 W')\/(e=D' (.bool AI)/\Jx (pre++ [x]) T W'/\ae T W1 W'))->
  J [] (fun _=>False) W->
  EV P g (#[.func (.yield l) #[] #[]]++lb) W fun e W'=>(∃ v,e=D' v)/\∃ T,(∀ k,T k->W.heap.size<=k/\k<W'.heap.size)/\(J xs T W'\/∃ pre,pre<+:xs/\Jx pre T W')
theorem Seq.at {α:Type} {P:A'} {d:Bool} {g:Nat} {lb:Array Value} {mK:α->Array Value} {R:Nat->Prop} {xs:List α} {w w':An} (h:Seq d P g lb mK R xs w) (hk:ae (· <w.heap.size) w w'):Seq d P g lb mK R xs w':=
 fun l J Jx W hK=>h l J Jx W (hk.tr (hK.mono fun _ sU=>ay sU hk.size))
def Gk {α:Type} (R T:Nat->Prop) (W0:An) (I:List α->(Nat->Prop)->An->Prop) (Ix:D0->List α->(Nat->Prop)->An->Prop) (xs:List α):NX->A_->An->Prop
 | .normal,_,W'=>ae (fun k=>R k\/T k) W0 W'/\I xs T W'
 | .ret,_,W'=>ae T W0 W'/\Ix .ret xs T W'
 | .exit id,_,W'=>ae T W0 W'/\Ix (.exit id) xs T W'
 | .goto t,_,W'=>ae T W0 W'/\Ix (.goto t) xs T W'
 | .panic _,_,_=>False
 | .outgrown,_,_=>False
variable {F:On}
theorem Gl {α:Type} (hF:∀ f,F.fn f) (hC:∀ {f args w R},EV P f args w R->CallsIn F 0 P f args w R) (hYd:∀ {l f tmps Cv body w R},RoundIn F 0 P l f tmps Cv body w R->RoundIn B_ 0 P l f tmps Cv body w R) {gf:Nat} {lb:Array Value} {mK:α->Array Value} {R:Nat->Prop} {xs:List α} {w:An} (hseq:Seq d P gf lb mK R xs w) {ps:Array Tmp} {assign body:D0} {fn:Bm} (tmps:Array Value) (dfr:Nat) (Ta:∀ x,(mK x).size=ps.size) (TD:∀ k,R k->k<w.heap.size) (l:Nat) (T0:Nat->Prop) (NG:∀ k,T0 k->w.heap.size<=k/\k<l+1) (Xh:T0 l) (W1:An) (hls:W1.heap.size=l+1) (hl:W1.heap[l]? =AN (.loop {state:=.ready,pending:=D_,fn,tmps,params:=ps,assign,body,defers:=dfr})) (hW1:Ext w W1) (I:List α->(Nat->Prop)->An->Prop) (Ix:D0->List α->(Nat->Prop)->An->Prop) (hI:eL d w.heap.size I) (TE:∀ c,eL d w.heap.size (Ix c)) (h0:I [] T0 W1) (Ia:List α×α×A_->(Nat->Prop)->An->Prop) (hIa:eL d w.heap.size Ia) (qC:∀ pre x T W,pre++ [x]<+:xs->(∀ k,T0 k->T k)->(∀ k,T k->w.heap.size<=k/\k<W.heap.size)->ae R w W->I pre T W-> assign.wpIn (F.inRound l) 0 P (Exit.then (fun a1 W'=>ae (fun k=>R k\/T k) W W'/\Ia (pre,x,a1) T W') (fun _ _ _=>False)) {tmps:=(ps.zip (mK x)).foldl (fun t (p,v)=>t.setIfInBounds p v) tmps,defers:=[]} W)
  (CD:∀ pre x T a1 W,pre++ [x]<+:xs->(∀ k,T0 k->T k)->(∀ k,T k->w.heap.size<=k/\k<W.heap.size)->ae R w W->(∃ r:Loop,W.heap[l]? =AN (.loop r)/\r.defers=dfr)->Ia (pre,x,a1) T W->
   body.wpIn (F.inRound l) 0 P (Gk R T W I Ix (pre++ [x])) a1 W):
  CallsIn F 0 P gf (#[.func (.yield l) #[] #[]]++lb) W1 fun e W3=>(∃ v,e=D' v)/\∃ T W4 jump,(Instr.endLoop l).run P W3=.ok jump W4/\(∀ k,T0 k->T k)/\(∀ k,T k->w.heap.size<=k/\k<W4.heap.size)/\
   (∀ k,T0 k->k≠l->W4.heap[k]? =W1.heap[k]?)/\ae (fun k=>R k\/T0 k) W1 W1/\
   match jump with
   | none=>I xs T W4
   | some c=>∃ pre,pre<+:xs/\Ix c pre T W4:=by
 obtain⟨rec,rR⟩:∃ rec:LoopState->Option D0->Loop,rec=fun st pe=> {state:=st,pending:=pe,fn,tmps,params:=ps,assign,body,defers:=dfr} :=⟨_,rfl⟩
 have yE:W1.heap[l]? =AN (.loop (rec .ready D_)):=by rw[rR];exact hl
 have hTu:∀ {T:Nat->Prop} {W:An},(∀ k,T k->W1.heap.size<=k/\k<W.heap.size)->l<W.heap.size->∀ k,(T k\/T0 k)->w.heap.size<=k/\k<W.heap.size:=fun hT hlW k hk=>by
  have hsz:=hW1.size;rcases hk with hk | hk
  ·have:=hT k hk;omega
  ·have:=NG k hk;omega
 -- the invariant with the record beside it
 have Og:∀ {β:Type} {G:β->(Nat->Prop)->An->Prop} (rs:β->Loop->Prop),eL d w.heap.size G->
   eL d W1.heap.size (fun (s:β) T W=>G s (fun k=>T k\/T0 k) W/\(∃ r,rs s r/\W.heap[l]? =AN (.loop r))/\(∀ k,T0 k->k≠l->W.heap[k]? =W1.heap[k]?)/\l<W.heap.size):=by
  intro β G rs hG s T T' W W' hs h1 h2 h3 h4 h5;obtain⟨hg,⟨r,hr,hlW⟩,hk,hlt⟩:=hs;have Oh:∀ k,T0 k->W'.heap[k]? =W.heap[k]? :=fun k hk=>h5.1.keep k ⟨by have:=(NG k hk).2;omega,fun ht=>by have:=(h1 k ht).1;have:=(NG k hk).2;omega⟩
  refine⟨hG s _ _ W W' hg (hTu h1 hlt) (hTu h2 (ay hlt h5.1.size)) (fun k hk=>hk.imp (h3 k) id) (fun k hk=>?_) (h5.mono fun k hk=>.inl hk),⟨r,hr,(Oh l Xh).trans hlW⟩,fun k rS hne=>(Oh k rS).trans (hk k rS hne),ay hlt h5.1.size⟩;rcases hk with hk | hk
  ·exact(h4 k hk).imp .inl id
  ·exact .inl (.inr hk)
 have yF:¬R l:=fun h=>by have:=TD l h;have:=(NG l Xh).1;omega
 refine IT (hC (hseq l (fun pre T W=>I pre (fun k=>T k\/T0 k) W/\(∃ r,r=rec .ready D_/\W.heap[l]? =AN (.loop r))/\(∀ k,T0 k->k≠l->W.heap[k]? =W1.heap[k]?)/\l<W.heap.size)
  (fun pre T W=>∃ c,Ix c pre (fun k=>T k\/T0 k) W/\(∃ r,r=rec .done (AN c)/\W.heap[l]? =AN (.loop r))/\(∀ k,T0 k->k≠l->W.heap[k]? =W1.heap[k]?)/\l<W.heap.size)
  W1 hW1.keeps (Og (fun _ r=>r=rec .ready D_) hI)
  (fun s T T' W W' ⟨c,hc⟩ h1 h2 h3 h4 h5=>⟨c,Og (fun _ r=>r=rec .done (AN c)) (TE c) s T T' W W' hc h1 h2 h3 h4 h5⟩) ?_
  ⟨hI _ _ _ W1 W1 h0 (fun k hk=>⟨(NG k hk).1,by have:=(NG k hk).2;omega⟩) (hTu (fun _ h=>h.elim) (by omega)) (fun k hk=>.inr hk) (fun k hk=>.inl (hk.resolve_left id)) (Move.refl _ _ _),⟨_,rfl,yE⟩,fun _ _ _=>rfl,by omega⟩)) ?_
 ·-- one round
  rintro pre x T W bO hT hRW ⟨hi,⟨r0,hr0,hlW⟩,hkD,hlt⟩;subst hr0;have hy:=run_yield (P:=P) (args:=mK x) hlW (by rw[rR];exact Ta x);rw[rR]at hy;have Tb:=hTu hT hlt;have abw:ae R w W:=(hW1.mono TD).tr hRW;refine⟨fn,_,assign,body,hy,hYd (roundIn_of_wpIn (hF fn) (wpIn_mono (qC pre x _ W bO (fun k hk=>.inr hk) Tb abw hi) ?_))⟩;rintro e a1 Wa hp;cases e with
  | normal=>
   obtain⟨hka,hia⟩:=hp;have hla:Wa.heap[l]? =AN (.loop (rec .ready D_)):=(hka.keep l (.inr (.inr Xh))).trans hlW;have Xi:l<Wa.heap.size:=ay hlt hka.size;refine⟨_,run_beginRound hla (by rw[rR]),?_⟩;obtain⟨Wb,hWb⟩:∃ Wb,Wb=Wa.putObj l (.loop {rec .ready D_ with state:=.busy}):=⟨_,rfl⟩;rw[<-hWb];have mi:Wb.heap.size=Wa.heap.size:=by rw[hWb];simp
   have TF:Wb.heap[l]? =AN (.loop {rec .ready D_ with state:=.busy}):=by rw[hWb];exact H_ Xi
   have hab:∀ {S:Nat->Prop},¬S l->ae S Wa Wb:=fun hS=>by rw[hWb];exact(ae.refl _ _).putObj hS _
   have Oi:∀ k,(T k\/T0 k)->w.heap.size<=k/\k<Wa.heap.size:=fun k hk=>⟨(Tb k hk).1,ay (Tb k hk).2 hka.size⟩
   have hib:Ia (pre,x,a1) (fun k=>T k\/T0 k) Wb:=hIa _ _ _ Wa Wb hia Oi (fun k hk=>by rw[mi];exact Oi k hk) (fun _ h=>h) (fun _ h=>.inl h) (by rw[hWb];exact .put (.inr Xh) _);have afW:ae R w Wb:=abw.tr ((hka.mono fun k hk=>.inl hk).tr (hab yF));refine wpIn_mono (CD pre x _ a1 Wb bO (fun k hk=>.inr hk) (fun k hk=>by rw[mi];exact Oi k hk) afW ⟨_,TF,by rw[rR]⟩ hib) ?_
   -- the round's end
   have fin:∀ (jump:Option D0) (Wc:An) (G:(Nat->Prop)->An->Prop),(∀ T T' W W',G T W->(∀ k,T k->w.heap.size<=k/\k<W.heap.size)->(∀ k,T' k->w.heap.size<=k/\k<W'.heap.size)->(∀ k,T k->T' k)->(∀ k,T' k->T k\/W.heap.size<=k)->Move d T W W'->G T' W')->
     ae (fun k=>T k\/T0 k) Wb Wc->G (fun k=>T k\/T0 k) Wc->
     ∃ Wd,(Instr.endRound l jump).run P Wc=.ok (.bool jump.isNone) Wd/\G (fun k=>T k\/T0 k) Wd/\Wd.heap[l]? =AN (.loop (rec (if jump.isNone then .ready else .done) jump))/\(∀ k,T0 k->k≠l->Wd.heap[k]? =W1.heap[k]?)/\l<Wd.heap.size/\ae T W Wd/\(∀ S:Nat->Prop,¬S l->ae S Wb Wc->ae S Wa Wd):=by
    intro jump Wc G hG xN hg;have hlc:Wc.heap[l]? =AN (.loop {rec .ready D_ with state:=.busy}):=(xN.keep l (.inr Xh)).trans TF;have abx:l<Wc.heap.size:=by rw[<-mi]at Xi;exact ay Xi xN.size
    have hend:=run_endRound (P:=P) jump hlc;rw[rR]at hend ⊢;have aby:∀ k,(T k\/T0 k)->w.heap.size<=k/\k<Wc.heap.size:=fun k hk=>⟨(Oi k hk).1,by have:=(Oi k hk).2;rw[<-mi]at this;exact ay this xN.size⟩
    have TG:∀ {S:Nat->Prop},¬S l->ae S Wa (Wc.putObj l (.loop (rec (if jump.isNone then .ready else .done) jump)))\/¬ae S Wb Wc:=fun {S} hS=>by
     by_cases h:ae S Wb Wc
     ·exact .inl (((hab hS).tr h).putObj hS _)
     ·exact .inr h
    have xO:¬T l:=fun h=>by have:=(hT l h).1;omega
    rw[rR]at TG;refine⟨_,hend,hG _ _ Wc _ hg aby (fun k hk=>by simpa using aby k hk) (fun _ h=>h) (fun _ h=>.inl h) (.put (.inr Xh) _),H_ abx,fun k hk hne=>?_,by simpa using abx,?_,fun S hS hk=>(TG hS).resolve_right (fun h=>h hk)⟩
    ·rw[Cd hne,xN.keep k (.inr hk),hWb,Cd hne,hka.keep k (.inr (.inr hk))]
     exact hkD k hk hne
    ·exact(hka.mono fun k hk=>.inr (.inl hk)).tr ((TG xO).resolve_right (fun h=>h (xN.mono fun k hk=>.inl hk)))
   rintro e a3 Wc hp;cases e with
   | normal=>
    obtain⟨xN,Xj⟩:=hp;obtain⟨Wd,hend,hg,Xk,Gm,Gn,hTk,hS⟩:=fin D_ Wc (I (pre++ [x])) (fun T T' W W'=>hI (pre++ [x]) T T' W W') (xN.mono fun k hk=>.inr hk) Xj;refine⟨_,Wd,hend,.inl ⟨rfl,⟨hg,⟨_,rfl,Xk⟩,Gm,Gn⟩,?_⟩⟩;have xO:¬ (R l\/T l):=fun h=>h.elim yF (fun h=>by have:=(hT l h).1;omega)
    exact(hka.mono fun k hk=>hk.imp id .inl).tr (hS _ xO (xN.mono fun k hk=>hk.imp id .inl))
   | ret=>
    obtain⟨xN,Xj⟩:=hp;obtain⟨Wd,hend,hg,Xk,Gm,Gn,hTk,hS⟩:=fin (AN .ret) Wc (Ix .ret (pre++ [x])) (fun T T' W W'=>TE .ret (pre++ [x]) T T' W W') xN Xj;exact⟨_,Wd,hend,.inr ⟨rfl,⟨_,hg,⟨_,rfl,Xk⟩,Gm,Gn⟩,hTk⟩⟩
   | exit id=>
    obtain⟨xN,Xj⟩:=hp;obtain⟨Wd,hend,hg,Xk,Gm,Gn,hTk,hS⟩:=fin (AN (.exit id)) Wc (Ix (.exit id) (pre++ [x])) (fun T T' W W'=>TE (.exit id) (pre++ [x]) T T' W W') xN Xj;exact⟨_,Wd,hend,.inr ⟨rfl,⟨_,hg,⟨_,rfl,Xk⟩,Gm,Gn⟩,hTk⟩⟩
   | goto t=>
    obtain⟨xN,Xj⟩:=hp;obtain⟨Wd,hend,hg,Xk,Gm,Gn,hTk,hS⟩:=fin (AN (.goto t)) Wc (Ix (.goto t) (pre++ [x])) (fun T T' W W'=>TE (.goto t) (pre++ [x]) T T' W W') xN Xj;exact⟨_,Wd,hend,.inr ⟨rfl,⟨_,hg,⟨_,rfl,Xk⟩,Gm,Gn⟩,hTk⟩⟩
   | panic ch=>exact hp.elim
   | outgrown=>exact hp.elim
  | exit id=>exact hp.elim
  | goto t=>exact hp.elim
  | ret=>exact hp.elim
  | panic ch=>exact hp.elim
  | outgrown=>exact hp.elim
 ·-- behind the iterator
  rintro e W2 ⟨hv,T,hT,h⟩;refine⟨hv,fun k=>T k\/T0 k,?_⟩
  have fin:∀ (st:LoopState) (jump:Option D0) (G:(Nat->Prop)->An->Prop),st≠ .busy->(∀ T T' W W',G T W->(∀ k,T k->w.heap.size<=k/\k<W.heap.size)->(∀ k,T' k->w.heap.size<=k/\k<W'.heap.size)->(∀ k,T k->T' k)->(∀ k,T' k->T k\/W.heap.size<=k)->Move d T W W'->G T' W')->
    G (fun k=>T k\/T0 k) W2->W2.heap[l]? =AN (.loop (rec st jump))->(∀ k,T0 k->k≠l->W2.heap[k]? =W1.heap[k]?)->l<W2.heap.size->
    ∃ W4,(Instr.endLoop l).run P W2=.ok jump W4/\(∀ k,(T k\/T0 k)->w.heap.size<=k/\k<W4.heap.size)/\(∀ k,T0 k->k≠l->W4.heap[k]? =W1.heap[k]?)/\G (fun k=>T k\/T0 k) W4:=by
   intro st jump G hst hG hg hl2 hk2 Gp;have hend:=run_endLoop (P:=P) hl2 (by rw[rR];exact hst);rw[rR]at hend;have Tb:=hTu hT Gp;exact⟨_,hend,fun k hk=>by simpa using Tb k hk,fun k hk hne=>(Cd hne).trans (hk2 k hk hne),hG _ _ W2 _ hg Tb (fun k hk=>by simpa using Tb k hk) (fun _ h=>h) (fun _ h=>.inl h) (.put (.inr Xh) _)⟩
  rcases h with⟨hi,⟨r,hr,hl2⟩,hk2,Gp⟩ | ⟨pre,bO,c,hi,⟨r,hr,hl2⟩,hk2,Gp⟩
  ·subst hr
   obtain⟨W4,h1,h2,h3,h4⟩:=fin .ready D_ (I xs) (by decide) (fun T T' W W'=>hI xs T T' W W') hi hl2 hk2 Gp;exact⟨W4,D_,h1,fun k hk=>.inr hk,h2,h3,ae.refl _ _,h4⟩
  ·subst hr
   obtain⟨W4,h1,h2,h3,h4⟩:=fin .done (AN c) (Ix c pre) (by decide) (fun T T' W W'=>TE c pre T T' W W') hi hl2 hk2 Gp;exact⟨W4,AN c,h1,fun k hk=>.inr hk,h2,h3,ae.refl _ _,pre,bO,h4⟩
theorem aw {c:D0} {Q:NX->A_->An->Prop} {a:A_} {w:An} (h:∀ W,W=w->c.wp P Q a W):c.wp P Q a w:=h w rfl
theorem Gq {F:On} {n:Nat} {c:D0} {Q:NX->A_->An->Prop} {a:A_} {w:An} (h:∀ W,W=w->c.wpIn F n P Q a W):c.wpIn F n P Q a w:=h w rfl
theorem uP {α:Type} {g:Se} {ps:Array Tmp} {assign body:D0} {Q:NX->A_->An->Prop} {a:A_} {w:An} {gf:Nat} {lb:Array Value} {mK:α->Array Value} {R:Nat->Prop} {xs:List α} (hseq:Seq d P gf lb mK R xs w) (hg:a.eval g=.func (.func gf) #[] lb) (eg:∀ args w,(callFunc gf args).run P w=.ok (.enter gf args) w) (Ta:∀ x,(mK x).size=ps.size) (TD:∀ k,R k->k<w.heap.size) (I:List α->(Nat->Prop)->An->Prop) (Ix:D0->List α->(Nat->Prop)->An->Prop) (hI:eL d w.heap.size I) (TE:∀ c,eL d w.heap.size (Ix c)) (h0:I [] (fun _=>False) w) (Ia:List α×α×A_->(Nat->Prop)->An->Prop) (hIa:eL d w.heap.size Ia) (qC:∀ l pre x T W,pre++ [x]<+:xs->(∀ k,T k->w.heap.size<=k/\k<W.heap.size)->ae R w W->I pre T W-> assign.wpIn (B_.inRound l) 0 P (Exit.then (fun a1 W'=>ae (fun k=>R k\/T k) W W'/\Ia (pre,x,a1) T W') (fun _ _ _=>False)) {tmps:=(ps.zip (mK x)).foldl (fun t (p,v)=>t.setIfInBounds p v) a.tmps,defers:=[]} W)
  (CD:∀ l pre x T a1 W,pre++ [x]<+:xs->(∀ k,T k->w.heap.size<=k/\k<W.heap.size)->ae R w W->T l->(∃ r:Loop,W.heap[l]? =AN (.loop r))->Ia (pre,x,a1) T W->
   body.wpIn (B_.inRound l) 0 P (Gk R T W I Ix (pre++ [x])) a1 W)
  (hdone:∀ D T W,w.heap.size<=D->T D->(∀ k,T k->w.heap.size<=k/\k<W.heap.size)->I xs T W->W.heap[D]? =AN (.deferred (AN []))->Q .normal {a with defers:= {target:=.collected D,args:= #[]} ::a.defers} W)
  (Oj:∀ D c pre T W,w.heap.size<=D->T D->(∀ k,T k->w.heap.size<=k/\k<W.heap.size)->pre<+:xs->Ix c pre T W->W.heap[D]? =AN (.deferred (AN []))->c.wp P Q {a with defers:= {target:=.collected D,args:= #[]} ::a.defers} W):
  (RE g ps assign body).wp P Q a w:=by
 refine P'.1 (wpIn_rangeFunc (n:=0) ?_);intro fn hfn;obtain⟨W1,hW1⟩:∃ W1,W1=(w.alloc (.deferred (AN []))).alloc (.loop {state:=.ready,pending:=D_,fn,tmps:=a.tmps,params:=ps,assign,body,defers:=w.heap.size}):=⟨_,rfl⟩;have hL1:W1.heap[w.heap.size+1]? =AN (.loop {state:=.ready,pending:=D_,fn,tmps:=a.tmps,params:=ps,assign,body,defers:=w.heap.size}):=by
  rw[hW1];have:=IF (w.alloc (.deferred (AN []))) (.loop {state:=.ready,pending:=D_,fn,tmps:=a.tmps,params:=ps,assign,body,defers:=w.heap.size});rwa[World.size_alloc]at this
 have hK1:W1.heap[w.heap.size]? =AN (.deferred (AN [])):=by rw[hW1];exact(Below.heap_alloc _ _ _ (by simp)).trans (IF w _)
 have hsz:W1.heap.size=w.heap.size+1+1:=by rw[hW1];simp
 have hx1:Ext w W1:=by rw[hW1];exact((Ext.refl w).alloc _).alloc _
 refine⟨w.heap.size+1,[{target:=.collected w.heap.size,args:= #[]}],W1, {target:=.fn (.func gf) lb,args:= #[.func (.yield (w.heap.size+1)) #[] #[]]},W1,gf,
  #[.func (.yield (w.heap.size+1)) #[] #[]]++lb,W1,?_,?_,?_,?_,fun h=>(by cases h),?_⟩
 ·rw[hW1];exact run_enterLoop_outer _ _ _ _ _
 ·simp only[resolve,hg]
  simp[go_sem]
 ·intro f' _;trivial
 ·simp[invoke,go_sem,eg]
 ·refine(Gl (F:=B_) (fun _=>trivial) (fun h=>K_.2 h) (fun h=>h) hseq a.tmps w.heap.size Ta TD (w.heap.size+1) (fun k=>k=w.heap.size\/k=w.heap.size+1) (fun k hk=>by omega) (.inr rfl) W1 hsz hL1 hx1 I Ix hI TE
   (hI _ _ _ w W1 h0 (fun _ h=>h.elim) (fun k hk=>by omega) (fun _ h=>h.elim) (fun k hk=>.inr (by omega)) (.ext hx1)) Ia hIa
   (fun pre x T W h1 _ h3 h4 h5=>qC _ pre x T W h1 h3 h4 h5) (fun pre x T a1 W h1 h2 h3 h4 ⟨r,h5,_⟩ h6=>CD _ pre x T a1 W h1 h3 h4 (h2 _ (.inr rfl)) ⟨r,h5⟩ h6)).mono ?_
  rintro e W3 ⟨⟨v,rfl⟩,T,W4,jump,hend,NG,hT,hk,_,hj⟩;refine⟨jump,W4,hend,?_⟩;have hD:W4.heap[w.heap.size]? =AN (.deferred (AN [])):=(hk _ (.inl rfl) (by omega)).trans hK1;cases jump with
  | none=>exact hdone _ T W4 (aF _) (NG _ (.inl rfl)) hT hj hD
  | some c=>
   obtain⟨pre,bO,hx⟩:=hj;exact P'.2 (Oj _ c pre T W4 (aF _) (NG _ (.inl rfl)) hT bO hx hD)
theorem ic {α:Type} {g:Se} {ps:Array Tmp} {assign body:D0} {Q:NX->A_->An->Prop} {a:A_} {w:An} {gf:Nat} {lb:Array Value} {mK:α->Array Value} {R:Nat->Prop} {xs:List α} (hseq:Seq d P gf lb mK R xs w) (hg:a.eval g=.func (.func gf) #[] lb) (eg:∀ args w,(callFunc gf args).run P w=.ok (.enter gf args) w) (Ta:∀ x,(mK x).size=ps.size) (TD:∀ k,R k->k<w.heap.size) (I:List α->(Nat->Prop)->An->Prop) (Ix:D0->List α->(Nat->Prop)->An->Prop) (hI:eL d w.heap.size I) (TE:∀ c,eL d w.heap.size (Ix c)) (h0:I [] (fun _=>False) w) (a₁:α->A_) (qC:∀ l x W (K:A_->An->Prop),K (a₁ x) W->assign.wpIn (B_.inRound l) 0 P (Exit.then K (fun _ _ _=>False)) {tmps:=(ps.zip (mK x)).foldl (fun t (p,v)=>t.setIfInBounds p v) a.tmps,defers:=[]} W)
  (CD:∀ l pre x T W,pre++ [x]<+:xs->(∀ k,T k->w.heap.size<=k/\k<W.heap.size)->ae R w W->T l->(∃ r:Loop,W.heap[l]? =AN (.loop r))->I pre T W->
   body.wpIn (B_.inRound l) 0 P (Gk R T W I Ix (pre++ [x])) (a₁ x) W)
  (hdone:∀ D T W,w.heap.size<=D->T D->(∀ k,T k->w.heap.size<=k/\k<W.heap.size)->I xs T W->W.heap[D]? =AN (.deferred (AN []))->Q .normal {a with defers:= {target:=.collected D,args:= #[]} ::a.defers} W)
  (Oj:∀ D c pre T W,w.heap.size<=D->T D->(∀ k,T k->w.heap.size<=k/\k<W.heap.size)->pre<+:xs->Ix c pre T W->W.heap[D]? =AN (.deferred (AN []))->c.wp P Q {a with defers:= {target:=.collected D,args:= #[]} ::a.defers} W):
  (RE g ps assign body).wp P Q a w:=
 uP hseq hg eg Ta TD I Ix hI TE h0 (fun z T W=>z.2.2=a₁ z.2.1/\I z.1 T W) (fun z T T' W W' hz h1 h2 h3 h4 h5=>⟨hz.1,hI z.1 T T' W W' hz.2 h1 h2 h3 h4 h5⟩)
  (fun l pre x T W _ _ _ hi=>qC l x W _ ⟨ae.refl _ _,rfl,hi⟩) (fun l pre x T a1 W h1 h2 h3 h4 h5 h6=>by obtain⟨h6,h7⟩:=h6;dsimp only at h6;subst h6;exact CD l pre x T W h1 h2 h3 h4 h5 h7) hdone Oj
theorem cd {f:Bm} {fn:Func} {c:D0} {args:Array Value} {w:An} {R:Bs->An->Prop} (hf:P.funcs[f]? =AN fn) (hb:fn.body=AN c) (h:c.wp P (bodyPostM B_ 0 P fn R) {tmps:=args++IN (fn.ntmps-args.size) GB,defers:=[]} w):EV P f args w R:=
 K_.1 (callsIn_of_wp_marks hf hb trivial (P'.2 h))
theorem di {fn:Func} {R:Bs->An->Prop} {a:A_} {W:An} {D:Nat} {v:Value} (hd:a.defers=[{target:=.collected D,args:= #[]}]) (hD:W.heap[D]? =AN (.deferred (AN []))) (hr:(results fn a.tmps).run P (W.putObj D (.deferred D_))=.ok v (W.putObj D (.deferred D_))) (hR:R (D' v) (W.putObj D (.deferred D_))):bodyPostM B_ 0 P fn R .ret a W:=by show LeavesInM B_ 0 P fn a.tmps R a.defers .returning W;rw[hd];exact⟨by simp,.inl ⟨_,_,rfl,run_takeDeferred hD,v,hr,hR⟩⟩
theorem tW {fn:Func} {R:Bs->An->Prop} {a:A_} {W:An} {D:Nat} {v:Value} (hd:a.defers=[{target:=.collected D,args:= #[]}]) (hD:W.heap[D]? =AN (.deferred (AN []))) (hr:(results fn a.tmps).run P (W.putObj D (.deferred D_))=.ok v (W.putObj D (.deferred D_))) (hR:R (D' v) (W.putObj D (.deferred D_))):bodyPostM B_ 0 P fn R .normal a W:=
 di hd hD hr hR
theorem xP {fn:Func} {R:Bs->An->Prop} {a:A_} {W:An} {v:Value} (hd:a.defers=[]) (hr:(results fn a.tmps).run P W=.ok v W) (hR:R (D' v) W):bodyPostM B_ 0 P fn R .ret a W:=by show LeavesInM B_ 0 P fn a.tmps R a.defers .returning W;rw[hd];exact⟨v,hr,hR⟩
theorem CG {W:An} {D:Nat} {o o':Obj} (h:W.heap[D]? =AN o) (ho:o.isCells=AI) (mL:o'.isCells=AI) (a:Rr):(W.putObj D o').cell? a=W.cell? a:=by
 by_cases hb:a.block=D
 ·have h1:=H_ (o:=o') (AS.1 h).1
  simp only[St,hb,h,h1];cases o<;>cases o'<;>first | rfl | (simp[Obj.isCells]at ho mL)
 ·exact Iv (Cd hb)
end
end
section
open Go Go.RowKit
section
variable {F:On} {n:Nat} {P:A'} {C:An→Prop} {ops:Array AM}
structure ee (p:Prop):Prop where
 out:p
theorem eX {eff:Nat->Bool} {Q:A_->An->Prop} {o:AM} {rest:List AM} {k:Nat} {a:A_} {w:An} (h:∀ K:A_->An->Prop,(∀ a w,ee (kh F n P C ops eff Q rest (k+1) a w)->K a w)->dN F n P C ops (eff k) o K a w):ee (kh F n P C ops eff Q (o::rest) k a w):=⟨bN fun K hK=>h K fun a w hl=>hK a w hl.out⟩
theorem CU {eff:Nat->Bool} {Q:A_->An->Prop} {k:Nat} {a:A_} {w:An} (h:Q a w):ee (kh F n P C ops eff Q [] k a w):=⟨h⟩
theorem TH {eI:Bool} {o:AM} {K:A_->An->Prop} {a:A_} {w:An} (he:eI=AI) (hw:As o (yielded ops a.tmps)=AF) (h:∃ v,(∀ W: {W//C W},az P o a v W.1)/\K (a.put o.dst v) w):dN F n P C ops eI o K a w:=by subst he;exact dt hw h
theorem Ol {eI:Bool} {o:AM} {K:A_->An->Prop} {a:A_} {w:An} (he:eI=AF) (hw:As o (yielded ops a.tmps)=AF) (h:iU F n P C o.dst a K ((execOp a.eval o).run P w)):dN F n P C ops eI o K a w:=by subst he;exact eB hw h
theorem ja {op:AM} {a:A_} {W:An} (ty:E_) (x:Se) (ho:op.op=.load ty x) (b o:Nat) (hx:a.eval x=.pointer (AN ⟨b,o,D_⟩)) (cs:Array Value) (d:TypeDesc) (hc:W.rangeAt b o cs.toList) (hu:P.underlying ty=AN d) (hd:d.isRow=AF) (hi:(P.info? ty).map (·.size)=AN cs.size):az P op a (.agg cs) W:=by refine .inl ?_;unfold execOp;simp only[ho,hx,Instr.loadAt,Instr.sureAddr,Sem.run_bind,Sem.run_pure,Result.andThen_ok,run_loadVar_mid W b o ty cs.toList d hc hu hd (by rw[Array.length_toList];exact hi)]
theorem fB {w w':An} {R:Nat->Prop} {b o:Nat} {cs:List Value} (h:w.rangeAt b o cs) (hk:ae R w w') (hb:R b):w'.rangeAt b o cs:=fun j v hj=>(hk.cell (p:=⟨b,o+j,D_⟩) hb).trans (h j v hj)
theorem qD {o:AM} {a:A_} {w:An} {K:A_->An->Prop} (s x:Se) (t:E_) (ho:o.op=.call {callee:=.builtin .append,args:= #[s,x],argTypes:= #[t,t]}) (base:Nat) (e:E_) (i:TypeInfo) (z:Value) (size bytes:Nat) (ht:P.underlying t=AN (.slice e)) (hi:P.info? e=AN i) (hz:i.zero=AN z) (hsize:i.size=size) (hby:i.bytes=bytes) (hzs:z.cells.size=size) (hsz:0<size) (v:Value) (m:Nat) (xs:List Value) (hs:a.eval s=v) (hown:w.ownsRow base e size v m xs) (ad:Rr) (k c:Nat) (news:List Value) (hx:a.eval x=.slice (AN ad) k c) (hl:news.length=k*size) (hnews:∀ j u,news[j]? =AN u->w.cell? (ad.add j)=AN u) (h1:∀ u∈news,u.oneCell'=AF) (h63:m+k<=maxLen) (hbytes:(m+k)*bytes<=140737488355328) (hbase:base<=w.heap.size) (h:∀ v' w',w'.ownsRow base e size v' (m+k) (xs++news)->w.grownBy w' v.ownBlock->(v'.ownBlock=v.ownBlock\/v'.ownBlock=AN w.heap.size)->C w'/\K (a.put o.dst v') w'): iU F n P C o.dst a K ((execOp a.eval o).run P w):=by obtain⟨v',w',hr,h2,h3,h4,h5⟩:=run_append_own_at (P:=P) w base t o.type e i z size bytes ht hi hz hsize hby hzs hsz v m xs hown ad k c news hl hnews h1 h63 hbytes hbase;unfold execOp;simp only[ho,resolve,invoke,builtin,Sem.run_bind,Sem.run_pure,Result.andThen_ok,List.map_toArray,List.map_cons,List.map_nil,hs,hx,hr];exact h v' w' h2 h3 h5
end
end
section
open Go Go.RowKit
structure aU (M:An->An->Prop) where
 P:Value->Prop
 H:Value->An->Prop
 nU:Value
 pw:P nU
 st:∀ v W W',M W W'->P v->H v W->H v W'
theorem Move.trans {d:Bool} {T:Nat->Prop} {A B C:An} (h:Move d T A B) (k:Move d T B C):Move d T A C:=
 ⟨h.1.trans k.1 fun _ hk=>⟨ay hk.1 h.1.size,hk.2⟩,fun hd=>B' (h.2 hd) (k.2 hd)⟩
def dD (ops:Array AM) (j:Nat):Option Tmp:=(ops[j]?).bind (·.dst)
def jB (Cl:Bm->Array Value->An->(Bs->An->Prop)->Prop) (Rd:Nat->Bm->Array Value->D0->D0->An->(Bs->An->Prop)->Prop) (post:Value->An->Prop):O' SO->Prop
 | .ok (.value v) w'=>post v w'
 | .ok .skip w'=>post GB w'
 | .ok (.enter f args) w'=>Cl f args w' fun e w''=>∃ v,e=D' v/\post v w''
 | .ok (.round l f tmps Cv body) w'=>Rd l f tmps Cv body w' fun e w''=>∃ v,e=D' v/\post v w''
 | _=>False
def TI (S:Nat->(A_->An->Prop)->A_->An->Prop) (md:DS) (ops:Array AM) (Qn:A_->An->Prop):Nat->Array Bool->A_->An->Prop
 | 0,listed,a,w=>By md ops listed=[]/\Qn a w
 | fuel+1,listed,a,w=>
  (By md ops listed=[]->Qn a w)/\
  ∀ i∈By md ops listed,S i (TI S md ops Qn fuel (listed.setIfInBounds i AF)) a w
def yG (S:Nat->(A_->An->Prop)->A_->An->Prop) (Qn:A_->An->Prop):List Nat->A_->An->Prop
 | [],a,w=>Qn a w
 | i::rest,a,w=>S i (yG S Qn rest) a w
def needs (m:Nat) (aR:List (Nat× (An->Prop))) (W:An):Prop:=∀ x∈aR,m.testBit x.1=AF->x.2 W
theorem needs.at {m:Nat} {aR:List (Nat× (An->Prop))} {W:An} (h:needs m aR W) (i:Nat) {x:Nat× (An->Prop)} (hx:aR[i]? =AN x) (hm:m.testBit x.1=AF):x.2 W:=h x (ax hx) hm
section
variable {P:A'} {Cl:Bm→Array Value→An→(Bs→An→Prop)→Prop} {Rd:Nat→Bm→Array Value→D0→D0→An→(Bs→An→Prop)→Prop}
  {ops:Array AM} {eff:Nat→Bool} {ck:Nat→Nat} {M:An→An→Prop} {EP:Nat→aU M} {C:An→Prop} {md:DS} {m:Nat}
def gq (ops:Array AM) (a:A_) (val:Nat->Value):Nat->A_
 | 0=>a
 | i+1=>(gq ops a val i).put (dD ops i) (val i)
theorem eY {a:A_} {val val':Nat->Value} :∀ (i:Nat),(∀ j,j<i->val j=val' j)->gq ops a val i=gq ops a val' i
 | 0,_=>rfl
 | i+1,h=>by unfold gq;rw[eY i fun j hj=>h j (by omega),h i (by omega)]
def wantedAt (ops:Array AM) (a:A_) (val:Nat->Value) (j:Nat):Prop:=∃ o,ops[j]? =AN o/\As o (yielded ops (gq ops a val j).tmps)=AF
def rT (ops:Array AM) (eff:Nat->Bool) (ck:Nat->Nat) (EP:Nat->aU M) (a:A_) (val:Nat->Value) (i:Nat) (W:An):Prop:=
 ∀ j,j<i->wantedAt ops a val j->eff j=AF->(ck i).testBit j=AF->(EP j).H (val j) W
theorem jC {a:A_} {val val':Nat->Value} {j:Nat} (h:∀ k,k<j->val k=val' k):wantedAt ops a val j↔wantedAt ops a val' j:=by unfold wantedAt;rw[eY j h]
theorem pJ {a:A_} {val val':Nat->Value} {i:Nat} (h:∀ k,k<i->val k=val' k):rT ops eff ck EP a val i=rT ops eff ck EP a val' i:=by
 funext W
 unfold rT;refine propext (forall_congr' fun j=>forall_congr' fun hj=>?_);rw[jC (val':=val') fun k hk=>h k (by omega),h j hj]
structure Jn (ops:Array AM) (a0:A_) (L:Nat->Prop) (val:Nat->Value) (a:A_):Prop where
 defers:a.defers=a0.defers
 size:a.tmps.size=a0.tmps.size
 old:∀ t,(∀ j,L j->dD ops j≠AN t)->a.tmps[t]? =a0.tmps[t]?
 new:∀ j t,L j->dD ops j=AN t->t<a0.tmps.size->a.tmps[t]? =AN (val j)
theorem Jn.start (a0:A_) (val:Nat->Value) {L:Nat->Prop} (hL:∀ j,¬L j):Jn ops a0 L val a0:=⟨rfl,rfl,fun _ _=>rfl,fun j _ h=>(hL j h).elim⟩
theorem Jn.put {a0 a:A_} {L L':Nat->Prop} {val:Nat->Value} (h:Jn ops a0 L val a) (i:Nat) (hL:∀ j,L' j↔L j\/j=i) (hi:∀ j t,L j->dD ops j=AN t->dD ops i≠AN t):Jn ops a0 L' val (a.put (dD ops i) (val i)):=by
 cases hd:dD ops i with
 | none=>
  refine⟨h.defers,h.size,fun t ht=>h.old t fun j hj=>ht j ((hL j).2 (.inl hj)),fun j t hj VK Om=>?_⟩;rcases(hL j).1 hj with hj | rfl
  ·exact h.new j t hj VK Om
  ·rw[hd]at VK;cases VK
 | some e=>
  refine⟨h.defers,by simp[Sf,h.size],fun t ht=>?_,fun j t hj VK Om=>?_⟩
  ·have hne:e≠t:=fun he=>ht i ((hL i).2 (.inr rfl)) (by rw[hd,he])
   simp only[Sf,H' hne];exact h.old t fun j hj=>ht j ((hL j).2 (.inl hj))
  ·rcases(hL j).1 hj with hj | rfl
   ·have hne:e≠t:=fun he=>hi j t hj VK (by rw[hd,he])
    simp only[Sf,H' hne];exact h.new j t hj VK Om
   ·rw[hd]at VK;cases VK
    simp only[Sf];rw[Array.getElem?_setIfInBounds_self_of_lt (by rw[h.size];exact Om)]
theorem Jn.agree {a0 a a':A_} {L L':Nat->Prop} {val val':Nat->Value} (h:Jn ops a0 L val a) (h':Jn ops a0 L' val' a') {t:Nat} (hj:∀ j,dD ops j=AN t->((L j↔L' j)/\(L j->val j=val' j))):a.tmps[t]? =a'.tmps[t]? :=by
 by_cases hex:∃ j,L j/\dD ops j=AN t
 ·obtain⟨j,h1,h2⟩:=hex
  obtain⟨h3,h4⟩:=hj j h2;rcases C' t a0.tmps.size with hlt | VL
  ·rw[h.new j t h1 h2 hlt,h'.new j t (h3.1 h1) h2 hlt,h4 h1]
  ·rw[DP (by rw[h.size];exact VL),DP (by rw[h'.size];exact VL)]
 ·rw[h.old t fun j h1 h2=>hex ⟨j,h1,h2⟩,h'.old t fun j h1 h2=>hex ⟨j,((hj j h2).1).2 h1,h2⟩]
theorem rU {o:AM} (hs:∀ cs b,o.op≠ .select cs b) {a a':A_} (h:∀ t,t∈o.looksAt ops->a.tmps[t]? =a'.tmps[t]?): execOp a.eval o=execOp a'.eval o/\As o (yielded ops a.tmps)=As o (yielded ops a'.tmps):=by
 constructor
 ·refine execOp_congr o hs fun x hx=>?_
  cases x with
  | tmp t=>
   have:=h t (List.mem_append_left _ (List.mem_filterMap.2 ⟨.tmp t,by simpa using hx,rfl⟩));simp[Act.eval,this]
  | _=>rfl
 ·unfold As
  cases hg:o.guard with
  | none=>rfl
  | some gw=>
   obtain⟨g,want⟩:=gw;have hy:yielded ops a.tmps g=yielded ops a'.tmps g:=by
    unfold yielded;cases ht:(ops[g]?).bind (·.dst)with
    | none=>rfl
    | some t=>
     have:=h t (by simp[Oper.looksAt,hg,ht]);simp[this]
   simp only[hy]
structure uQ (md:DS) (ops:Array AM) (ck:Nat->Nat) (m:Nat):Prop where
 le:m<=ops.size
 sel:∀ (j:Nat) (o:AM) cs b,ops[j]? =AN o->o.op≠ .select cs b
 CV:∀ (i:Nat) (o:AM),ops[i]? =AN o->∀ e∈o.after,DH md e=AF->e.on<i
 sound:∀ (i:Nat) (o:AM) (j:Nat),ops[i]? =AN o->(ck i).testBit j=AF->∃ e∈o.after,DH md e=AF/\(e.on=j\/(ck e.on).testBit j=AF)
 looks:∀ (i:Nat) (o:AM) (t j:Nat),i<m->ops[i]? =AN o->t∈o.looksAt ops->dD ops j=AN t->(j<i->(ck i).testBit j=AF)/\(i<j->(ck j).testBit i=AF)
 TJ:∀ i j t,i<j->dD ops i=AN t->dD ops j≠AN t
 tail:∀ i j,m<=i->i<ops.size->j<i->(ck i).testBit j=AF
theorem uQ.Xl (ok:uQ md ops ck m):∀ (i j:Nat) (o:AM),ops[i]? =AN o->(ck i).testBit j=AF->j<i:=by
 intro i;induction i using Ly with
 | ind i ih=>
  intro j o ho hj;obtain⟨e,he,hb,h⟩:=ok.sound i o j ho hj;have hlt:=ok.CV i o ho e he hb;rcases h with h | h
  ·omega
  ·have hes:e.on<ops.size:=by have:=(AS.1 ho).1;omega
   have:=ih e.on hlt j _ (AT hes) h;omega
theorem uQ.gq (ok:uQ md ops ck m) (a0:A_) (val:Nat->Value):∀ i,Jn ops a0 (fun j=>j<i) val (gq ops a0 val i)
 | 0=>Jn.start a0 val fun j h=>by omega
 | i+1=>(ok.gq a0 val i).put i (fun j=>by constructor<;>intro h<;>omega) fun j t hj hd=>fun h=>ok.TJ j i t hj hd h
theorem count_set:∀ (l:List Bool) (i:Nat),l[i]? =AN AI->(l.set i AF).count AI+1=l.count AI
 | [],_,h=>by simp at h
 | b::l,0,h=>by
  simp only[List.getElem?_cons_zero,Option.some.injEq]at h;subst h;simp
 | b::l,i+1,h=>by
  simp only[J_]at h;have:=count_set l i h;simp only[List.set_cons_succ,List.count_cons];omega
variable {S:Nat→(A_→An→Prop)→A_→An→Prop} {Qn:A_→An→Prop}
structure Gr (P:A') (Cl:Bm->Array Value->An->(Bs->An->Prop)->Prop) (Rd:Nat->Bm->Array Value->D0->D0->An->(Bs->An->Prop)->Prop)
  (ops:Array AM) (eff:Nat->Bool) (S:Nat->(A_->An->Prop)->A_->An->Prop):Prop where
 flt:∀ (i:Nat) (o:AM) (K:A_->An->Prop) (a:A_) (w:An) (v:Value),ops[i]? =AN o->eff i=AI->As o (yielded ops a.tmps)=AF->az P o a v w->K (a.put o.dst v) w->S i K a w
 eff:∀ (i:Nat) (o:AM) (K:A_->An->Prop) (a:A_) (w:An),ops[i]? =AN o->eff i=AF->As o (yielded ops a.tmps)=AF->jB Cl Rd (fun v w'=>K (a.put o.dst v) w') ((execOp a.eval o).run P w)->S i K a w
 un:∀ (i:Nat) (o:AM) (K:A_->An->Prop) (a:A_) (w:An),ops[i]? =AN o->As o (yielded ops a.tmps)=AI->K (a.put o.dst GB) w->S i K a w
 mono:∀ (i:Nat) (K K':A_->An->Prop) (a:A_) (w:An),(∀ a w,K a w->K' a w)->S i K a w->S i K' a w
 VM:∀ (post post':Value->An->Prop) (r:O' SO),(∀ v w,post v w->post' v w)->jB Cl Rd post r->jB Cl Rd post' r
theorem Gs {listed:Array Bool} {j:Nat} (hj:j<listed.size):listed.getD j AI=AF\/listed.getD j AF=false:=by simp[hj]
theorem yH (ok:uQ md ops ck m) (so:Gr P Cl Rd ops eff S):∀ (r k:Nat) (fuel:Nat) (listed:Array Bool) (a:A_) (w:An),m<=k->k+r=ops.size->r<=fuel->listed.size=ops.size->(∀ j,j<ops.size->(listed.getD j AI=AF↔j<k))-> yG S Qn (L_ k r) a w->TI S md ops Qn fuel listed a w:=by
 intro r;induction r with
 | zero=>
  intro k fuel listed a w hm hk hf hs hl h;have hnil:By md ops listed=[]:=by
   rw[List.eq_nil_iff_forall_not_mem];intro j hj;obtain⟨h1,o,ho,_⟩:=If.1 hj;have hjs:j<ops.size:=(AS.1 ho).1;have h2:=(hl j hjs).2 (by omega);have FZ:j<listed.size:=by omega
   simp[FZ]at h1 h2;rw[h1]at h2;cases h2
  cases fuel with
  | zero=>exact⟨hnil,h⟩
  | succ fuel=>exact⟨fun _=>h,fun i hi=>by rw[hnil]at hi;cases hi⟩
 | succ r ih=>
  intro k fuel listed a w hm hk hf hs hl h;obtain⟨fuel,rfl⟩:∃ f,fuel=f+1:=⟨fuel-1,by omega⟩;have Tc:k<ops.size:=by omega
  have Oo:∀ i,i∈By md ops listed↔i=k:=by
   intro i;rw[If];constructor
   ·rintro⟨h1,o,ho,hall⟩
    have TK:i<ops.size:=(AS.1 ho).1;have fT:i<listed.size:=by omega
    have qE:¬listed.getD i AI=true:=by simp[fT]at h1 ⊢;exact h1
    rw[hl i TK]at qE;by_cases hik:i=k
    ·exact hik
    ·exfalso
     obtain⟨e,he,hb,kA⟩:=ok.sound i o k ho (ok.tail i k (by omega) TK (by omega));have he1:=hall e he hb;have hes:=ok.CV i o ho e he hb;rw[hl e.on (by omega)]at he1;rcases kA with rfl | kA
     ·omega
     ·have:=ok.Xl e.on k _ (AT (by omega)) kA
      omega
   ·rintro rfl
    have fT:i<listed.size:=by omega
    have qE:¬listed.getD i AI=true:=by rw[hl i Tc];omega
    refine⟨by simp[fT]at qE ⊢;exact qE,_,AT Tc,fun e he hb=>?_⟩;have hes:=ok.CV i _ (AT Tc) e he hb;exact(hl e.on (by omega)).2 hes
  refine⟨fun hnil=>?_,fun i hi=>?_⟩
  ·have:=(Oo k).2 rfl
   rw[hnil]at this;cases this
  ·obtain rfl:=(Oo i).1 hi
   rw[List.range'_succ]at h;refine so.mono i _ _ a w (fun a' w' h'=>?_) h;refine ih (i+1) fuel _ a' w' (by omega) (by omega) (by omega) (by simpa using hs) (fun j hj=>?_) h';by_cases mM:i=j
   ·subst mM
    have:i<listed.size:=by omega
    simp[this]
   ·rw[GS AI mM,hl j hj];omega
end
end
section
open Go Go.RowKit
def mN (md:DS) (ops:Array AM) (ck:List Nat) (m:Nat):Bool:=
 Lw ops&&decide (m<=ops.size)&&(Kx ops.size).all fun i=>match ops[i]? with
  | none=>AF
  | some o=>decide (ck.getD i 0<2^i)&&(o.after.all fun e=> !Region.binds md e || decide (e.on<i))&&
   (Kx ops.size).all fun j=>
    (!(ck.getD i 0).testBit j || o.after.any fun e=>DH md e&&(e.on==j || (ck.getD e.on 0).testBit j))&&
    (match dD ops j with
     | none=>AF
     | some t=>(decide (j<=i) || !(dD ops i==AN t))&&(!decide (i<m) || !(o.looksAt ops).contains t || ((!decide (j<i) || (ck.getD i 0).testBit j)&&(!decide (i<j) || (ck.getD j 0).testBit i))))&&
    (!(decide (m<=i)&&decide (j<i)) || (ck.getD i 0).testBit j)
theorem KQ {md:DS} {ops:Array AM} {ck:List Nat} {m:Nat} (h:mN md ops ck m=AF):uQ md ops (fun i=>ck.getD i 0) m:=by
 unfold mN at h;rw[DE,DE,DQ]at h;obtain⟨⟨hs,hm⟩,hall⟩:=h
 have hi:∀ (i:Nat) (o:AM),ops[i]? =AN o->ck.getD i 0<2^i/\(∀ e∈o.after,DH md e=AF->e.on<i)/\
   ∀ j,j<ops.size->((ck.getD i 0).testBit j=AF->∃ e∈o.after,DH md e=AF/\(e.on=j\/(ck.getD e.on 0).testBit j=AF))/\
    (∀ t,dD ops j=AN t->(j<=i\/dD ops i≠AN t)/\(i<m->t∈o.looksAt ops->(j<i->(ck.getD i 0).testBit j=AF)/\(i<j->(ck.getD j 0).testBit i=AF)))/\
    (m<=i->j<i->(ck.getD i 0).testBit j=AF):=by
  intro i o ho;have TK:i<ops.size:=(AS.1 ho).1;have h1:=hall i (G_.2 TK);simp only[ho,DE,decide_eq_true_eq,DQ,GW]at h1;obtain⟨⟨h1,h2⟩,h3⟩:=h1;refine⟨h1,fun e he hb=>?_,fun j hj=>?_⟩
  ·have:=h2 e he
   rw[hb]at this;simpa using this
  ·obtain⟨⟨h4,h5⟩,h6⟩:=h3 j (G_.2 hj)
   refine⟨fun hb=>?_,fun t ht=>?_,fun h7 h8=>?_⟩
   ·rw[hb,FG]at h4
    obtain⟨e,he,hx⟩:=N'.1 (h4.resolve_left (by decide));rw[DE,FG,beq_iff_eq]at hx;exact⟨e,he,hx.1,hx.2⟩
   ·rw[ht]at h5
    simp only[DE,FG,decide_eq_true_eq,G',beq_eq_false_iff_ne,decide_eq_false_iff_not]at h5;refine⟨h5.1,fun h7 h8=>?_⟩;rcases h5.2 with(h9 | h9) | h9
    ·exact absurd h7 h9
    ·have:(o.looksAt ops).contains t=true:=L7.2 h8
     rw[h9]at this;cases this
    ·exact⟨fun h10=>h9.1.resolve_left (fun h=>h h10),fun h10=>h9.2.resolve_left (fun h=>h h10)⟩
   ·simp only[FG,G',Bool.and_eq_false_iff,decide_eq_false_iff_not]at h6
    rcases h6 with(h6 | h6) | h6
    ·exact absurd h7 h6
    ·exact absurd h8 h6
    ·exact h6
 have hd:∀ j t,dD ops j=AN t->j<ops.size:=fun j t h=>by
  rcases C' j ops.size with h' | h'
  ·exact h'
  ·unfold dD at h;rw[DP h']at h;cases h
 have hlt:∀ (i:Nat) (o:AM) (j:Nat),ops[i]? =AN o->(ck.getD i 0).testBit j=AF->j<i:=fun i o j ho hb=>by
  rcases C' j i with h | h
  ·exact h
  ·rw[Nat.testBit_lt_two_pow (ay (hi i o ho).1 (Nat.pow_le_pow_right (by decide) h))]at hb;cases hb
 exact {
  le:=by simpa using hm
  sel:=fun j o cs b ho=>It hs j o cs b ho
  CV:=fun i o ho=>(hi i o ho).2.1
  sound:=fun i o j ho hb=>((hi i o ho).2.2 j (by have:=hlt i o j ho hb;have:=(AS.1 ho).1;omega)).1 hb
  looks:=fun i o t j Xm ho ht hj=>(((hi i o ho).2.2 j (hd j t hj)).2.1 t hj).2 Xm ht
  TJ:=fun i j t mM h1 h2=>by
   obtain⟨o,ho⟩:∃ o,ops[i]? =AN o:=⟨_,AT (hd i t h1)⟩;rcases(((hi i o ho).2.2 j (hd j t h2)).2.1 t h2).1 with h | h
   ·omega
   ·exact h h1
  tail:=fun i j h1 h2 h3=>((hi i _ (AT h2)).2.2 j (by omega)).2.2 h1 h3}
def gg:Nat->Bm->Array Value->D0->D0->An->(Bs->An->Prop)->Prop:=fun _ _ _ _ _ _ _=>False
section
variable {P:A'} {ops:Array AM} {Q:NX→A_→An→Prop} {eff:Nat→Bool}
theorem CY:Gr P (EV P) gg ops eff (wpOp P ops Q) where
 flt:=fun i o K a w v ho _ hw hf hK=>by
  unfold wpOp;simp only[ho,hw,if_true];refine .inl ?_;unfold Oper.wp;unfold az at hf;rcases hf with hf | ⟨hf,rfl⟩<;>rw[hf]<;>exact hK
 eff:=fun i o K a w ho _ hw he=>by
  unfold wpOp;simp only[ho,hw,if_true];refine .inl ?_;unfold Oper.wp;generalize (execOp a.eval o).run P w=r at he;cases r with
  | halt x w=>exact he.elim
  | ok x w=>
   cases x<;>simp only[jB]at he<;>simp only[Oper.upon]
   case value v=>exact he
   case skip=>exact he
   case enter f args=>exact Calls.mono he fun e w' ⟨v,hv,hK⟩=>by subst hv;exact hK
   case round=>exact he.elim
 un:=fun i o K a w ho hw hK=>by
  unfold wpOp;simp only[ho,hw,C_,if_false];exact hK
 mono:=fun i K K' a w h hS=>R_ h hS
 VM:=fun post post' r h he=>by
  cases r with
  | halt x w=>exact he.elim
  | ok x w=>
   cases x<;>simp only[jB]at he ⊢
   case value v=>exact h _ _ he
   case skip=>exact h _ _ he
   case enter f args=>exact Calls.mono he fun e w' ⟨v,hv,hK⟩=>⟨v,hv,h _ _ hK⟩
   case round=>exact he
theorem uR {md:DS} :∀ (fuel:Nat) (listed:Array Bool) (a:A_) (w:An),TI (wpOp P ops Q) md ops (fun a w=>Q .normal a w) fuel listed a w->wpAny P md ops Q fuel listed a w
 | 0,_,_,_,h=>h
 | fuel+1,_,_,_,h=>⟨h.1,fun i hi=>R_ (fun a w h=>uR fuel _ a w h) (h.2 i hi)⟩
theorem yI:∀ (l:List Nat) (a:A_) (w:An),(∀ i∈l,i<ops.size)->wpOps P ops Q l a w->yG (wpOp P ops Q) (fun a w=>Q .normal a w) l a w
 | [],_,_,_,h=>h
 | i::l,a,w,hl,h=>by
  rw[wpOps_cons]at h;exact R_ (fun a w h=>yI l a w (fun j hj=>hl j (bM _ hj)) h) h
end
section
variable {P:A'} {Cl:Bm→Array Value→An→(Bs→An→Prop)→Prop} {Rd:Nat→Bm→Array Value→D0→D0→An→(Bs→An→Prop)→Prop}
  {ops:Array AM} {eff:Nat→Bool} {ck:Nat→Nat} {M:An→An→Prop} {EP:Nat→aU M} {C:An→Prop} {Fin:List AM→A_→An→Prop}
theorem bA {f:Bm} {args:Array Value} {W:An} {post:Value->An->Prop} (h:Cl f args W fun e w'=>∃ v,e=D' v/\post v w'):jB Cl Rd post (.ok (.enter f args) W):=h
end
def aU.Cm (M:An->An->Prop) (x:Value):aU M:=⟨fun v=>v=x,fun _ _=>True,x,rfl,fun _ _ _ _ _ _=>trivial⟩
def aU.any (M:An->An->Prop):aU M:=⟨fun _=>True,fun _ _=>True,GB,trivial,fun _ _ _ _ _ _=>trivial⟩
theorem Move.Xn {d:Bool} {T:Nat->Prop} {W W':An} (h:Ext W W'):Move d T W W':=Move.ext h
theorem Move.aj {T:Nat->Prop} {W W':An} (h:aa W W'):Move AI T W W':=⟨ae.aj h fun _ hk=>hk.1,fun h=>by cases h⟩
theorem Move.keeps {d:Bool} {T:Nat->Prop} {W W':An} (h:Move d T W W'):ae (fun k=>k<W.heap.size/\¬T k) W W':=h.1
theorem Move.below {d:Bool} {W W':An} (h:Move d (fun _=>False) W W'):aa W W':=(h.1.mono fun _ hk=>⟨hk,fun h=>h⟩:ae (· <W.heap.size) W W').below
theorem Move.size {d:Bool} {T:Nat->Prop} {W W':An} (h:Move d T W W'):W.heap.size<=W'.heap.size:=h.1.size
end
end Go.Proofs.YtjgccapbphadjaaGreatDoor
namespace Go.Proofs.YtjgccapbphadjaaGreatDoor.RegG
open Go Go.RowKit
structure aU (M:An->An->Prop) where
 P:Value->Prop
 H:Value->Value->An->Prop
 nU:Value
 pw:P nU
 st:∀ x v W W',M W W'->P v->H x v W->H x v W'
def aU.Cm (M:An->An->Prop) (x:Value):aU M:=⟨fun v=>v=x,fun _ _ _=>True,x,rfl,fun _ _ _ _ _ _ _=>trivial⟩
def aU.any (M:An->An->Prop):aU M:=⟨fun _=>True,fun _ _ _=>True,GB,trivial,fun _ _ _ _ _ _ _=>trivial⟩
def eM (s:Option Tmp) (a:A_):Value:=match s with | none=>GB | some t=>a.tmps[t]?.getD GB
theorem sV {s:Option Tmp} {a a':A_} (h:∀ t,s=AN t->a.tmps[t]? =a'.tmps[t]?):eM s a=eM s a':=by
 cases s with
 | none=>rfl
 | some t=>unfold eM;simp only;rw[h t rfl]
def Jo (ops:Array AM) (ck:List Nat) (on:Nat->Option Tmp):Bool:=(Kx ops.size).all fun j=>(Kx j).all fun k=>match on j with
 | some t=> !(dD ops k==AN t) || (ck.getD j 0).testBit k
 | none=>AF
theorem Oq {ops:Array AM} {ck:List Nat} {on:Nat->Option Tmp} (hz:∀ j,ops.size<=j->on j=D_) (h:Jo ops ck on=AF):∀ (j t k:Nat),on j=AN t->dD ops k=AN t->k<j->(ck.getD j 0).testBit k=true:=fun j t k ht hk hkj=>by
 unfold Jo at h;have hj:j<ops.size:=by
  rcases C' j ops.size with h' | h'
  ·exact h'
  ·rw[hz j h']at ht;cases ht
 have:=DQ.1 (DQ.1 h j (G_.2 hj)) k (G_.2 hkj);rw[ht,hk]at this;simpa using this
end Go.Proofs.YtjgccapbphadjaaGreatDoor.RegG
namespace Go.Proofs.YtjgccapbphadjaaGreatDoor.fI
open Go Go.RowKit
def KU:Value->Option Nat
 | .pointer (AN ⟨b,_,_⟩)=>AN b
 | .slice (AN ⟨b,_,_⟩) _ _=>AN b
 | _=>D_
def C0 (W:An) (v:Value) (W':An):Prop:=∃ b,KU v=AN b/\W.heap.size<=b/\b<W'.heap.size
def fre (b:Bool) (F G:Prop):Prop:=match b with | true=>F/\G | false=>G
theorem TL {F G:Prop} :∀ {b:Bool},fre b F G->G
 | true,h=>h.2
 | false,h=>h
theorem TM {F G:Prop} {b:Bool} (hb:b=AF) (h:fre b F G):F:=by subst hb;exact h.1
def mO (al:Nat->Bool) (m:Nat) (val:Nat->Value):Prop:=∀ j k,j<m->k<m->al j=AF->al k=AF->j≠k->KU (val j)≠KU (val k)
structure uS (al:Nat->Bool) (L:Nat->Prop) (val:Nat->Value) (W:An):Prop where
 old:∀ j,L j->al j=AF->∃ b,KU (val j)=AN b/\b<W.heap.size
 ne:∀ j k,L j->L k->al j=AF->al k=AF->j≠k->KU (val j)≠KU (val k)
theorem uS.skip {al:Nat->Bool} {L L':Nat->Prop} {val:Nat->Value} {W:An} {i:Nat} (h:uS al L val W) (hi:al i=AI) (hL:∀ j,L' j->L j\/j=i):uS al L' val W:=by
 have key:∀ j,L' j->al j=AF->L j:=fun j hj ha=>(hL j hj).resolve_right fun e=>by subst e;rw[hi]at ha;cases ha
 exact⟨fun j hj ha=>h.old j (key j hj ha) ha,fun j k hj hk h1 h2 h3=>h.ne j k (key j hj h1) (key k hk h2) h1 h2 h3⟩
theorem uS.step {al:Nat->Bool} {L L':Nat->Prop} {val val':Nat->Value} {W W':An} {i:Nat} (h:uS al L val W) (hs:(∃ j,al j=AF)->W.heap.size<=W'.heap.size) (hL:∀ j,L' j->L j\/j=i) (hv:∀ j,L j->val' j=val j) (hn:al i=AF->C0 W (val' i) W'):uS al L' val' W':=by
 have key:∀ j,L j->al j=AF->∃ b,KU (val' j)=AN b/\b<W.heap.size:=fun j hj ha=>by rw[hv j hj];exact h.old j hj ha
 refine⟨fun j hj ha=>?_,fun j k hj hk h1 h2 h3=>?_⟩
 ·rcases hL j hj with hj | rfl
  ·obtain⟨b,e,hb⟩:=key j hj ha
   exact⟨b,e,ay hb (hs ⟨j,ha⟩)⟩
  ·obtain⟨b,e,_,hb⟩:=hn ha
   exact⟨_,e,hb⟩
 ·rcases hL j hj with hj | rfl
  ·rcases hL k hk with hk | rfl
   ·rw[hv j hj,hv k hk];exact h.ne j k hj hk h1 h2 h3
   ·obtain⟨b,e,hb⟩:=key j hj h1
    obtain⟨c,e2,hc,_⟩:=hn h2;rw[e,e2];intro e3;injection e3 with e3
    omega
  ·rcases hL k hk with hk | rfl
   ·obtain⟨b,e,hb⟩:=key k hk h2
    obtain⟨c,e2,hc,_⟩:=hn h1;rw[e,e2];intro e3;injection e3 with e3
    omega
   ·exact absurd rfl h3
section
variable {P:A'} {Cl:Bm→Array Value→An→(Bs→An→Prop)→Prop} {Rd:Nat→Bm→Array Value→D0→D0→An→(Bs→An→Prop)→Prop}
  {ops:Array AM} {eff:Nat→Bool} {ck:Nat→Nat} {M:An→An→Prop} {on:Nat→Option Tmp} {EP:Nat→RegG.aU M} {C:An→Prop} {D:Nat→An→Prop} {al:Nat→Bool} {md:DS} {m:Nat}
def cE (P:A') (Cl:Bm->Array Value->An->(Bs->An->Prop)->Prop) (Rd:Nat->Bm->Array Value->D0->D0->An->(Bs->An->Prop)->Prop) (ops:Array AM) (eI:Bool) (m:Nat) (s:Option Tmp) (E:RegG.aU M) (C:An->Prop) (D:Nat->An->Prop) (al:Nat->Bool) (o:AM) (k:Nat) (aR:List (Nat× (An->Prop))) (a:A_) (K:List (Nat× (An->Prop))->A_->Prop):Prop:=
 if As o (yielded ops a.tmps)then
  if eI then(∀ W,C W->D k W->needs m aR W->jB Cl Rd (fun v W'=>fre (al k) (C0 W v W') ((M W W'/\∀ j,j≠k->m.testBit j=AI->D j W->D j W')/\E.P v/\E.H (RegG.eM s a) v W')) ((execOp a.eval o).run P W))/\∀ v,E.P v->K ((k,E.H (RegG.eM s a) v)::aR) (a.put o.dst v)
  else ∃ v,(∀ W,C W->needs m aR W->az P o a v W)/\K aR (a.put o.dst v)
 else K aR (a.put o.dst GB)
def Ot (P:A') (Cl:Bm->Array Value->An->(Bs->An->Prop)->Prop) (Rd:Nat->Bm->Array Value->D0->D0->An->(Bs->An->Prop)->Prop) (ops:Array AM) (eff:Nat->Bool) (ck:Nat->Nat) (on:Nat->Option Tmp) (EP:Nat->RegG.aU M) (C:An->Prop) (D:Nat->An->Prop) (al:Nat->Bool) (Fin:A_->An->Prop):List AM->Nat->List (Nat× (An->Prop))->A_->Prop
 | [],_,aR,a=>∀ W,C W->(∀ x∈aR,x.2 W)->Fin a W
 | o::rest,k,aR,a=>cE P Cl Rd ops (eff k) (ck k) (on k) (EP k) C D al o k aR a (Ot P Cl Rd ops eff ck on EP C D al Fin rest (k+1))
def rT (ops:Array AM) (eff:Nat->Bool) (ck:Nat->Nat) (on:Nat->Option Tmp) (EP:Nat->RegG.aU M) (a:A_) (val:Nat->Value) (i:Nat) (W:An):Prop:=
 ∀ j,j<i->wantedAt ops a val j->eff j=AF->(ck i).testBit j=AF->(EP j).H (RegG.eM (on j) (gq ops a val j)) (val j) W
def xQ (P:A') (Cl:Bm->Array Value->An->(Bs->An->Prop)->Prop) (Rd:Nat->Bm->Array Value->D0->D0->An->(Bs->An->Prop)->Prop) (ops:Array AM) (eI:Bool) (m:Nat) (s:Option Tmp) (E:RegG.aU M) (C:An->Prop) (D:Nat->An->Prop) (al:Nat->Bool) (k:Nat) (o:AM) (f:A_) (v uv:Value) (N:An->Prop):Prop:=
 if As o (yielded ops f.tmps)then
  if eI then v=uv/\∀ W,C W->D k W->N W->jB Cl Rd (fun v W'=>fre (al k) (C0 W v W') ((M W W'/\∀ j,j≠k->m.testBit j=AI->D j W->D j W')/\E.P v/\E.H (RegG.eM s f) v W')) ((execOp f.eval o).run P W)
  else ∀ W,C W->N W->az P o f v W
 else v=GB
def C7 (P:A') (Cl:Bm->Array Value->An->(Bs->An->Prop)->Prop) (Rd:Nat->Bm->Array Value->D0->D0->An->(Bs->An->Prop)->Prop) (ops:Array AM) (eff:Nat->Bool) (ck:Nat->Nat) (on:Nat->Option Tmp) (EP:Nat->RegG.aU M) (C:An->Prop) (D:Nat->An->Prop) (al:Nat->Bool) (a:A_) (u val:Nat->Value) (i:Nat):Prop:=
 ∀ o,ops[i]? =AN o->xQ P Cl Rd ops (eff i) (ck i) (on i) (EP i) C D al i o (gq ops a val i) (val i) (u i) (rT ops eff ck on EP a val i)
theorem pJ {a:A_} {val val':Nat->Value} {i:Nat} (h:∀ k,k<i->val k=val' k):rT ops eff ck on EP a val i=rT ops eff ck on EP a val' i:=by
 funext W
 unfold rT;refine propext (forall_congr' fun j=>forall_congr' fun hj=>?_);rw[jC (val':=val') fun k hk=>h k (by omega),eY j fun k hk=>h k (by omega),h j hj]
theorem Gt {a:A_} {u val val':Nat->Value} {i:Nat} (h:∀ k,k<=i->val k=val' k) (hb:C7 P Cl Rd ops eff ck on EP C D al a u val i):C7 P Cl Rd ops eff ck on EP C D al a u val' i:=fun o ho=>by
 have:=hb o ho;rwa[eY i fun k hk=>h k (by omega),pJ fun k hk=>h k (by omega),h i (aF _)]at this
theorem branch {Fin:A_->An->Prop} {a:A_} {u:Nat->Value} (hu:∀ j,(EP j).P (u j)):∀ (l:List AM) (k:Nat) (val:Nat->Value) (aR:List (Nat× (An->Prop))), k+l.length=m->(∀ j,j<l.length->l[j]? =ops[k+j]?)->(∀ x∈aR,∃ j,j<k/\wantedAt ops a val j/\eff j=AF/\x.1=j/\x.2=(EP j).H (RegG.eM (on j) (gq ops a val j)) (val j))-> (∀ i,i<k->C7 P Cl Rd ops eff ck on EP C D al a u val i)->Ot P Cl Rd ops eff ck on EP C D al Fin l k aR (gq ops a val k)-> ∃ val',(∀ i,i<m->C7 P Cl Rd ops eff ck on EP C D al a u val' i)/\∀ W,C W->(∀ j,j<m->wantedAt ops a val' j->eff j=AF->(EP j).H (RegG.eM (on j) (gq ops a val' j)) (val' j) W)->Fin (gq ops a val' m) W
 | [],k,val,aR,hk,_,hh,hb,h=>by
  obtain rfl:k=m:=by simpa using hk
  refine⟨val,hb,fun W hW hN=>h W hW fun x hx=>?_⟩;obtain⟨j,hj,hw,he,_,hx2⟩:=hh x hx;rw[hx2];exact hN j hj hw he
 | o::l,k,val,aR,hk,hl,hh,hb,h=>by
  have ho:ops[k]? =AN o:=by simpa using(hl 0 (by simp)).symm
  have step:∀ (v:Value) (Jp:List (Nat× (An->Prop))),xQ P Cl Rd ops (eff k) (ck k) (on k) (EP k) C D al k o (gq ops a val k) v (u k) (rT ops eff ck on EP a val k)->
    (∀ x∈Jp,x∈aR\/(As o (yielded ops (gq ops a val k).tmps)=AF/\eff k=AF/\x.1=k/\x.2=(EP k).H (RegG.eM (on k) (gq ops a val k)) v))->Ot P Cl Rd ops eff ck on EP C D al Fin l (k+1) Jp ((gq ops a val k).put o.dst v)->
    ∃ val',(∀ i,i<m->C7 P Cl Rd ops eff ck on EP C D al a u val' i)/\∀ W,C W->(∀ j,j<m->wantedAt ops a val' j->eff j=AF->(EP j).H (RegG.eM (on j) (gq ops a val' j)) (val' j) W)->Fin (gq ops a val' m) W:=by
   intro v Jp j5 hh' ht;obtain⟨KY,VN⟩:=ag (fun j=>if j=k then v else val j:Nat->Value);have e1:∀ j,j<k->val j=KY j:=fun j hj=>by rw[VN];simp[show j≠k by omega]
   have ek:KY k=v:=by rw[VN];simp
   refine branch hu l (k+1) KY Jp (by simp at hk;omega) (fun j hj=>?_) (fun x hx=>?_) (fun i hi=>?_) ?_
   ·have:=hl (j+1) (by simp;omega)
    rw[J_]at this;rw[this];congr 1;omega
   ·rcases hh' x hx with hx | ⟨h1,h2,h3,h4⟩
    ·obtain⟨j,hj,hw,he,h1,h2⟩:=hh x hx
     exact⟨j,by omega,(jC fun i hi=>e1 i (by omega)).1 hw,he,h1,by rw[h2,e1 j hj,eY j fun i hi=>e1 i (by omega)]⟩
    ·exact⟨k,by omega,⟨o,ho,by rw[<-eY k e1];exact h1⟩,h2,h3,by rw[h4,ek,eY k e1]⟩
   ·by_cases hik:i=k
    ·subst hik
     intro o' mL;rw[ho]at mL;cases mL;rw[<-eY i e1,ek, <-pJ e1];exact j5
    ·exact Gt (fun j hj=>e1 j (by omega)) (hb i (by omega))
   ·have:gq ops a KY (k+1)=(gq ops a val k).put o.dst v:=by
     show(gq ops a KY k).put (dD ops k) (KY k)=_;rw[<-eY k e1,ek];unfold dD;rw[ho];rfl
    rw[this];exact ht
  have Ou:∀ W,rT ops eff ck on EP a val k W->needs (ck k) aR W:=fun W hN x hx hm=>by
   obtain⟨j,hj,hw,he,h1,h2⟩:=hh x hx;rw[h2];rw[h1]at hm;exact hN j hj hw he hm
  unfold Ot cE at h;split at h
  ·rename_i hw
   split at h
   ·rename_i he
    refine step (u k) _ ?_ ?_ (h.2 (u k) (hu k))
    ·unfold xQ;rw[if_pos hw,if_pos he];exact⟨rfl,fun W hW hD hN=>h.1 W hW hD (Ou W hN)⟩
    ·intro x hx
     rcases List.mem_cons.1 hx with rfl | hx
     ·exact .inr ⟨hw,he,rfl,rfl⟩
     ·exact .inl hx
   ·rename_i he
    obtain⟨v,h1,h2⟩:=h;refine step v _ ?_ (fun x hx=>.inl hx) h2;unfold xQ;rw[if_pos hw,if_neg he];exact fun W hW hN=>h1 W hW (Ou W hN)
  ·rename_i hw
   refine step GB _ ?_ (fun x hx=>.inl hx) h;unfold xQ;rw[if_neg hw]
variable {S:Nat→(A_→An→Prop)→A_→An→Prop} {Qn:A_→An→Prop}
theorem Ov (nV:∀ (i:Nat) (o:AM),ops[i]? =AN o->al i=AF->eff i=AF/\∀ y,As o y=AF) (hMs:(∃ j,al j=AF)->∀ A B,M A B->A.heap.size<=B.heap.size) (ok:uQ md ops ck m) (so:Gr P Cl Rd ops eff S) (hO:∀ (j t k:Nat),on j=AN t->dD ops k=AN t->k<j->(ck j).testBit k=AF) (hCm:∀ W W',C W->M W W'->C W') {a0:A_} (hT:∀ u:Nat->Value,(∀ j,(EP j).P (u j))->∃ val,(∀ i,i<m->C7 P Cl Rd ops eff ck on EP C D al a0 u val i)/\∀ W,C W->(∀ j,j<m->wantedAt ops a0 val j->eff j=AF->(EP j).H (RegG.eM (on j) (gq ops a0 val j)) (val j) W)->mO al m val->yG S Qn (L_ m (ops.size-m)) (gq ops a0 val m) W): ∀ (fuel:Nat) (listed:Array Bool) (a:A_) (W:An),listed.size=ops.size->listed.toList.count AI<=fuel->C W-> (∀ i j,listed.getD i AI=AF->(ck i).testBit j=AF->listed.getD j AI=AF)->(∀ i,m<=i->listed.getD i AI=AI)->(∀ i,¬listed.getD i AI=AF->i<m->D i W)-> (∃ u val,(∀ j,(EP j).P (u j))/\(∀ i,i<m->C7 P Cl Rd ops eff ck on EP C D al a0 u val i)/\ (∀ W,C W->(∀ j,j<m->wantedAt ops a0 val j->eff j=AF->(EP j).H (RegG.eM (on j) (gq ops a0 val j)) (val j) W)->mO al m val->yG S Qn (L_ m (ops.size-m)) (gq ops a0 val m) W)/\ (∀ j,listed.getD j AI=AF->wantedAt ops a0 val j->eff j=AF->(EP j).H (RegG.eM (on j) (gq ops a0 val j)) (val j) W)/\Jn ops a0 (fun j=>listed.getD j AI=AF) val a/\uS al (fun j=>listed.getD j AI=AF) val W)-> TI S md ops Qn fuel listed a W:=by
 intro fuel;induction fuel with
 | zero=>
  intro listed a W hs hc hC sW Ad mB hex
  -- nothing is left
  obtain⟨u,val,hu,hb,kM,hH,C9,hold⟩:=hex;have hall:∀ j,j<ops.size->listed.getD j AI=true:=fun j hj=>by
   rcases Gs (listed:=listed) (j:=j) (by omega)with h | h
   ·exact h
   ·have h0:listed.toList.count AI=0:=by omega
    rw[List.count_eq_zero]at h0;have FZ:j<listed.size:=by omega
    refine absurd ?_ h0;have:listed[j]=false:=by simpa[FZ]using h
    rw[<-this];exact Array.getElem_mem_toList FZ
  have hm:m=ops.size:=by
   rcases C' m ops.size with h | h
   ·have h1:=hall m h;rw[Ad m (aF _)]at h1;cases h1
   ·have:=ok.le;omega
  have hae:a=gq ops a0 val m:=by
   have h2:=ok.gq a0 val m;have:a.tmps=(gq ops a0 val m).tmps:=I_ fun t=>C9.agree h2 fun j hj=>by
    have hjs:j<ops.size:=by
     rcases C' j ops.size with h | h
     ·exact h
     ·unfold dD at hj;rw[DP h]at hj;cases hj
    exact⟨⟨fun _=>by omega,fun _=>hall j hjs⟩,fun _=>rfl⟩
   cases a
   have hd:=C9.defers.trans h2.defers.symm;cases hf:gq ops a0 val m;rw[hf]at this hd;simp only at this hd;rw[this,hd]
  refine yH ok so 0 ops.size 0 listed a W (by omega) (by omega) (aF _) hs (fun j hj=>⟨fun _=>hj,fun _=>hall j hj⟩) ?_;have:=kM W hC (fun j hj=>hH j (hall j (by omega))) fun j k hj hk=>hold.ne j k (hall j (by omega)) (hall k (by omega))
  rw[hae];rw[hm,Nat.sub_self]at this;rw[hm];exact this
 | succ fuel ih=>
  intro listed a W hs hc hC sW Ad mB hex;obtain⟨u,val,hu,hb,kM,hH,C9,hold⟩:=hex;by_cases hall:∀ j,j<m->listed.getD j AI=AF
  ·have hae:a=gq ops a0 val m:=by
    have h2:=ok.gq a0 val m;have:a.tmps=(gq ops a0 val m).tmps:=I_ fun t=>C9.agree h2 fun j hj=>by
     refine⟨⟨fun hj'=>?_,fun hj'=>hall j hj'⟩,fun _=>rfl⟩;rcases C' j m with h | h
     ·exact h
     ·rw[Ad j h]at hj';cases hj'
    cases a
    have hd:=C9.defers.trans h2.defers.symm;cases hf:gq ops a0 val m;rw[hf]at this hd;simp only at this hd;rw[this,hd]
   have Xo:ops.size-m<=fuel+1:=by
    refine B' ?_ hc;have h1:(listed.toList.drop m).count AI=(listed.toList.drop m).length:=by
     rw[List.count_eq_length];intro b hb';obtain⟨k,hk,rfl⟩:=List.getElem_of_mem hb';rw[List.getElem_drop];have sU:m+k<listed.size:=by simp at hk;omega
     have:=Ad (m+k) (by omega);simp[sU]at this;simp[this]
    have h2:(listed.toList.drop m).count AI<=listed.toList.count false:=List.Sublist.count_le _ (List.drop_sublist _ _);rw[h1]at h2;simp at h2 ⊢;omega
   refine yH ok so (ops.size-m) m (fuel+1) listed a W (aF _) (by have:=ok.le;omega) Xo hs (fun j hj=>⟨fun h=>?_,fun h=>hall j h⟩) ?_
   ·rcases C' j m with h' | h'
    ·exact h'
    ·rw[Ad j h']at h;cases h
   ·rw[hae];exact kM W hC (fun j hj=>hH j (hall j hj)) fun j k hj hk=>hold.ne j k (hall j hj) (hall k hk)
  ·-- AN operation of the free part is still to come
   have hex:∃ j,j<m/\¬listed.getD j AI=true:=by refine F_ fun hno=>hall fun j hj=>F_ fun hn=>hno ⟨j,hj,hn⟩
   refine⟨fun hnil=>?_,fun i hi=>?_⟩
   ·exfalso
    -- the first of them is ready
    have key:∀ k,k<m->¬listed.getD k AI=AF->False:=by
     intro k;induction k using Ly with
     | ind k ihk=>
      intro hk hn;have Tc:k<ops.size:=by have:=ok.le;omega
      have Ae:k<listed.size:=by omega
      have:k∈By md ops listed:=by rw[If];refine⟨by simp[Ae]at hn ⊢;exact hn,_,AT Tc,fun e he hb'=>?_⟩;have hes:=ok.CV k _ (AT Tc) e he hb';exact F_ fun h=>ihk e.on hes (by omega) h
      rw[hnil]at this;cases this
    obtain⟨j,hj,hn⟩:=hex;exact key j hj hn
   ·obtain⟨h1,o,ho,Ow⟩:=If.1 hi
    have TK:i<ops.size:=(AS.1 ho).1;have fT:i<listed.size:=by omega
    have kB:¬listed.getD i AI=true:=by simp[fT]at h1 ⊢;exact h1
    have Gu:∀ j,(ck i).testBit j=AF->listed.getD j AI=true:=fun j hj=>by
     obtain⟨e,he,hb',kA⟩:=ok.sound i o j ho hj;rcases kA with rfl | kA
     ·exact Ow e he hb'
     ·exact sW e.on j (Ow e he hb') kA
    have Xm:i<m:=by
     rcases C' i m with h | h
     ·exact h
     ·exfalso
      obtain⟨j,hj,hn⟩:=hex;exact hn (Gu j (ok.tail i j h TK (by omega)))
    have afZ:dD ops i=o.dst:=by unfold dD;rw[ho];rfl
    -- the frame where it looks
    have oV:∀ t,t∈o.looksAt ops->a.tmps[t]? =(gq ops a0 val i).tmps[t]? :=fun t ht=>C9.agree (ok.gq a0 val i) fun j hj=>by
     obtain⟨k1,k2⟩:=ok.looks i o t j Xm ho ht hj;refine⟨⟨fun FZ=>?_,fun jA=>Gu j (k1 jA)⟩,fun _=>rfl⟩;rcases OR j i with h | h | h
     ·exact h
     ·subst h;exact absurd FZ kB
     ·exact absurd (sW j i FZ (k2 h)) kB
    obtain⟨abB,Xp⟩:=rU (ok.sel i o · · ho) oV;have hN:rT ops eff ck on EP a0 val i W:=fun j _ hw he ha=>hH j (Gu j ha) hw he
    have TN:=hb i Xm o ho
    -- what follows
    have hs':(listed.setIfInBounds i AF).size=ops.size:=by simpa using hs
    have hc':(listed.setIfInBounds i AF).toList.count AI<=fuel:=by rw[Array.toList_setIfInBounds];have:=count_set listed.toList i (by simp[fT]at h1;simp[fT,h1]);omega
    have rV:∀ j,(listed.setIfInBounds i AF).getD j AI=AF↔(listed.getD j AI=AF\/j=i):=fun j=>by
     by_cases mM:i=j
     ·subst mM;simp[fT]
     ·rw[GS AI mM]
      constructor
      ·exact .inl
      ·rintro(h | h)
       ·exact h
       ·exact absurd h.symm mM
    have Gv:∀ k j,(listed.setIfInBounds i AF).getD k AI=AF->(ck k).testBit j=AF->(listed.setIfInBounds i AF).getD j AI=true:=fun k j hk hj=>by
     rw[rV]at hk ⊢;rcases hk with hk | rfl
     ·exact .inl (sW k j hk hj)
     ·exact .inl (Gu j hj)
    have Xq:∀ k,m<=k->(listed.setIfInBounds i AF).getD k AI=false:=fun k hk=>by
     rw[GS AI (by omega)];exact Ad k hk
    have hput:∀ (val':Nat->Value),(∀ j,listed.getD j AI=AF->val' j=val j)->Jn ops a0 (fun j=>(listed.setIfInBounds i AF).getD j AI=AF) val' (a.put o.dst (val' i)):=fun val' hv=>by
     have h0:Jn ops a0 (fun j=>listed.getD j AI=AF) val' a:=⟨C9.defers,C9.size,C9.old,fun j t h1 h2 h3=>by rw[hv j h1];exact C9.new j t h1 h2 h3⟩;have:=h0.put (L':=fun j=>(listed.setIfInBounds i AF).getD j AI=AF) i rV fun j t g1 g2 g3=>by
      rcases OR j i with h | h | h
      ·exact ok.TJ j i t h g2 g3
      ·exact kB (h▸g1)
      ·exact ok.TJ i j t h g3 g2
     rwa[afZ]at this
    unfold xQ at TN;by_cases hw:As o (yielded ops (gq ops a0 val i).tmps)=AF
    ·rw[if_pos hw]at TN
     cases he:eff i with
     | false=>
      rw[he,if_neg (by decide)]at TN;have oW:=TN W hC hN;unfold az at oW;rw[<-abB]at oW;refine so.flt i o _ a W (val i) ho he (by rw[Xp];exact hw) oW ?_;refine ih _ _ W hs' hc' hC Gv Xq (fun j hj F5=>mB j (fun h=>hj ((rV j).2 (.inl h))) F5) ⟨u,val,hu,hb,kM,fun j hj TP Ac=>?_,hput val fun _ _=>rfl,hold.skip (I'.2 fun ha=>by rw[(nV i o ho ha).1]at he;cases he) fun j hj=>(rV j).1 hj⟩;rcases(rV j).1 hj with hj | rfl
      ·exact hH j hj TP Ac
      ·rw[he]at Ac;cases Ac
     | true=>
      rw[he,if_pos rfl]at TN;have hef:=TN.2 W hC (mB i kB Xm) hN;rw[<-abB]at hef;refine so.eff i o _ a W ho he (by rw[Xp];exact hw) (so.VM _ _ _ (fun v W' abC=>?_) hef);obtain⟨⟨Ox,hDv⟩,hPv,hHv⟩:=TL abC
      -- another branch
      obtain⟨u',Xr⟩:=ag (fun j=>if j=i then v else u j:Nat->Value);have hu':∀ j,(EP j).P (u' j):=fun j=>by
       rw[Xr];show(EP j).P (if j=i then v else u j);split
       ·rename_i h;subst h;exact hPv
       ·exact hu j
      obtain⟨val',hb',abD⟩:=hT u' hu';have Cw:=hCm W W' hC Ox;have Da:∀ j,listed.getD j AI=AF->val' j=val j/\(wantedAt ops a0 val' j↔wantedAt ops a0 val j)/\RegG.eM (on j) (gq ops a0 val' j)=RegG.eM (on j) (gq ops a0 val j):=by
       intro j;induction j using Ly with
       | ind j ihj=>
        intro hj;have F5:j<m:=by
         rcases C' j m with h | h
         ·exact h
         ·rw[Ad j h]at hj;cases hj
        have hjs:j<ops.size:=by have:=ok.le;omega
        have xK:=AT hjs;obtain⟨oj,uO⟩:∃ oj,ops[j]? =AN oj:=⟨_,xK⟩;have hlk:∀ t,t∈oj.looksAt ops->(gq ops a0 val' j).tmps[t]? =(gq ops a0 val j).tmps[t]? :=fun t ht=>(ok.gq a0 val' j).agree (ok.gq a0 val j) fun k hk=>by
         refine⟨MY,fun hkj=>(ihj k hkj ?_).1⟩;exact sW j k hj ((ok.looks j oj t k F5 uO ht hk).1 hkj)
        obtain⟨he1,he2⟩:=rU (ok.sel j oj · · uO) hlk;have abF:wantedAt ops a0 val' j↔wantedAt ops a0 val j:=by
         unfold wantedAt;constructor
         ·rintro⟨o1,h1,h2⟩
          rw[uO]at h1;cases h1;exact⟨oj,uO,by rw[<-he2];exact h2⟩
         ·rintro⟨o1,h1,h2⟩
          rw[uO]at h1;cases h1;exact⟨oj,uO,by rw[he2];exact h2⟩
        refine⟨?_,abF,RegG.sV fun t ht=>(ok.gq a0 val' j).agree (ok.gq a0 val j) fun k hk=>⟨MY,fun hkj=>(ihj k hkj (sW j k hj (hO j t k ht hk hkj))).1⟩⟩;have b1:=hb j F5 oj uO;have b2:=hb' j F5 oj uO;unfold xQ at b1 b2;rw[he2]at b2;by_cases TP:As oj (yielded ops (gq ops a0 val j).tmps)=AF
        ·rw[if_pos TP]at b1 b2
         cases Ac:eff j with
         | true=>
          rw[Ac,if_pos rfl]at b1 b2;have jA:j≠i:=fun h=>by subst h;exact kB hj
          rw[b1.1,b2.1,Xr];simp[jA]
         | false=>
          rw[Ac,if_neg (by decide)]at b1 b2;have n1:rT ops eff ck on EP a0 val j W':=fun k hk hwk KP hak=>by
           have Ae:=sW j k hj hak;have hPk:(EP k).P (val k):=by have bk:=hb k (by omega);obtain⟨ok',j5,af1⟩:=hwk;have:=bk ok' j5;unfold xQ at this;rw[if_pos af1,KP,if_pos rfl]at this;rw[this.1];exact hu k
           exact(EP k).st _ _ W W' Ox hPk (hH k Ae hwk KP)
          have n2:rT ops eff ck on EP a0 val' j W':=fun k hk hwk KP hak=>by
           obtain⟨s1,s2,s3⟩:=ihj k hk (sW j k hj hak);rw[s1,s3];exact n1 k hk (s2.1 hwk) KP hak
          have f1:=b1 W' Cw n1;have f2:=b2 W' Cw n2;unfold az at f1 f2;rw[he1]at f2;rcases f1 with f1 | ⟨f1,g1⟩<;>rcases f2 with f2 | ⟨f2,g2⟩<;>rw[f1]at f2
          ·injection f2 with f2 _;injection f2 with f2;exact f2.symm
          ·injection f2 with f2 _;cases f2
          ·injection f2 with f2 _;cases f2
          ·rw[g1,g2]
        ·rw[if_neg TP]at b1 b2
         rw[b1,b2]
      have af2:RegG.eM (on i) (gq ops a0 val' i)=RegG.eM (on i) (gq ops a0 val i):=RegG.sV fun t ht=>(ok.gq a0 val' i).agree (ok.gq a0 val i) fun k hk=>
        ⟨MY,fun ed=>(Da k (Gu k (hO i t k ht hk ed))).1⟩
      have hvi:val' i=v:=by
       have b2:=hb' i Xm o ho;have hlk:∀ t,t∈o.looksAt ops->(gq ops a0 val' i).tmps[t]? =(gq ops a0 val i).tmps[t]? :=fun t ht=>(ok.gq a0 val' i).agree (ok.gq a0 val i) fun k hk=>
        ⟨MY,fun ed=>(Da k (Gu k ((ok.looks i o t k Xm ho ht hk).1 ed))).1⟩
       obtain⟨_,he2⟩:=rU (ok.sel i o · · ho) hlk;unfold xQ at b2;rw[he2,if_pos hw,he,if_pos rfl]at b2;rw[b2.1,Xr];simp
      have:=hput val' fun j hj=>(Da j hj).1
      rw[hvi]at this;refine ih _ _ W' hs' hc' Cw Gv Xq (fun j hj F5=>hDv j (fun e=>hj ((rV j).2 (.inr e))) (I'.2 fun e=>hj ((rV j).2 (.inl (Gu j e)))) (mB j (fun h=>hj ((rV j).2 (.inl h))) F5)) ⟨u',val',hu',hb',abD,fun j hj TP Ac=>?_,this,hold.step (fun h=>hMs h _ _ Ox) (fun j hj=>(rV j).1 hj) (fun j hj=>(Da j hj).1) (fun ha=>by rw[hvi];exact TM ha abC)⟩;rcases(rV j).1 hj with hj | rfl
      ·obtain⟨s1,s2,s3⟩:=Da j hj
       have abG:=s2.1 TP;have hPj:(EP j).P (val j):=by
        have F5:j<m:=by
         rcases C' j m with h | h
         ·exact h
         ·rw[Ad j h]at hj;cases hj
        obtain⟨oj,xK,Xs⟩:=abG;have:=hb j F5 oj xK;unfold xQ at this;rw[if_pos Xs,Ac,if_pos rfl]at this;rw[this.1];exact hu j
       rw[s1,s3];exact(EP j).st _ _ W W' Ox hPj (hH j hj abG Ac)
      ·rw[hvi,af2];exact hHv
    ·rw[if_neg hw]at TN
     have hwf:As o (yielded ops a.tmps)=false:=by rw[Xp];simpa using hw
     refine so.un i o _ a W ho hwf ?_;have h0:=hput val fun _ _=>rfl
     rw[TN]at h0;refine ih _ _ W hs' hc' hC Gv Xq (fun j hj F5=>mB j (fun h=>hj ((rV j).2 (.inl h))) F5) ⟨u,val,hu,hb,kM,fun j hj TP Ac=>?_,h0,hold.skip (I'.2 fun ha=>hw ((nV i o ho ha).2 _)) fun j hj=>(rV j).1 hj⟩;rcases(rV j).1 hj with hj | rfl
     ·exact hH j hj TP Ac
     ·obtain⟨oj,xK,Xs⟩:=TP
      rw[ho]at xK;cases xK;exact absurd Xs hw
end
section
variable {P:A'} {Cl:Bm→Array Value→An→(Bs→An→Prop)→Prop} {Rd:Nat→Bm→Array Value→D0→D0→An→(Bs→An→Prop)→Prop}
  {ops:Array AM} {eff:Nat→Bool} {ck:Nat→Nat} {M:An→An→Prop} {on:Nat→Option Tmp} {EP:Nat→RegG.aU M} {C:An→Prop} {D:Nat→An→Prop} {al:Nat→Bool} {Fin:List AM→A_→An→Prop}
def fJ (P:A') (Cl:Bm->Array Value->An->(Bs->An->Prop)->Prop) (Rd:Nat->Bm->Array Value->D0->D0->An->(Bs->An->Prop)->Prop) (ops:Array AM) (eff:Nat->Bool) (ck:Nat->Nat) (on:Nat->Option Tmp) (EP:Nat->RegG.aU M) (C:An->Prop) (D:Nat->An->Prop) (al:Nat->Bool) (Fin:List AM->A_->An->Prop):Nat->List AM->Nat->List (Nat× (An->Prop))->A_->Prop
 | 0,l,_,aR,a=>∀ W,C W->(∀ x∈aR,x.2 W)->Fin l a W
 | _+1,[],_,_,_=>False
 | m+1,o::rest,k,aR,a=>cE P Cl Rd ops (eff k) (ck k) (on k) (EP k) C D al o k aR a (fJ P Cl Rd ops eff ck on EP C D al Fin m rest (k+1))
theorem Gw {eI:Bool} {m:Nat} {s:Option Tmp} {E:RegG.aU M} {o:AM} {k:Nat} {aR:List (Nat× (An->Prop))} {a:A_} {K K':List (Nat× (An->Prop))->A_->Prop} (h:∀ hi a,K hi a->K' hi a) (hh:cE P Cl Rd ops eI m s E C D al o k aR a K):cE P Cl Rd ops eI m s E C D al o k aR a K':=by
 unfold cE at*;split
 ·rename_i hw
  rw[if_pos hw]at hh;split
  ·rename_i he
   rw[if_pos he]at hh;exact⟨hh.1,fun v hv=>h _ _ (hh.2 v hv)⟩
  ·rename_i he
   rw[if_neg he]at hh;obtain⟨v,h1,h2⟩:=hh;exact⟨v,h1,h _ _ h2⟩
 ·rename_i hw
  rw[if_neg hw]at hh;exact h _ _ hh
theorem qF:∀ (m:Nat) (l:List AM) (k:Nat) (aR:List (Nat× (An->Prop))) (a:A_),fJ P Cl Rd ops eff ck on EP C D al Fin m l k aR a->Ot P Cl Rd ops eff ck on EP C D al (Fin (l.drop m)) (l.take m) k aR a
 | 0,l,_,_,_,h=>by rw[List.take_zero,List.drop_zero];exact h
 | m+1,[],_,_,_,h=>h.elim
 | m+1,o::l,k,aR,a,h=>by
  rw[List.take_succ_cons,List.drop_succ_cons];exact Gw (fun hi a h=>qF m l (k+1) hi a h) h
theorem au {m:Nat} {o:AM} {rest:List AM} {k:Nat} {aR:List (Nat× (An->Prop))} {a:A_} (h:∀ K:List (Nat× (An->Prop))->A_->Prop,(∀ hi a,ee (fJ P Cl Rd ops eff ck on EP C D al Fin m rest (k+1) hi a)->K hi a)->cE P Cl Rd ops (eff k) (ck k) (on k) (EP k) C D al o k aR a K):ee (fJ P Cl Rd ops eff ck on EP C D al Fin (m+1) (o::rest) k aR a):=
 ⟨h _ fun _ _ h=>h.out⟩
theorem bC {l:List AM} {k:Nat} {aR:List (Nat× (An->Prop))} {a:A_} (h:∀ W,C W->(∀ x∈aR,x.2 W)->Fin l a W):ee (fJ P Cl Rd ops eff ck on EP C D al Fin 0 l k aR a):=⟨h⟩
theorem bJ {eI:Bool} {m:Nat} {s:Option Tmp} {E:RegG.aU M} {o:AM} {k:Nat} {aR:List (Nat× (An->Prop))} {a:A_} {K:List (Nat× (An->Prop))->A_->Prop} (he:eI=AI) (hw:As o (yielded ops a.tmps)=AF) (h:∃ v,(∀ W: {W//C W},az P o a v W.1)/\K aR (a.put o.dst v)):cE P Cl Rd ops eI m s E C D al o k aR a K:=by subst he;unfold cE;rw[if_pos hw,if_neg (by decide)];obtain⟨v,h1,h2⟩:=h;exact⟨v,fun W hW _=>h1 ⟨W,hW⟩,h2⟩
theorem Db {eI:Bool} {m:Nat} {s:Option Tmp} {E:RegG.aU M} {o:AM} {k:Nat} {aR:List (Nat× (An->Prop))} {a:A_} {K:List (Nat× (An->Prop))->A_->Prop} (he:eI=AI) (hw:As o (yielded ops a.tmps)=AF) (v:Value) (h1:∀ W,C W->needs m aR W->az P o a v W) (h2:K aR (a.put o.dst v)):cE P Cl Rd ops eI m s E C D al o k aR a K:=by subst he;unfold cE;rw[if_pos hw,if_neg (by decide)];exact⟨v,h1,h2⟩
theorem bS {eI:Bool} {m:Nat} {s:Option Tmp} {E:RegG.aU M} {o:AM} {k:Nat} {aR:List (Nat× (An->Prop))} {a:A_} {K:List (Nat× (An->Prop))->A_->Prop} (he:eI=AF) (hw:As o (yielded ops a.tmps)=AF) (E':RegG.aU M) (hE:E=E') (h1:∀ W,C W->D k W->needs m aR W->jB Cl Rd (fun v W'=>fre (al k) (C0 W v W') ((M W W'/\∀ j,j≠k->m.testBit j=AI->D j W->D j W')/\E'.P v/\E'.H (RegG.eM s a) v W')) ((execOp a.eval o).run P W)) (h2:∀ v,E'.P v->K ((k,E'.H (RegG.eM s a) v)::aR) (a.put o.dst v)):cE P Cl Rd ops eI m s E C D al o k aR a K:=by subst he hE;unfold cE;rw[if_pos hw,if_pos rfl];exact⟨h1,h2⟩
theorem bL {eI:Bool} {m:Nat} {s:Option Tmp} {E:RegG.aU M} {o:AM} {k:Nat} {aR:List (Nat× (An->Prop))} {a:A_} {K:List (Nat× (An->Prop))->A_->Prop} (hw:As o (yielded ops a.tmps)=AI) (h:K aR (a.put o.dst GB)):cE P Cl Rd ops eI m s E C D al o k aR a K:=by unfold cE;rw[hw,if_neg (by decide)];exact h
end
def Oy (ops:Array AM) (eff:Nat->Bool) (al:List Nat) (m:Nat):Bool:=
 al.all fun i=>decide (i<m)&&eff i&&match ops[i]? with
  | none=>AI
  | some o=>o.guard.isNone
theorem uT {ops:Array AM} {eff:Nat->Bool} {al:List Nat} {m:Nat} (h:Oy ops eff al m=AF) (i:Nat) (hi:al.contains i=AF):i<m/\eff i=AF/\∃ o,ops[i]? =AN o/\o.guard=none:=by
 have h1:=DQ.1 h i (L7.1 hi);simp only[DE,decide_eq_true_eq]at h1;obtain⟨⟨h1,h2⟩,h3⟩:=h1;refine⟨h1,h2,?_⟩;split at h3
 ·cases h3
 ·rename_i o ho
  exact⟨o,ho,Option.isNone_iff_eq_none.1 h3⟩
def Af (ops:Array AM) (al:List Nat) (a:A_):Prop:=∀ i j s t u v,al.contains i=AF->al.contains j=AF->i≠j->dD ops i=AN s->dD ops j=AN t->s<a.tmps.size->t<a.tmps.size->a.tmps[s]? =AN u->a.tmps[t]? =AN v->KU u≠KU v
theorem jD {P:A'} {id:Nat} {Q:NX->A_->An->Prop} {a:A_} {w:An} {l:List AM} (M:An->An->Prop) (hd:M w w.drew) (Xt:∀ A B C,M A B->M B C->M A C) (hm:P.follows .mixedOrders=AF) (m:Nat) (ck:List Nat) (eff:Nat->Bool) (hB:mN .any l.toArray ck m=AF) (on:Nat->Option Tmp) (hz:∀ j,l.toArray.size<=j->on j=D_) (hO:RegG.Jo l.toArray ck on=AF) (EP:Nat->RegG.aU M) (D:Nat->An->Prop) (hD0:∀ j,j<m->D j w.drew) (al:List Nat) (alf:Nat->Bool) (hA:Oy l.toArray eff al m=AF) (hf:∀ j,alf j=al.contains j) (hMs:(∃ j,alf j=AF)->∀ A B,M A B->A.heap.size<=B.heap.size) (Fin:List AM->A_->An->Prop) (hF:∀ r a W,Af l.toArray al a->Fin r a W->wpList P l.toArray Q r a W) (h:∀ C:An->Prop,(∀ W,C W↔M w W)->Nonempty {W//C W} ->ee (fJ P (EV P) gg l.toArray eff (fun i=>ck.getD i 0) on EP C D alf Fin m l 0 [] a)):(Ft id l.toArray AF).wp P Q a w:=by
 have ok:=KQ hB;have h0:M w w.drew:=hd;have hT:=qF m l 0 [] a (h (M w) (fun _=>MY) ⟨⟨_,h0⟩⟩).out;have oL:m<=l.length:=by have:=ok.le;simpa using this
 have hbr:∀ u:Nat->Value,(∀ j,(EP j).P (u j))->∃ val,(∀ i,i<m->C7 P (EV P) gg l.toArray eff (fun i=>ck.getD i 0) on EP (M w) D alf a u val i)/\
   ∀ W,M w W->(∀ j,j<m->wantedAt l.toArray a val j->eff j=AF->(EP j).H (RegG.eM (on j) (gq l.toArray a val j)) (val j) W)->mO alf m val->yG (wpOp P l.toArray Q) (fun a w=>Q .normal a w) (L_ m (l.toArray.size-m)) (gq l.toArray a val m) W:=fun u hu=>by
  obtain⟨val,h1,h2⟩:=branch (ops:=l.toArray) (m:=m) (a:=a) hu (l.take m) 0 (fun _=>GB) [] (by rw[Q_];omega) (fun j hj=>by rw[Q_]at hj;simp[List.getElem?_take];omega) (fun x hx=>by cases hx) (fun i hi=>by omega) hT;refine⟨val,h1,fun W hW hN hap=>yI _ _ _ (fun i hi=>?_) ?_⟩
  ·have:=(List.mem_range'.1 hi)
   obtain⟨k,hk,rfl⟩:=this;simp only[O_]at*;omega
  ·have:=wpOps_eq_wpList (P:=P) (ops:=l.toArray) (Q:=Q) (l.drop m) m (fun j=>by simp[List.getElem?_drop])
   rw[List.length_drop]at this;simp only[O_];rw[this];refine hF _ _ _ (fun i j s t u v hi hj mM hs ht h3 h4 h5 h6=>?_) (h2 W hW hN);have C9:=ok.gq a val m;rw[C9.size]at h3 h4;have hi2:=(uT hA i hi).1;have kN:=(uT hA j hj).1;rw[C9.new i s hi2 hs h3]at h5;rw[C9.new j t kN ht h4]at h6;cases h5;cases h6;exact hap i j hi2 kN (by rw[hf];exact hi) (by rw[hf];exact hj) mM
 have hno:∀ j,(IN l.toArray.size AI).getD j AI=false:=fun j=>by
  rcases C' j l.length with h | h
  ·simp[h]
  ·simp[Nat.not_lt.2 h]
 refine wp_region_any hm (uR _ _ _ _ ?_)
 refine Ov (eff:=eff) (on:=on) (EP:=EP) (C:=M w) (D:=D) (al:=alf) (fun i o ho ha=>by
  obtain⟨_,h1,o',mL,hg⟩:=uT hA i (by rw[<-hf];exact ha);rw[ho]at mL;cases mL
  exact⟨h1,fun y=>by unfold As;rw[hg]⟩) hMs ok CY (RegG.Oq hz hO) (fun W W' h h'=>Xt _ _ _ h h') (a0:=a) hbr _ _ _ _ (by simp) (by simp) h0 (fun i j hi=>by rw[hno]at hi;cases hi) (fun i _=>hno i) (fun i _ hi=>hD0 i hi) ?_
 obtain⟨val,h1,h2⟩:=hbr (fun j=>(EP j).nU) (fun j=>(EP j).pw);exact⟨_,val,fun j=>(EP j).pw,h1,h2,fun j hj=>by(rw[hno]at hj;cases hj),Jn.start a _ (fun j hj=>by(rw[hno]at hj;cases hj)),⟨fun j hj=>by(rw[hno]at hj;cases hj),fun j _ hj=>by(rw[hno]at hj;cases hj)⟩⟩
end Go.Proofs.YtjgccapbphadjaaGreatDoor.fI
namespace Go.Proofs.YtjgccapbphadjaaGreatDoor
open Go Go.RowKit
theorem nW {P:A'} {p q:Value->An->Prop} (h:∀ v W,p v W->q v W):∀ {r:O' SO},jB (EV P) gg p r->jB (EV P) gg q r
 | .ok (.value _) _,hr=>h _ _ hr
 | .ok .skip _,hr=>h _ _ hr
 | .ok (.enter _ _) _,hr=>Calls.mono hr fun _ _ ⟨v,e,hv⟩=>⟨v,e,h _ _ hv⟩
 | .ok (.round _ _ _ _ _) _,hr=>nomatch hr
end Go.Proofs.YtjgccapbphadjaaGreatDoor
namespace Go.Proofs.YtjgccapbphadjaaGreatDoor.RegQ
open Go Go.RowKit
def up {M:An->An->Prop} (E:aU M):RegG.aU M:=⟨E.P,fun _=>E.H,E.nU,E.pw,fun _ v W W'=>E.st v W W'⟩
def fJ {M:An->An->Prop} (P:A') (Cl:Bm->Array Value->An->(Bs->An->Prop)->Prop) (Rd:Nat->Bm->Array Value->D0->D0->An->(Bs->An->Prop)->Prop) (ops:Array AM) (eff:Nat->Bool) (ck:Nat->Nat) (EP:Nat->aU M) (C:An->Prop) (D:Nat->An->Prop) (Fin:List AM->A_->An->Prop) (n:Nat) (l:List AM) (k:Nat) (aR:List (Nat× (An->Prop))) (a:A_):Prop:=
 fI.fJ P Cl Rd ops eff ck (fun _=>D_) (fun i=>up (EP i)) C D (fun _=>AI) Fin n l k aR a
def cE {M:An->An->Prop} (P:A') (Cl:Bm->Array Value->An->(Bs->An->Prop)->Prop) (Rd:Nat->Bm->Array Value->D0->D0->An->(Bs->An->Prop)->Prop) (ops:Array AM) (eI:Bool) (m:Nat) (E:aU M) (C:An->Prop) (D:Nat->An->Prop) (o:AM) (k:Nat) (aR:List (Nat× (An->Prop))) (a:A_) (K:List (Nat× (An->Prop))->A_->Prop):Prop:=
 fI.cE P Cl Rd ops eI m D_ (up E) C D (fun _=>AI) o k aR a K
section
variable {P:A'} {Cl:Bm→Array Value→An→(Bs→An→Prop)→Prop} {Rd:Nat→Bm→Array Value→D0→D0→An→(Bs→An→Prop)→Prop}
  {ops:Array AM} {eff:Nat→Bool} {ck:Nat→Nat} {M:An→An→Prop} {on:Nat→Option Tmp} {EP:Nat→aU M} {C:An→Prop} {D:Nat→An→Prop} {Fin:List AM→A_→An→Prop} {eI:Bool} {m:Nat} {s:Option Tmp} {E:aU M} {o:AM} {k:Nat} {aR:List (Nat× (An→Prop))} {a:A_} {K:List (Nat× (An→Prop))→A_→Prop} {l:List AM}
theorem au (h:∀ K:List (Nat× (An->Prop))->A_->Prop,(∀ hi a,ee (fJ P Cl Rd ops eff ck EP C D Fin m l (k+1) hi a)->K hi a)->cE P Cl Rd ops (eff k) (ck k) (EP k) C D o k aR a K):ee (fJ P Cl Rd ops eff ck EP C D Fin (m+1) (o::l) k aR a):=
 ⟨(fI.au (D:=D) (al:=fun _=>AI) (on:=(fun _=>D_)) fun K hK=>h K fun hi a hl=>hK hi a ⟨hl.out⟩).out⟩
theorem bC (h:∀ W,C W->(∀ x∈aR,x.2 W)->Fin l a W):ee (fJ P Cl Rd ops eff ck EP C D Fin 0 l k aR a):=⟨h⟩
theorem bJ (he:eI=AI) (hw:As o (yielded ops a.tmps)=AF) (h:∃ v,(∀ W: {W//C W},az P o a v W.1)/\K aR (a.put o.dst v)):cE P Cl Rd ops eI m E C D o k aR a K:=fI.bJ he hw h
theorem Db (he:eI=AI) (hw:As o (yielded ops a.tmps)=AF) (v:Value) (h1:∀ W,C W->needs m aR W->az P o a v W) (h2:K aR (a.put o.dst v)):cE P Cl Rd ops eI m E C D o k aR a K:=fI.Db he hw v h1 h2
theorem bS (he:eI=AF) (hw:As o (yielded ops a.tmps)=AF) (E':aU M) (hE:E=E') (h1:∀ W,C W->D k W->needs m aR W->jB Cl Rd (fun v W'=>(M W W'/\∀ j,j≠k->m.testBit j=AI->D j W->D j W')/\E'.P v/\E'.H v W') ((execOp a.eval o).run P W)) (h2:∀ v,E'.P v->K ((k,E'.H v)::aR) (a.put o.dst v)):cE P Cl Rd ops eI m E C D o k aR a K:=
 fI.bS (al:=fun _=>AI) (s:=D_) he hw (up E') (by rw[hE]) h1 h2
theorem bL (hw:As o (yielded ops a.tmps)=AI) (h:K aR (a.put o.dst GB)):cE P Cl Rd ops eI m E C D o k aR a K:=fI.bL hw h
end
theorem br {P:A'} {id:Nat} {Q:NX->A_->An->Prop} {a:A_} {w:An} {l:List AM} (M:An->An->Prop) (hd:M w w.drew) (Xt:∀ A B C,M A B->M B C->M A C) (hm:P.follows .mixedOrders=AF) (m:Nat) (ck:List Nat) (eff:Nat->Bool) (hB:mN .any l.toArray ck m=AF) (EP:Nat->aU M) (D:Nat->An->Prop) (hD0:∀ j,j<m->D j w.drew) (h:∀ C:An->Prop,(∀ W,C W↔M w W)->Nonempty {W//C W} ->ee (fJ P (EV P) gg l.toArray eff (fun i=>ck.getD i 0) EP C D (fun r a W=>wpList P l.toArray Q r a W) m l 0 [] a)):(Ft id l.toArray AF).wp P Q a w:=
 fI.jD M hd Xt hm m ck eff hB (fun _=>D_) (fun _ _=>rfl) (DQ.2 fun _ _=>DQ.2 fun _ _=>rfl) (fun i=>up (EP i)) D hD0 [] (fun _=>AI) rfl (fun _=>rfl) (fun h=>by obtain⟨_,h⟩:=h;cases h) _ (fun _ _ _ _ h=>h) fun C hC hne=>⟨(h C hC hne).out⟩
end Go.Proofs.YtjgccapbphadjaaGreatDoor.RegQ
namespace Go.Proofs.YtjgccapbphadjaaGreatDoor.RegG
open Go Go.RowKit
def fJ {M:An->An->Prop} (P:A') (Cl:Bm->Array Value->An->(Bs->An->Prop)->Prop) (Rd:Nat->Bm->Array Value->D0->D0->An->(Bs->An->Prop)->Prop) (ops:Array AM) (eff:Nat->Bool) (ck:Nat->Nat) (on:Nat->Option Tmp) (EP:Nat->aU M) (C:An->Prop) (Fin:List AM->A_->An->Prop) (n:Nat) (l:List AM) (k:Nat) (aR:List (Nat× (An->Prop))) (a:A_):Prop:=
 fI.fJ P Cl Rd ops eff ck on EP C (fun _ _=>True) (fun _=>AI) Fin n l k aR a
def cE {M:An->An->Prop} (P:A') (Cl:Bm->Array Value->An->(Bs->An->Prop)->Prop) (Rd:Nat->Bm->Array Value->D0->D0->An->(Bs->An->Prop)->Prop) (ops:Array AM) (eI:Bool) (m:Nat) (s:Option Tmp) (E:aU M) (C:An->Prop) (o:AM) (k:Nat) (aR:List (Nat× (An->Prop))) (a:A_) (K:List (Nat× (An->Prop))->A_->Prop):Prop:=
 fI.cE P Cl Rd ops eI m s E C (fun _ _=>True) (fun _=>AI) o k aR a K
section
variable {P:A'} {Cl:Bm→Array Value→An→(Bs→An→Prop)→Prop} {Rd:Nat→Bm→Array Value→D0→D0→An→(Bs→An→Prop)→Prop}
  {ops:Array AM} {eff:Nat→Bool} {ck:Nat→Nat} {M:An→An→Prop} {on:Nat→Option Tmp} {EP:Nat→aU M} {C:An→Prop} {D:Nat→An→Prop} {Fin:List AM→A_→An→Prop} {eI:Bool} {m:Nat} {s:Option Tmp} {E:aU M} {o:AM} {k:Nat} {aR:List (Nat× (An→Prop))} {a:A_} {K:List (Nat× (An→Prop))→A_→Prop} {l:List AM}
theorem au (h:∀ K:List (Nat× (An->Prop))->A_->Prop,(∀ hi a,ee (fJ P (EV P) gg ops eff ck on EP C Fin m l (k+1) hi a)->K hi a)->cE P (EV P) gg ops (eff k) (ck k) (on k) (EP k) C o k aR a K):ee (fJ P (EV P) gg ops eff ck on EP C Fin (m+1) (o::l) k aR a):=
 ⟨(fI.au (D:=(fun _ _=>True)) (al:=fun _=>AI) (on:=on) fun K hK=>h K fun hi a hl=>hK hi a ⟨hl.out⟩).out⟩
theorem bC (h:∀ W,C W->(∀ x∈aR,x.2 W)->Fin l a W):ee (fJ P (EV P) gg ops eff ck on EP C Fin 0 l k aR a):=⟨h⟩
theorem bJ (he:eI=AI) (hw:As o (yielded ops a.tmps)=AF) (h:∃ v,(∀ W: {W//C W},az P o a v W.1)/\K aR (a.put o.dst v)):cE P (EV P) gg ops eI m s E C o k aR a K:=fI.bJ he hw h
theorem bS (he:eI=AF) (hw:As o (yielded ops a.tmps)=AF) (E':aU M) (hE:E=E') (h1:∀ W,C W->needs m aR W->jB (EV P) gg (fun v W'=>M W W'/\E'.P v/\E'.H (eM s a) v W') ((execOp a.eval o).run P W)) (h2:∀ v,E'.P v->K ((k,E'.H (eM s a) v)::aR) (a.put o.dst v)):cE P (EV P) gg ops eI m s E C o k aR a K:=
 fI.bS (al:=fun _=>AI) he hw E' hE (fun W hW _ hN=>nW (fun _ _ ⟨h1,h2⟩=>⟨⟨h1,fun _ _ _ _=>trivial⟩,h2⟩) (h1 W hW hN)) h2
end
theorem br {P:A'} {id:Nat} {Q:NX->A_->An->Prop} {a:A_} {w:An} {l:List AM} (M:An->An->Prop) (hd:M w w.drew) (Xt:∀ A B C,M A B->M B C->M A C) (hm:P.follows .mixedOrders=AF) (m:Nat) (ck:List Nat) (eff:Nat->Bool) (hB:mN .any l.toArray ck m=AF) (on:Nat->Option Tmp) (hz:∀ j,l.toArray.size<=j->on j=D_) (hO:Jo l.toArray ck on=AF) (EP:Nat->aU M) (h:∀ C:An->Prop,(∀ W,C W↔M w W)->Nonempty {W//C W} ->ee (fJ P (EV P) gg l.toArray eff (fun i=>ck.getD i 0) on EP C (fun r a W=>wpList P l.toArray Q r a W) m l 0 [] a)):(Ft id l.toArray AF).wp P Q a w:=
 fI.jD M hd Xt hm m ck eff hB on hz hO EP (fun _ _=>True) (fun _ _=>trivial) [] (fun _=>AI) rfl (fun _=>rfl) (fun h=>by obtain⟨_,h⟩:=h;cases h) _ (fun _ _ _ _ h=>h) fun C hC hne=>⟨(h C hC hne).out⟩
end Go.Proofs.YtjgccapbphadjaaGreatDoor.RegG
namespace Go.Proofs.YtjgccapbphadjaaGreatDoor
open Go Go.RowKit
section
variable {P:A'} {ops:Array AM} {eff:Nat→Bool} {ck:Nat→Nat} {M:An→An→Prop} {EP:Nat→aU M} {C:An→Prop} {Fin:List AM→A_→An→Prop}
def fJ (P:A') (Cl:Bm->Array Value->An->(Bs->An->Prop)->Prop) (Rd:Nat->Bm->Array Value->D0->D0->An->(Bs->An->Prop)->Prop) (ops:Array AM) (eff:Nat->Bool) (ck:Nat->Nat) (EP:Nat->aU M) (C:An->Prop) (Fin:List AM->A_->An->Prop) (n:Nat) (l:List AM) (k:Nat) (aR:List (Nat× (An->Prop))) (a:A_):Prop:=
 RegQ.fJ P Cl Rd ops eff ck EP C (fun _ _=>True) Fin n l k aR a
def cE (P:A') (Cl:Bm->Array Value->An->(Bs->An->Prop)->Prop) (Rd:Nat->Bm->Array Value->D0->D0->An->(Bs->An->Prop)->Prop) (ops:Array AM) (eI:Bool) (m:Nat) (E:aU M) (C:An->Prop) (o:AM) (k:Nat) (aR:List (Nat× (An->Prop))) (a:A_) (K:List (Nat× (An->Prop))->A_->Prop):Prop:=
 RegQ.cE P Cl Rd ops eI m E C (fun _ _=>True) o k aR a K
theorem au {m:Nat} {o:AM} {rest:List AM} {k:Nat} {aR:List (Nat× (An->Prop))} {a:A_} (h:∀ K:List (Nat× (An->Prop))->A_->Prop,(∀ hi a,ee (fJ P (EV P) gg ops eff ck EP C Fin m rest (k+1) hi a)->K hi a)->cE P (EV P) gg ops (eff k) (ck k) (EP k) C o k aR a K):ee (fJ P (EV P) gg ops eff ck EP C Fin (m+1) (o::rest) k aR a):=
 ⟨(RegQ.au (D:=fun _ _=>True) fun K hK=>h K fun hi a hl=>hK hi a ⟨hl.out⟩).out⟩
theorem bC {l:List AM} {k:Nat} {aR:List (Nat× (An->Prop))} {a:A_} (h:∀ W,C W->(∀ x∈aR,x.2 W)->Fin l a W):ee (fJ P (EV P) gg ops eff ck EP C Fin 0 l k aR a):=⟨h⟩
theorem bJ {eI:Bool} {m:Nat} {E:aU M} {o:AM} {k:Nat} {aR:List (Nat× (An->Prop))} {a:A_} {K:List (Nat× (An->Prop))->A_->Prop} (he:eI=AI) (hw:As o (yielded ops a.tmps)=AF) (h:∃ v,(∀ W: {W//C W},az P o a v W.1)/\K aR (a.put o.dst v)):cE P (EV P) gg ops eI m E C o k aR a K:=RegQ.bJ he hw h
theorem Db {eI:Bool} {m:Nat} {E:aU M} {o:AM} {k:Nat} {aR:List (Nat× (An->Prop))} {a:A_} {K:List (Nat× (An->Prop))->A_->Prop} (he:eI=AI) (hw:As o (yielded ops a.tmps)=AF) (v:Value) (h1:∀ W,C W->needs m aR W->az P o a v W) (h2:K aR (a.put o.dst v)):cE P (EV P) gg ops eI m E C o k aR a K:=RegQ.Db he hw v h1 h2
theorem bS {eI:Bool} {m:Nat} {E:aU M} {o:AM} {k:Nat} {aR:List (Nat× (An->Prop))} {a:A_} {K:List (Nat× (An->Prop))->A_->Prop} (he:eI=AF) (hw:As o (yielded ops a.tmps)=AF) (E':aU M) (hE:E=E') (h1:∀ W,C W->needs m aR W->jB (EV P) gg (fun v W'=>M W W'/\E'.P v/\E'.H v W') ((execOp a.eval o).run P W)) (h2:∀ v,E'.P v->K ((k,E'.H v)::aR) (a.put o.dst v)):cE P (EV P) gg ops eI m E C o k aR a K:=
 RegQ.bS he hw E' hE (fun W hW _ hN=>nW (fun _ _ ⟨h1,h2⟩=>⟨⟨h1,fun _ _ _ _=>trivial⟩,h2⟩) (h1 W hW hN)) h2
theorem bL {eI:Bool} {m:Nat} {E:aU M} {o:AM} {k:Nat} {aR:List (Nat× (An->Prop))} {a:A_} {K:List (Nat× (An->Prop))->A_->Prop} (hw:As o (yielded ops a.tmps)=AI) (h:K aR (a.put o.dst GB)):cE P (EV P) gg ops eI m E C o k aR a K:=RegQ.bL hw h
end
theorem br {P:A'} {id:Nat} {Q:NX->A_->An->Prop} {a:A_} {w:An} {l:List AM} (M:An->An->Prop) (hd:M w w.drew) (Xt:∀ A B C,M A B->M B C->M A C) (hm:P.follows .mixedOrders=AF) (m:Nat) (ck:List Nat) (eff:Nat->Bool) (hB:mN .any l.toArray ck m=AF) (EP:Nat->aU M) (h:∀ C:An->Prop,(∀ W,C W↔M w W)->Nonempty {W//C W} ->ee (fJ P (EV P) gg l.toArray eff (fun i=>ck.getD i 0) EP C (fun r a W=>wpList P l.toArray Q r a W) m l 0 [] a)):(Ft id l.toArray AF).wp P Q a w:=
 RegQ.br M hd Xt hm m ck eff hB EP (fun _ _=>True) (fun _ _=>trivial) fun C hC hne=>⟨(h C hC hne).out⟩
theorem aI {P:A'} {id:Nat} {Q:NX->A_->An->Prop} {a:A_} {w:An} {l:List AM} (d:Bool) (T:Nat->Prop) (hm:P.follows .mixedOrders=AF) (m:Nat) (ck:List Nat) (eff:Nat->Bool) (hB:mN .any l.toArray ck m=AF) (EP:Nat->aU (Move d T)) (h:∀ C:An->Prop,(∀ W,C W↔Move d T w W)->Nonempty {W//C W} ->ee (fJ P (EV P) gg l.toArray eff (fun i=>ck.getD i 0) EP C (fun r a W=>wpList P l.toArray Q r a W) m l 0 [] a)):(Ft id l.toArray AF).wp P Q a w:=
 br (Move d T) (Move.ext (Ext.refl w).drew) (fun _ _ _ h k=>h.trans k) hm m ck eff hB EP h
end Go.Proofs.YtjgccapbphadjaaGreatDoor
