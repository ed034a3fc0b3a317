/-
  A law for regions that draw their order: one walk in the order of the text serves every order, where operations that only read ("floats") yield one value in every world of a class C, and the others ("effects": calls, allocations, stores) stand in a chain and keep the class. Conditions: the order of the effects is forced by edges (a Bool, by computation); no defer, no select.
    Worlds that keep some blocks ('Keeps'); iterators ('Seq': what a function that is ranged over does, for every loop body that keeps what the iterator reads) and the statement 'for .. := range f { .. }' over them ('wpIn_range', 'wp_range'). Conditions: the rounds do not panic.
    Steps through a drawn region in the order of the text, each told apart by closed facts (whether it is an effect; whether its guard lets it run).
    A law for regions that draw their order, in whatever order their edges allow: each operation is looked at once, in a world that holds what the operations behind it in the order have left (and nothing else is known of the order). Operations that only read ('floats') leave one value; the others ('effects') leave a value of which a predicate holds that no other operation breaks. Behind the free part stands a tail, whose operations come last in every order, one by one. Conditions: the table of what waits for what (checked by computation); no defer, no select.
    The law for regions in any order (XReg), at the regions of the calculus: the check as a Bool; steps.
-/
import Derived.WalkKit
import Derived.OrdersIn
import Derived.RangeFuncIn
import Derived.RangeFuncLeaves
import Derived.RangeFuncNested
import Derived.RangeFuncSeq
import Derived.Lib.Hide
import Derived.Sort.Grow
import Derived.Deep.Draws
import Derived.Deep.MidRow
import Derived.Maps.AppendAt
set_option maxRecDepth 100000
set_option maxHeartbeats 16000000
open Go.Lib (hid)
namespace Go.Proofs.YtbiboekhakbnpaaGreatDoor
open Go Go.RowKit

def effAt (F : Fence) (n : Nat) (P : Program) (C : World -> Prop) (dst : Option Tmp) (a : Act) (K : Act -> World -> Prop) : Result Next -> Prop
 | .ok (.value v) w' => C w' /\ K (a.put dst v) w'
 | .ok .skip w' => C w' /\ K (a.put dst undef) w'
 | .ok (.enter f args) w' => CallsIn F (n - 1) P f args w' (fun e w'' => ∃ v, e = .returned v /\ C w'' /\ K (a.put dst v) w'')
 | .ok (.round l f tmps asg body) w' => RoundIn F (n - 1) P l f tmps asg body w' (fun e w'' => ∃ v, e = .returned v /\ C w'' /\ K (a.put dst v) w'')
 | _ => False

def floatAt (P : Program) (o : Oper) (a : Act) (v : Value) (W : World) : Prop :=
 (execOp a.eval o).run P W = .ok (.value v) W \/ ((execOp a.eval o).run P W = .ok .skip W /\ v = undef)

def lexOp (F : Fence) (n : Nat) (P : Program) (C : World → Prop) (ops : Array Oper) (isE : Bool) (o : Oper) (K : Act → World → Prop) (a : Act) (w : World) : Prop :=
  if Region.wanted o (yielded ops a.tmps) then
    (if isE then effAt F n P C o.dst a K ((execOp a.eval o).run P w)
     else ∃ v, (∀ W : { W // C W }, floatAt P o a v W.1) ∧ K (a.put o.dst v) w)
  else K (a.put o.dst undef) w

def wpLex (F : Fence) (n : Nat) (P : Program) (C : World -> Prop) (ops : Array Oper) (eff : Nat -> Bool) (Q : Act -> World -> Prop) : List Oper -> Nat -> Act -> World -> Prop
 | [], _, a, w => Q a w
 | o :: rest, k, a, w => lexOp F n P C ops (eff k) o (wpLex F n P C ops eff Q rest (k + 1)) a w

section
variable {F : Fence} {n : Nat} {P : Program} {C : World → Prop} {ops : Array Oper} {eff : Nat → Bool} {md : Region.Mode}

theorem effAt_mono {dst : Option Tmp} {a : Act} {K K' : Act -> World -> Prop} (h : ∀ a w, C w -> K a w -> K' a w) {r : Result Next} (hh : effAt F n P C dst a K r) : effAt F n P C dst a K' r := by
 cases r with
 | halt x w => exact hh.elim
 | ok x w =>
  cases x <;> simp only [effAt] at hh ⊢ <;> first
   | exact ⟨hh.1, h _ _ hh.1 hh.2⟩
   | exact CallsIn.mono hh (fun e w' ⟨v, he, hC, hK⟩ => ⟨v, he, hC, h _ _ hC hK⟩)
   | exact RoundIn.mono hh (fun e w' ⟨v, he, hC, hK⟩ => ⟨v, he, hC, h _ _ hC hK⟩)

theorem lexOp_mono {isE : Bool} {o : Oper} {a : Act} {w : World} {K K' : Act -> World -> Prop} (h0 : ∀ a, K a w -> K' a w) (h : ∀ a w, C w -> K a w -> K' a w) (hh : lexOp F n P C ops isE o K a w) : lexOp F n P C ops isE o K' a w := by
 unfold lexOp at *
 split
 ·rename_i hw
  simp only [hw, if_true] at hh
  cases isE with
  | true => simp only [if_true] at hh ⊢; exact effAt_mono h hh
  | false => simp only [Bool.false_eq_true, if_false] at hh ⊢; obtain ⟨v, h1, h2⟩ := hh; exact ⟨v, h1, h0 _ h2⟩
 ·rename_i hw
  simp only [hw] at hh
  exact h0 _ hh

theorem effAt_some (hd : F.depth = none) {dst : Option Tmp} {a : Act} {K : Act -> World -> Prop} {r : Result Next} (hh : effAt F n P C dst a K r) : ∃ u w', K (a.put dst u) w' := by
 cases r with
 | halt x w => exact hh.elim
 | ok x w =>
  cases x <;> simp only [effAt] at hh
  case value v => exact ⟨_, _, hh.2⟩
  case skip => exact ⟨_, _, hh.2⟩
  case enter f args =>
   obtain ⟨e, w', fr, ⟨v, _, _, hK⟩, _⟩ := hh.2 [] (fun d h => by rw [hd] at h; cases h)
   exact ⟨_, _, hK⟩
  case round l f tmps asg body =>
   obtain ⟨e, w', ⟨v, _, _, hK⟩, _⟩ := hh.2 default [] (fun d h => by rw [hd] at h; cases h)
   exact ⟨_, _, hK⟩

def xOp (F : Fence) (n : Nat) (P : Program) (C : World -> Prop) (ops : Array Oper) (eff : Nat -> Bool) (i : Nat) (K : Act -> World -> Prop) (a : Act) (w : World) : Prop :=
 match ops[i]? with
 | none => K a w
 | some o => lexOp F n P C ops (eff i) o K a w

def anyX (F : Fence) (n : Nat) (P : Program) (C : World -> Prop) (md : Region.Mode) (ops : Array Oper) (eff : Nat -> Bool) (Q : Act -> World -> Prop) : Nat -> Array Bool -> Act -> World -> Prop
 | 0, listed, a, w => Region.ready md ops listed = [] /\ Q a w
 | fuel + 1, listed, a, w =>
  (Region.ready md ops listed = [] -> Q a w) /\
  ∀ i ∈ Region.ready md ops listed, xOp F n P C ops eff i (anyX F n P C md ops eff Q fuel (listed.setIfInBounds i true)) a w

def noDefer (ops : Array Oper) : Bool := ops.all fun o => match o.op with | .defer _ => false | _ => true

theorem noDefer_spec (h : noDefer ops = true) {j : Nat} {o : Oper} (ho : ops[j]? = some o) (c : Call) : o.op ≠ .defer c := by
 intro heq
 have := Array.all_eq_true_iff_forall_mem.1 h o (Array.mem_of_getElem? ho)
 simp [heq] at this

theorem wpAnyIn_of_anyX (hF : ∀ f, F.fn f) (hd : F.depth = none) (hnd : noDefer ops = true) {Q : Act -> World -> Prop} {Q' : Exit -> Act -> World -> Prop} (hQ : ∀ a w, C w -> Q a w -> Q' .normal a w) :
  ∀ (fuel : Nat) (listed : Array Bool) (a : Act) (w : World), C w -> anyX F n P C md ops eff Q fuel listed a w -> wpAnyIn F n P md ops Q' fuel listed a w
 | 0, _, _, _, hC, h => ⟨h.1, hQ _ _ hC h.2⟩
 | fuel + 1, listed, a, w, hC, h => by
  refine ⟨fun h0 => hQ _ _ hC (h.1 h0), fun i hi => ?_⟩
  have hx := h.2 i hi
  have ih := fun a' w' hC' => wpAnyIn_of_anyX hF hd hnd hQ fuel (listed.setIfInBounds i true) a' w' hC'
  unfold xOp at hx
  unfold wpOpIn
  cases ho : ops[i]? with
  | none => simp only [ho] at hx; exact ih _ _ hC hx
  | some o =>
   simp only [ho] at hx ⊢
   have hsem : Oper.semAt F.round a.eval o = execOp a.eval o := Oper.semAt_eq _ _ _ (noDefer_spec hnd ho)
   unfold lexOp at hx
   split
   ·rename_i hw
    simp only [hw, if_true] at hx
    refine ⟨fun f _ => hF f, ?_⟩
    rw [hsem]
    cases he : eff i with
    | false =>
     simp only [he, Bool.false_eq_true, if_false] at hx
     obtain ⟨v, h1, h2⟩ := hx
     rcases h1 ⟨w, hC⟩ with hr | ⟨hr, rfl⟩ <;> rw [hr] <;> exact ih _ _ hC h2
    | true =>
     simp only [he, if_true] at hx
     generalize (execOp a.eval o).run P w = r at hx
     cases r with
     | halt x w => exact hx.elim
     | ok x w =>
      cases x <;> simp only [effAt] at hx <;> simp only [Oper.uponIn]
      case value v => exact ih _ _ hx.1 hx.2
      case skip => exact ih _ _ hx.1 hx.2
      case enter f args => exact ⟨fun h => (by rw [hd] at h; cases h), CallsIn.mono hx (fun e w' ⟨v, he, hC', hK⟩ => by subst he; exact ih _ _ hC' hK)⟩
      case round l f tmps asg body => exact ⟨fun h => (by rw [hd] at h; cases h), RoundIn.mono hx (fun e w' ⟨v, he, hC', hK⟩ => by subst he; exact ih _ _ hC' hK)⟩
   ·rename_i hw
    simp only [hw] at hx
    exact ⟨fun f _ => hF f, ih _ _ hC hx⟩

def YieldsX (P : Program) (ops : Array Oper) (C : World -> Prop) (o : Oper) (v : Value) (a : Act) : Prop :=
 (Region.wanted o (yielded ops a.tmps) = true /\ ∀ W, C W -> floatAt P o a v W) \/ (Region.wanted o (yielded ops a.tmps) = false /\ v = undef)

theorem floatAt_put {o : Oper} (hs : ∀ cs b, o.op ≠ .select cs b) {a : Act} {dst : Option Tmp} {u v : Value} {W : World} (h : ∀ d, dst = some d -> d ∉ o.looksAt ops) : floatAt P o (a.put dst u) v W ↔ floatAt P o a v W := by
 unfold floatAt
 rw [execOp_put o hs a dst u h]

theorem YieldsX.put {o : Oper} {v : Value} {a : Act} (hs : ∀ cs b, o.op ≠ .select cs b) {dst : Option Tmp} {u : Value} (h : ∀ d, dst = some d -> d ∉ o.looksAt ops) : YieldsX P ops C o v (a.put dst u) ↔ YieldsX P ops C o v a := by
 unfold YieldsX
 rw [wanted_put o a dst u h]
 constructor
 ·rintro (⟨h1, h2⟩ | h1)
  ·exact .inl ⟨h1, fun W hW => (floatAt_put hs h).1 (h2 W hW)⟩
  ·exact .inr h1
 ·rintro (⟨h1, h2⟩ | h1)
  ·exact .inl ⟨h1, fun W hW => (floatAt_put hs h).2 (h2 W hW)⟩
  ·exact .inr h1

theorem YieldsX.lexOp {o : Oper} {v : Value} {a : Act} {w : World} {K : Act -> World -> Prop} (hy : YieldsX P ops C o v a) (h : K (a.put o.dst v) w) : lexOp F n P C ops false o K a w := by
 unfold Proofs.YtbiboekhakbnpaaGreatDoor.lexOp
 rcases hy with ⟨hw, hv⟩ | ⟨hw, rfl⟩
 ·simp only [hw, if_true, Bool.false_eq_true, if_false]; exact ⟨v, fun W => hv W.1 W.2, h⟩
 ·simp only [hw, Bool.false_eq_true, if_false]; exact h

theorem yieldsX_of_lexOp {o : Oper} {a : Act} {w : World} {K : Act -> World -> Prop} (h : lexOp F n P C ops false o K a w) : ∃ v, YieldsX P ops C o v a /\ K (a.put o.dst v) w := by
 unfold Proofs.YtbiboekhakbnpaaGreatDoor.lexOp at h
 by_cases hw : Region.wanted o (yielded ops a.tmps) = true
 ·simp only [hw, if_true, Bool.false_eq_true, if_false] at h
  obtain ⟨v, h1, h2⟩ := h
  exact ⟨v, .inl ⟨hw, fun W hW => h1 ⟨W, hW⟩⟩, h2⟩
 ·simp only [hw] at h
  exact ⟨undef, .inr ⟨by simpa using hw, rfl⟩, h⟩

theorem effAt_put {dx dj : Option Tmp} {v : Value} {a : Act} (hne : ∀ d, dx = some d -> dj ≠ some d) {K : Act -> World -> Prop} {r : Result Next} (h : effAt F n P C dj (a.put dx v) K r) :
  effAt F n P C dj a (fun a' w' => (∃ u, a' = a.put dj u) /\ K (a'.put dx v) w') r := by
 cases r with
 | halt x w => exact h.elim
 | ok x w =>
  cases x <;> simp only [effAt] at h ⊢
  case value u => exact ⟨h.1, ⟨u, rfl⟩, by rw [<- Act.put_comm a v u hne]; exact h.2⟩
  case skip => exact ⟨h.1, ⟨_, rfl⟩, by rw [<- Act.put_comm a v undef hne]; exact h.2⟩
  case enter f args => exact CallsIn.mono h (fun e w' ⟨u, he, hC, hK⟩ => ⟨u, he, hC, ⟨u, rfl⟩, by rw [<- Act.put_comm a v u hne]; exact hK⟩)
  case round l f tmps asg body => exact RoundIn.mono h (fun e w' ⟨u, he, hC, hK⟩ => ⟨u, he, hC, ⟨u, rfl⟩, by rw [<- Act.put_comm a v u hne]; exact hK⟩)

theorem lexOp_put {isE : Bool} {oi oj : Oper} {v : Value} (hap : oi.apart ops oj = true) (hsi : ∀ cs b, oi.op ≠ .select cs b) (hsj : ∀ cs b, oj.op ≠ .select cs b) {K : Act -> World -> Prop} {a : Act} {w : World}
  (hy : YieldsX P ops C oi v a) (h : lexOp F n P C ops isE oj K (a.put oi.dst v) w) :
  lexOp F n P C ops isE oj (fun a' w' => YieldsX P ops C oi v a' /\ K (a'.put oi.dst v) w') a w := by
 obtain ⟨h1, h2, h3⟩ := Oper.apart_spec hap
 have keep : ∀ u, YieldsX P ops C oi v (a.put oj.dst u) := fun u => (YieldsX.put hsi h3).2 hy
 unfold Proofs.YtbiboekhakbnpaaGreatDoor.lexOp at *
 rw [wanted_put oj a oi.dst v h1, execOp_put oj hsj a oi.dst v h1] at h
 split
 ·rename_i hw
  simp only [hw, if_true] at h
  cases isE with
  | true =>
   simp only [if_true] at h ⊢
   exact effAt_mono (fun a' w' _ ⟨⟨u, hu⟩, hK⟩ => ⟨by rw [hu]; exact keep u, hK⟩) (effAt_put h2 h)
  | false =>
   simp only [Bool.false_eq_true, if_false] at h ⊢
   obtain ⟨u, hu, hK⟩ := h
   exact ⟨u, fun W => (floatAt_put hsj h1).1 (hu W), keep u, by rw [<- Act.put_comm a v u h2]; exact hK⟩
 ·rename_i hw
  simp only [hw] at h
  exact ⟨keep _, by rw [<- Act.put_comm a v undef h2]; exact h⟩

theorem ready_not_waits {i j : Nat} {listed : Array Bool} (hr : i ∈ Region.ready md ops listed) (hj : j ∈ Region.ready md ops listed) {oj : Oper} (hoj : ops[j]? = some oj) : ∀ e ∈ oj.after, Region.binds md e = true -> e.on ≠ i := fun e he hb heq => by
 obtain ⟨_, oj', hoj', hall⟩ := mem_ready.1 hj
 rw [hoj] at hoj'
 cases hoj'
 have h1 := hall e he hb
 have h0 := (mem_ready.1 hr).1
 rw [heq] at h1
 rcases Nat.lt_or_ge i listed.size with h' | h'
 ·simp [h'] at h0 h1; rw [h0] at h1; cases h1
 ·simp [Array.getElem?_eq_none h'] at h1

theorem anyX_float {Q : Act -> World -> Prop} {i : Nat} {oi : Oper} {v : Value} (hi : ops[i]? = some oi) (hei : eff i = false) (hsel : ∀ (j : Nat) (o : Oper) cs b, ops[j]? = some o -> o.op ≠ .select cs b) :
  ∀ (fuel : Nat) (listed : Array Bool) (a : Act) (w : World),
   (∀ j oj, ops[j]? = some oj -> j ≠ i -> listed.getD j true = false -> (∀ e ∈ oj.after, Region.binds md e = true -> e.on ≠ i) -> oi.apart ops oj = true) ->
   i ∈ Region.ready md ops listed -> YieldsX P ops C oi v a ->
   anyX F n P C md ops eff Q fuel (listed.setIfInBounds i true) (a.put oi.dst v) w -> anyX F n P C md ops eff Q (fuel + 1) listed a w := by
 intro fuel
 induction fuel with
 | zero =>
  intro listed a w _ hr hy H
  refine ⟨fun h => (by rw [h] at hr; cases hr), fun j hj => ?_⟩
  by_cases hji : j = i
  ·subst hji; unfold xOp; simp only [hi, hei]; exact hy.lexOp H
  ·have := ready_mono hj hji
   rw [H.1] at this
   cases this
 | succ fuel ih =>
  intro listed a w hfree hr hy H
  refine ⟨fun h => (by rw [h] at hr; cases hr), fun j hj => ?_⟩
  by_cases hji : j = i
  ·subst hji; unfold xOp; simp only [hi, hei]; exact hy.lexOp H
  ·have h1 := H.2 j (ready_mono hj hji)
   obtain ⟨hjun, oj, hoj, hall⟩ := mem_ready.1 hj
   have hnot := ready_not_waits hr hj hoj
   have hfree' : ∀ k ok, ops[k]? = some ok -> k ≠ i -> (listed.setIfInBounds j true).getD k true = false ->
     (∀ e ∈ ok.after, Region.binds md e = true -> e.on ≠ i) -> oi.apart ops ok = true := fun k ok hk hki hun hno => by
    refine hfree k ok hk hki ?_ hno
    by_cases hjk : j = k
    ·subst hjk; exact hjun
    ·rw [getD_set_ne true hjk] at hun; exact hun
   unfold xOp at h1 ⊢
   simp only [hoj] at h1 ⊢
   have h2 := lexOp_put (hfree j oj hoj hji hjun hnot) (fun cs b => hsel i oi cs b hi) (fun cs b => hsel j oj cs b hoj) hy h1
   have step : ∀ a' w', (YieldsX P ops C oi v a' /\ anyX F n P C md ops eff Q fuel ((listed.setIfInBounds i true).setIfInBounds j true) (a'.put oi.dst v) w') -> anyX F n P C md ops eff Q (fuel + 1) (listed.setIfInBounds j true) a' w' := fun a' w' h3 => by
    refine ih (listed.setIfInBounds j true) a' w' hfree' (ready_mono hr (Ne.symm hji)) h3.1 ?_
    rw [Array.setIfInBounds_comm _ _ hji]
    exact h3.2
   exact lexOp_mono (fun a' h3 => step a' _ h3) (fun a' w' _ h3 => step a' w' h3) h2

theorem anyX_effect (hd : F.depth = none) {Q : Act -> World -> Prop} {i : Nat} {oi : Oper} (hi : ops[i]? = some oi) (hei : eff i = true) (hsel : ∀ (j : Nat) (o : Oper) cs b, ops[j]? = some o -> o.op ≠ .select cs b) :
  ∀ (fuel : Nat) (listed : Array Bool) (a : Act) (w : World), C w ->
   (∀ j oj, ops[j]? = some oj -> j ≠ i -> listed.getD j true = false -> (∀ e ∈ oj.after, Region.binds md e = true -> e.on ≠ i) -> oi.apart ops oj = true) ->
   (∀ j oj, ops[j]? = some oj -> j ≠ i -> eff j = true -> listed.getD j true = false -> ∃ e ∈ oj.after, Region.binds md e = true /\ eff e.on = true /\ listed.getD e.on false = false) ->
   i ∈ Region.ready md ops listed -> xOp F n P C ops eff i (anyX F n P C md ops eff Q fuel (listed.setIfInBounds i true)) a w ->
   anyX F n P C md ops eff Q (fuel + 1) listed a w := by
 intro fuel
 induction fuel with
 | zero =>
  intro listed a w hC hfree heffs hr H
  refine ⟨fun h => (by rw [h] at hr; cases hr), fun j hj => ?_⟩
  by_cases hji : j = i
  ·subst hji; exact H
  ·exfalso
   have hne := ready_mono hj hji
   unfold xOp at H
   simp only [hi] at H
   unfold Proofs.YtbiboekhakbnpaaGreatDoor.lexOp at H
   by_cases hw : Region.wanted oi (yielded ops a.tmps) = true
   ·simp only [hw, if_true, hei] at H
    obtain ⟨u, w', hK⟩ := effAt_some hd H
    rw [hK.1] at hne; cases hne
   ·rw [if_neg hw] at H; rw [H.1] at hne; cases hne
 | succ fuel ih =>
  intro listed a w hC hfree heffs hr H
  refine ⟨fun h => (by rw [h] at hr; cases hr), fun j hj => ?_⟩
  by_cases hji : j = i
  ·subst hji; exact H
  ·obtain ⟨hjun, oj, hoj, hall⟩ := mem_ready.1 hj
   have hnot := ready_not_waits hr hj hoj
   have hej : eff j = false := by
    cases h : eff j with
    | false => rfl
    | true =>
     obtain ⟨e, he, hb, _, hl⟩ := heffs j oj hoj hji h hjun
     rw [hall e he hb] at hl; cases hl
   have hap := hfree j oj hoj hji hjun hnot
   obtain ⟨h1, h2, h3⟩ := Oper.apart_spec hap
   have hsi := fun cs b => hsel i oi cs b hi
   have hsj := fun cs b => hsel j oj cs b hoj
   have h2' : ∀ d, oj.dst = some d -> oi.dst ≠ some d := fun d hd he => h2 d he hd
   -- what the float yields, and what is left behind both
   have key : ∃ v, YieldsX P ops C oj v a /\ xOp F n P C ops eff i (anyX F n P C md ops eff Q fuel ((listed.setIfInBounds j true).setIfInBounds i true)) (a.put oj.dst v) w := by
    unfold xOp at H ⊢
    simp only [hi] at H ⊢
    unfold Proofs.YtbiboekhakbnpaaGreatDoor.lexOp at H ⊢
    by_cases hw : Region.wanted oi (yielded ops a.tmps) = true
    ·simp only [hw, if_true, hei] at H
     have inner : ∀ u w', anyX F n P C md ops eff Q (fuel + 1) (listed.setIfInBounds i true) (a.put oi.dst u) w' -> ∃ v, YieldsX P ops C oj v a /\ anyX F n P C md ops eff Q fuel ((listed.setIfInBounds j true).setIfInBounds i true) ((a.put oj.dst v).put oi.dst u) w' := fun u w' h => by
      have hx := h.2 j (ready_mono hj hji)
      unfold xOp at hx
      simp only [hoj, hej] at hx
      obtain ⟨v, hy, hK⟩ := yieldsX_of_lexOp hx
      refine ⟨v, (YieldsX.put hsj h1).1 hy, ?_⟩
      rw [Array.setIfInBounds_comm _ _ hji, Act.put_comm a v u h2']
      exact hK
     obtain ⟨u0, w0, h0⟩ := effAt_some hd H
     obtain ⟨v, hy, _⟩ := inner u0 w0 h0
     refine ⟨v, hy, ?_⟩
     rw [wanted_put oi a oj.dst v h3, execOp_put oi hsi a oj.dst v h3]
     simp only [hw, if_true, hei]
     have uniq : ∀ v', YieldsX P ops C oj v' a -> v' = v := fun v' hy' => by
      rcases hy with ⟨g1, g2⟩ | ⟨g1, g2⟩ <;> rcases hy' with ⟨k1, k2⟩ | ⟨k1, k2⟩
      ·have a1 := g2 w hC
       have a2 := k2 w hC
       unfold floatAt at a1 a2
       rcases a1 with a1 | ⟨a1, b1⟩ <;> rcases a2 with a2 | ⟨a2, b2⟩ <;> rw [a1] at a2 <;> cases a2 <;> simp_all
      ·rw [g1] at k1; cases k1
      ·rw [g1] at k1; cases k1
      ·rw [g2, k2]
     generalize (execOp a.eval oi).run P w = r at H ⊢
     cases r with
     | halt x w => exact H.elim
     | ok x w =>
      cases x <;> simp only [effAt] at H ⊢
      case value u =>
       obtain ⟨v', hy', hK⟩ := inner _ _ H.2
       rw [uniq v' hy'] at hK
       exact ⟨H.1, hK⟩
      case skip =>
       obtain ⟨v', hy', hK⟩ := inner _ _ H.2
       rw [uniq v' hy'] at hK
       exact ⟨H.1, hK⟩
      case enter f args =>
       exact CallsIn.mono H (fun e w' ⟨u, he, hC', h⟩ => by
        obtain ⟨v', hy', hK⟩ := inner _ _ h
        rw [uniq v' hy'] at hK
        exact ⟨u, he, hC', hK⟩)
      case round l f tmps asg body =>
       exact RoundIn.mono H (fun e w' ⟨u, he, hC', h⟩ => by
        obtain ⟨v', hy', hK⟩ := inner _ _ h
        rw [uniq v' hy'] at hK
        exact ⟨u, he, hC', hK⟩)
    ·simp only [hw] at H
     have hx := H.2 j (ready_mono hj hji)
     unfold xOp at hx
     simp only [hoj, hej] at hx
     obtain ⟨v, hy, hK⟩ := yieldsX_of_lexOp hx
     refine ⟨v, (YieldsX.put hsj h1).1 hy, ?_⟩
     rw [wanted_put oi a oj.dst v h3]
     simp only [hw]
     rw [Array.setIfInBounds_comm _ _ hji]
     have := Act.put_comm a v undef h2'
     simpa [this] using hK
   obtain ⟨v, hy, hK⟩ := key
   unfold xOp
   simp only [hoj, hej]
   refine hy.lexOp (ih (listed.setIfInBounds j true) _ w hC ?_ ?_ (ready_mono hr (Ne.symm hji)) hK)
   ·intro k ok hk hki hun hno
    refine hfree k ok hk hki ?_ hno
    by_cases hjk : j = k
    ·subst hjk; exact hjun
    ·rw [getD_set_ne true hjk] at hun; exact hun
   ·intro k ok hk hki hek hun
    have hjk : j ≠ k := fun h => by subst h; rw [hej] at hek; cases hek
    rw [getD_set_ne true hjk] at hun
    obtain ⟨e, he, hb, hee, hl⟩ := heffs k ok hk hki hek hun
    have hje : j ≠ e.on := fun h => by rw [<- h] at hee; rw [hej] at hee; cases hee
    exact ⟨e, he, hb, hee, by rw [getD_set_ne false hje]; exact hl⟩

def effsWait (md : Region.Mode) (ops : Array Oper) (eff : Nat -> Bool) (listed : Array Bool) (i : Nat) : Bool :=
 (List.range ops.size).all fun j => j == i || !eff j || listed.getD j true || match ops[j]? with
  | some oj => oj.after.any (fun e => Region.binds md e && eff e.on && !listed.getD e.on false)
  | none => true

theorem effsWait_spec {i : Nat} {listed : Array Bool} (h : effsWait md ops eff listed i = true) (j : Nat) (oj : Oper) (hj : ops[j]? = some oj) (hne : j ≠ i) (hej : eff j = true) (hun : listed.getD j true = false) :
  ∃ e ∈ oj.after, Region.binds md e = true /\ eff e.on = true /\ listed.getD e.on false = false := by
 simp only [effsWait, List.all_eq_true, List.mem_range] at h
 have h1 := h j (Array.getElem?_eq_some_iff.1 hj).1
 simp only [hj, Bool.or_eq_true, beq_iff_eq, hne, false_or, hun, Bool.false_eq_true, hej, Bool.not_true] at h1
 obtain ⟨e, he, hb⟩ := Array.any_eq_true'.1 h1
 simp only [Bool.and_eq_true, Bool.not_eq_true'] at hb
 exact ⟨e, he, hb.1.1, hb.1.2, hb.2⟩

def lexXFrom (md : Region.Mode) (ops : Array Oper) (eff : Nat -> Bool) : Nat -> Nat -> Array Bool -> Bool
 | 0, _, listed => (Region.ready md ops listed).isEmpty
 | fuel + 1, k, listed => (Region.ready md ops listed).contains k && Region.free md ops listed k && (!eff k || effsWait md ops eff listed k) && lexXFrom md ops eff fuel (k + 1) (listed.setIfInBounds k true)

def lexX (md : Region.Mode) (ops : Array Oper) (eff : Nat -> Bool) : Bool := Region.noSelect ops && noDefer ops && lexXFrom md ops eff ops.size 0 (Array.replicate ops.size false)

theorem anyX_lex (hd : F.depth = none) {Q : Act -> World -> Prop} (hs : Region.noSelect ops = true) : ∀ (l : List Oper) (k : Nat) (listed : Array Bool) (a : Act) (w : World), C w -> (∀ j, l[j]? = ops[k + j]?) ->
  lexXFrom md ops eff l.length k listed = true -> wpLex F n P C ops eff Q l k a w -> anyX F n P C md ops eff Q l.length listed a w
 | [], _, _, _, _, _, _, hB, h => ⟨by simpa [lexXFrom] using hB, h⟩
 | o :: l, k, listed, a, w, hC, hl, hB, h => by
  have h0 : ops[k]? = some o := by simpa using (hl 0).symm
  simp only [List.length_cons, lexXFrom, Bool.and_eq_true, Bool.or_eq_true, Bool.not_eq_true'] at hB
  obtain ⟨⟨⟨hr, hf⟩, he⟩, hB'⟩ := hB
  have hr' : k ∈ Region.ready md ops listed := by simpa using hr
  have ih : ∀ a' w', C w' -> wpLex F n P C ops eff Q l (k + 1) a' w' -> anyX F n P C md ops eff Q l.length (listed.setIfInBounds k true) a' w' := fun a' w' hC' h' =>
   anyX_lex hd hs l (k + 1) _ a' w' hC' (fun j => by have := hl (j + 1); simpa [Nat.add_assoc, Nat.add_comm 1 j] using this) hB' h'
  unfold wpLex at h
  cases hek : eff k with
  | false =>
   rw [hek] at h
   obtain ⟨v, hy, hK⟩ := yieldsX_of_lexOp h
   exact anyX_float h0 hek (Region.noSelect_spec hs) l.length listed a w (Region.free_spec h0 hf) hr' hy (ih _ _ hC hK)
  | true =>
   have he' : effsWait md ops eff listed k = true := he.resolve_left (by rw [hek]; decide)
   refine anyX_effect hd h0 hek (Region.noSelect_spec hs) l.length listed a w hC (Region.free_spec h0 hf) (effsWait_spec he') hr' ?_
   unfold xOp
   simp only [h0]
   exact lexOp_mono (fun a' h' => ih a' w hC h') (fun a' w' hC' h' => ih a' w' hC' h') h

theorem wpIn_region_lex (hF : ∀ f, F.fn f) (hd : F.depth = none) {id : Nat} {Q : Exit -> Act -> World -> Prop} {a : Act} {w : World} {l : List Oper} (hm : P.follows .mixedOrders = true) (eff : Nat -> Bool) (hB : lexX .any l.toArray eff = true) (C : World -> Prop) (hC : C w.drew)
  (h : wpLex F n P C l.toArray eff (fun a' w' => Q .normal a' w') l 0 a w.drew) : (Code.region id l.toArray true).wpIn F n P Q a w := by
 simp only [lexX, Bool.and_eq_true] at hB
 refine wpIn_region_any hm (wpAnyIn_of_anyX (eff := eff) hF hd hB.1.2 (Q := fun a' w' => Q .normal a' w') (fun _ _ _ h => h) _ _ _ _ hC ?_)
 have := anyX_lex (md := .any) (F := F) (n := n) (P := P) hd hB.1.1 l 0 (Array.replicate l.length false) a w.drew hC (by simp) (by simpa using hB.2) h
 simpa using this

theorem wpLex_step {eff : Nat -> Bool} {Q : Act -> World -> Prop} {o : Oper} {rest : List Oper} {k : Nat} {a : Act} {w : World}
  (h : ∀ K : Act -> World -> Prop, (∀ a w, wpLex F n P C ops eff Q rest (k + 1) a w -> K a w) -> lexOp F n P C ops (eff k) o K a w) : wpLex F n P C ops eff Q (o :: rest) k a w := h _ (fun _ _ h => h)
theorem wpLex_nil {eff : Nat -> Bool} {Q : Act -> World -> Prop} {k : Nat} {a : Act} {w : World} (h : Q a w) : wpLex F n P C ops eff Q [] k a w := h
theorem lexOp_float {o : Oper} {K : Act -> World -> Prop} {a : Act} {w : World} (hw : Region.wanted o (yielded ops a.tmps) = true) (h : ∃ v, (∀ W : { W // C W }, floatAt P o a v W.1) /\ K (a.put o.dst v) w) : lexOp F n P C ops false o K a w := by
 unfold lexOp
 simp only [hw, if_true, Bool.false_eq_true, if_false]
 exact h
theorem lexOp_eff {o : Oper} {K : Act -> World -> Prop} {a : Act} {w : World} (hw : Region.wanted o (yielded ops a.tmps) = true) (h : effAt F n P C o.dst a K ((execOp a.eval o).run P w)) : lexOp F n P C ops true o K a w := by
 unfold lexOp
 simp only [hw, if_true]
 exact h
theorem effAt_call {dst : Option Tmp} {a : Act} {K : Act -> World -> Prop} {f : FuncId} {args : Array Value} {w : World} (h : Calls P f args w fun e w'' => ∃ v, e = .returned v /\ C w'' /\ K (a.put dst v) w'') : effAt Fence.wide 0 P C dst a K (.ok (.enter f args) w) := callsIn_wide.2 h
theorem effAt_callR {l : Nat} {dst : Option Tmp} {a : Act} {K : Act -> World -> Prop} {f : FuncId} {args : Array Value} {w : World} (h : Calls P f args w fun e w'' => ∃ v, e = .returned v /\ C w'' /\ K (a.put dst v) w'') : effAt (Fence.wide.inRound l) 0 P C dst a K (.ok (.enter f args) w) := (callsIn_wide (n := 0)).2 h

theorem wp_region_lex {id : Nat} {Q : Exit -> Act -> World -> Prop} {a : Act} {w : World} {l : List Oper} (hm : P.follows .mixedOrders = true) (eff : Nat -> Bool) (hB : lexX .any l.toArray eff = true) (C : World -> Prop) (hC : C w.drew)
  (h : wpLex Fence.wide 0 P C l.toArray eff (fun a' w' => Q .normal a' w') l 0 a w.drew) : (Code.region id l.toArray true).wp P Q a w :=
 wpIn_wide.1 (wpIn_region_lex (n := 0) (fun _ => trivial) rfl hm eff hB C hC h)
end
end Go.Proofs.YtbiboekhakbnpaaGreatDoor

namespace Go.Proofs.YtbiboekhakbnpaaGreatDoor
open Go Go.RowKit

structure Keeps (R : Nat -> Prop) (W W' : World) : Prop where
 os : W'.os = W.os
 tape : W'.tape = W.tape
 output : W'.output = W.output
 size : W.heap.size <= W'.heap.size
 keep : ∀ k, R k -> W'.heap[k]? = W.heap[k]?

structure Ext (W W' : World) : Prop where
 os : W'.os = W.os
 tape : W'.tape = W.tape
 output : W'.output = W.output
 drawn : W.drawn <= W'.drawn
 size : W.heap.size <= W'.heap.size
 keep : ∀ k, k < W.heap.size -> W'.heap[k]? = W.heap[k]?

theorem Keeps.refl (R : Nat -> Prop) (W : World) : Keeps R W W := ⟨rfl, rfl, rfl, Nat.le_refl _, fun _ _ => rfl⟩
theorem Keeps.mono {R R' : Nat -> Prop} {W W' : World} (h : Keeps R W W') (hr : ∀ k, R' k -> R k) : Keeps R' W W' := ⟨h.os, h.tape, h.output, h.size, fun k hk => h.keep k (hr k hk)⟩
theorem Ext.mono {R' : Nat -> Prop} {W W' : World} (h : Ext W W') (hr : ∀ k, R' k -> k < W.heap.size) : Keeps R' W W' := ⟨h.os, h.tape, h.output, h.size, fun k hk => h.keep k (hr k hk)⟩
theorem Ext.keeps {W W' : World} (h : Ext W W') : Keeps (· < W.heap.size) W W' := h.mono fun _ h => h
theorem Ext.below {W W' : World} (h : Ext W W') : Below W.heap.size W W' := ⟨h.os, h.tape, h.output, h.size, h.keep⟩
theorem Keeps.trans {R R' : Nat -> Prop} {A B C : World} (h : Keeps R A B) (k : Keeps R' B C) (hr : ∀ k, R k -> R' k) : Keeps R A C :=
 ⟨k.os.trans h.os, k.tape.trans h.tape, k.output.trans h.output, Nat.le_trans h.size k.size, fun i hi => (k.keep i (hr i hi)).trans (h.keep i hi)⟩
theorem Keeps.tr {R : Nat -> Prop} {A B C : World} (h : Keeps R A B) (k : Keeps R B C) : Keeps R A C := h.trans k fun _ h => h
theorem Keeps.drew {R : Nat -> Prop} {A B : World} (h : Keeps R A B) : Keeps R A B.drew := ⟨h.os, h.tape, h.output, h.size, h.keep⟩
theorem Keeps.drewN {R : Nat -> Prop} {A B : World} (h : Keeps R A B) (n : Nat) : Keeps R A (B.drewN n) := ⟨h.os, h.tape, h.output, h.size, h.keep⟩
theorem Keeps.below {B : Nat} {W W' : World} (h : Keeps (· < B) W W') : Below B W W' := ⟨h.os, h.tape, h.output, h.size, h.keep⟩
theorem Keeps.of_below {B : Nat} {W W' : World} (h : Below B W W') {R : Nat -> Prop} (hr : ∀ k, R k -> k < B) : Keeps R W W' := ⟨h.os, h.tape, h.output, h.size, fun k hk => h.block k (hr k hk)⟩
theorem Keeps.of_grown {row : Option Nat} {W W' : World} (h : W.grownBy W' row) {R : Nat -> Prop} (hr : ∀ k, R k -> k < W.heap.size /\ some k ≠ row) : Keeps R W W' := ⟨h.os, h.tape, h.output, h.size, fun k hk => h.block k (hr k hk).1 (hr k hk).2⟩
theorem Keeps.alloc {R : Nat -> Prop} {A B : World} (h : Keeps R A B) (hr : ∀ k, R k -> k < B.heap.size) (o : Obj) : Keeps R A (B.alloc o) :=
 ⟨h.os, h.tape, h.output, Nat.le_trans h.size (by simp), fun k hk => (Below.heap_alloc _ _ _ (hr k hk)).trans (h.keep k hk)⟩
theorem Keeps.setCell {R : Nat -> Prop} {A B : World} (h : Keeps R A B) {p : Addr} (hp : ¬ R p.block) (u : Value) : Keeps R A (B.setCell p u) :=
 ⟨h.os, h.tape, h.output, Nat.le_trans h.size (by simp [World.setCell]), fun k hk => (Below.heap_setCell _ _ _ _ (fun e => hp (e ▸ hk))).trans (h.keep k hk)⟩
theorem Keeps.putObj {R : Nat -> Prop} {A B : World} (h : Keeps R A B) {l : Nat} (hl : ¬ R l) (o : Obj) : Keeps R A (B.putObj l o) :=
 ⟨h.os, h.tape, h.output, Nat.le_trans h.size (by simp), fun k hk => (World.putObj_heap_other (by rintro rfl; exact hl hk)).trans (h.keep k hk)⟩
theorem Keeps.cell {R : Nat -> Prop} {W W' : World} (h : Keeps R W W') {p : Addr} (hp : R p.block) : W'.cell? p = W.cell? p := World.cell?_of_block (w := W) (h.keep p.block hp)
theorem Keeps.frozen {R : Nat -> Prop} {W W' : World} (h : Keeps R W W') {p : Addr} (hp : R p.block) : W'.frozen? p = W.frozen? p := World.frozen?_of_block (w := W) (h.keep p.block hp)
theorem Ext.cell {W W' : World} (h : Ext W W') {p : Addr} (hp : p.block < W.heap.size) : W'.cell? p = W.cell? p := World.cell?_of_block (w := W) (h.keep p.block hp)
theorem Ext.frozen {W W' : World} (h : Ext W W') {p : Addr} (hp : p.block < W.heap.size) : W'.frozen? p = W.frozen? p := World.frozen?_of_block (w := W) (h.keep p.block hp)
theorem Ext.trans {A B C : World} (h : Ext A B) (k : Ext B C) : Ext A C :=
 ⟨k.os.trans h.os, k.tape.trans h.tape, k.output.trans h.output, Nat.le_trans h.drawn k.drawn, Nat.le_trans h.size k.size, fun i hi => (k.keep i (Nat.lt_of_lt_of_le hi h.size)).trans (h.keep i hi)⟩
theorem Ext.cells {A B : World} (h : Ext A B) : (∀ b o, b < A.heap.size -> B.cell? ⟨b, o, none⟩ = A.cell? ⟨b, o, none⟩) /\ (∀ b o, b < A.heap.size -> B.frozen? ⟨b, o, none⟩ = A.frozen? ⟨b, o, none⟩) :=
 ⟨fun b o hb => h.cell (p := ⟨b, o, none⟩) hb, fun b o hb => h.frozen (p := ⟨b, o, none⟩) hb⟩
theorem belowCells {A B : World} (h : Below A.heap.size A B) : (∀ b o, b < A.heap.size -> B.cell? ⟨b, o, none⟩ = A.cell? ⟨b, o, none⟩) /\ (∀ b o, b < A.heap.size -> B.frozen? ⟨b, o, none⟩ = A.frozen? ⟨b, o, none⟩) :=
 ⟨fun b o hb => h.cell (p := ⟨b, o, none⟩) hb, fun b o hb => h.frozen (p := ⟨b, o, none⟩) hb⟩
theorem Ext.alloc {A B : World} (h : Ext A B) (o : Obj) : Ext A (B.alloc o) :=
 ⟨h.os, h.tape, h.output, h.drawn, Nat.le_trans h.size (by simp), fun k hk => (Below.heap_alloc _ _ _ (Nat.lt_of_lt_of_le hk h.size)).trans (h.keep k hk)⟩
theorem Ext.drew {A B : World} (h : Ext A B) : Ext A B.drew := ⟨h.os, h.tape, h.output, Nat.le_succ_of_le h.drawn, h.size, h.keep⟩
theorem Ext.setCell {A B : World} (h : Ext A B) {p : Addr} (hp : A.heap.size <= p.block) (u : Value) : Ext A (B.setCell p u) :=
 ⟨h.os, h.tape, h.output, h.drawn, Nat.le_trans h.size (by simp [World.setCell]), fun k hk => (Below.heap_setCell _ _ _ _ (by omega)).trans (h.keep k hk)⟩
theorem Ext.putObj {A B : World} (h : Ext A B) {l : Nat} (hl : A.heap.size <= l) (o : Obj) : Ext A (B.putObj l o) :=
 ⟨h.os, h.tape, h.output, h.drawn, Nat.le_trans h.size (by simp), fun k hk => (World.putObj_heap_other (by omega)).trans (h.keep k hk)⟩
theorem Ext.refl (A : World) : Ext A A := ⟨rfl, rfl, rfl, Nat.le_refl _, Nat.le_refl _, fun _ _ => rfl⟩

theorem Ext.grow {W W' : World} (h : Ext W W') : ∃ q os, W' = Sort.grow (W.drewN q) os := by
 refine ⟨W'.drawn - W.drawn, W'.heap.extract W.heap.size W'.heap.size, ?_⟩
 have hh : W'.heap = W.heap ++ W'.heap.extract W.heap.size W'.heap.size := by
  apply Array.ext_getElem?
  intro k
  rw [Array.getElem?_append]
  split
  ·exact h.keep k ‹_›
  ·rw [Array.getElem?_extract]
   have hs := h.size
   split
   ·congr 1; omega
   ·rw [Array.getElem?_eq_none]; omega
 have h1 := h.os
 have h2 := h.tape
 have h3 := h.output
 have h4 := h.drawn
 have h5 : W.drawn + (W'.drawn - W.drawn) = W'.drawn := by omega
 cases W with
 | mk a b c d e =>
 cases W' with
 | mk a' b' c' d' e' =>
  simp only [Sort.grow, World.drewN] at *
  subst h1 h2 h3
  rw [h5, <- hh]

theorem Keeps.step {S : Nat -> Prop} {A B C : World} (h : Keeps S A B) (hS : ∀ k, S k -> k < A.heap.size) (hx : Ext B C) : Keeps S A C := h.tr (hx.mono fun k hk => Nat.lt_of_lt_of_le (hS k hk) h.size)
def Blk (w : World) (b : Nat) (c : Array Value) (t : TypeId) : Prop := w.heap[b]? = some (.cells c t (0, 0))
theorem Blk.cell {w : World} {b : Nat} {c : Array Value} {t : TypeId} (h : Blk w b c t) (k : Nat) : w.cell? ⟨b, k, none⟩ = c[k]? := by unfold Blk at h; simp [World.cell?, h]
theorem Blk.frozen {w : World} {b : Nat} {c : Array Value} {t : TypeId} (h : Blk w b c t) (k : Nat) : w.frozen? ⟨b, k, none⟩ = false := by unfold Blk at h; simp [World.frozen?, h]
theorem Blk.lt {w : World} {b : Nat} {c : Array Value} {t : TypeId} (h : Blk w b c t) : b < w.heap.size := (Array.getElem?_eq_some_iff.1 h).1
theorem Blk.keeps {w w' : World} {b : Nat} {c : Array Value} {t : TypeId} (h : Blk w b c t) {R : Nat -> Prop} (hk : Keeps R w w') (hb : R b) : Blk w' b c t := (hk.keep b hb).trans h
theorem Blk.ext {w w' : World} {b : Nat} {c : Array Value} {t : TypeId} (h : Blk w b c t) (hk : Ext w w') : Blk w' b c t := (hk.keep b h.lt).trans h
theorem Blk.below {w w' : World} {b n : Nat} {c : Array Value} {t : TypeId} (h : Blk w b c t) (hk : Below n w w') (hb : b < n) : Blk w' b c t := (hk.block b hb).trans h
theorem Blk.grown {w w' : World} {b : Nat} {c : Array Value} {t : TypeId} {row : Option Nat} (h : Blk w b c t) (hg : w.grownBy w' row) (hb : some b ≠ row) : Blk w' b c t := (hg.block b h.lt hb).trans h
theorem Blk.same {w w' : World} {b : Nat} {c : Array Value} {t : TypeId} (h : Blk w b c t) (hk : w'.heap[b]? = w.heap[b]?) : Blk w' b c t := hk.trans h
theorem Blk.alloc {w : World} {b : Nat} {c : Array Value} {t : TypeId} (h : Blk w b c t) (o : Obj) : Blk (w.alloc o) b c t := h.ext ((Ext.refl w).alloc o)
theorem Blk.new (w : World) (c : Array Value) (t : TypeId) : Blk (w.alloc (.cells c t (0, 0))) w.heap.size c t := World.alloc_heap_new w _
theorem Blk.at {w : World} {b b' : Nat} {c : Array Value} {t : TypeId} (h : Blk w b c t) (e : b = b') : Blk w b' c t := e ▸ h
theorem Blk.set {w : World} {b : Nat} {c : Array Value} {t : TypeId} (h : Blk w b c t) (k : Nat) (v : Value) : Blk (w.setCell ⟨b, k, none⟩ v) b (c.setIfInBounds k v) t := by
 unfold Blk at *
 simp [World.setCell, Array.getElem?_modify, h]
theorem Blk.other {w : World} {b : Nat} {c : Array Value} {t : TypeId} (h : Blk w b c t) {p : Addr} (hp : p.block ≠ b) (v : Value) : Blk (w.setCell p v) b c t := h.same (Below.heap_setCell _ _ _ _ (Ne.symm hp))
theorem Blk.put {w : World} {b : Nat} {c : Array Value} {t : TypeId} (h : Blk w b c t) {l : Nat} (hl : l ≠ b) (o : Obj) : Blk (w.putObj l o) b c t := h.same (World.putObj_heap_other (Ne.symm hl))
theorem news_blk {w : World} {b : Nat} {c : Array Value} {t : TypeId} (h : Blk w b c t) : ∀ j u, c.toList[j]? = some u -> w.cell? ((⟨b, 0, none⟩ : Addr).add j) = some u := fun j u hu => by
 have hadd : (⟨b, 0, none⟩ : Addr).add j = ⟨b, j, none⟩ := by unfold Addr.add; split <;> simp_all
 rw [hadd, h.cell j]; simpa using hu
theorem cell_far (w : World) (p a : Addr) (v : Value) (h : p.block ≠ a.block) : (w.setCell p v).cell? a = w.cell? a := World.cell?_setCell_other _ _ _ _ (fun e => h (congrArg Addr.block e))

theorem wp_region_lexK {P : Program} {id : Nat} {Q : Exit -> Act -> World -> Prop} {a : Act} {w : World} {l : List Oper} (S : Nat -> Prop) (hm : P.follows .mixedOrders = true) (eff : Nat -> Bool) (hB : lexX .any l.toArray eff = true)
  (h : ∀ C : World -> Prop, (∀ W, C W ↔ Keeps S w W) -> Nonempty { W // C W } -> ∀ w', Keeps S w w' -> (∀ b : Nat, w'.heap[b]? = w.heap[b]?) -> w'.heap.size = w.heap.size -> Ext w w' -> wpLex Fence.wide 0 P C l.toArray eff (fun a' w' => Q .normal a' w') l 0 a w') : (Code.region id l.toArray true).wp P Q a w :=
 have hk : Keeps S w w.drew := (Keeps.refl S w).drew
 wp_region_lex hm eff hB (Keeps S w) hk (h _ (fun _ => Iff.rfl) ⟨⟨_, hk⟩⟩ _ hk (fun _ => rfl) rfl (Ext.refl w).drew)
theorem wpIn_region_lexK {F : Fence} (hF : ∀ f, F.fn f) (hd : F.depth = none) {P : Program} {id : Nat} {Q : Exit -> Act -> World -> Prop} {a : Act} {w : World} {l : List Oper} (S : Nat -> Prop) (hm : P.follows .mixedOrders = true) (eff : Nat -> Bool) (hB : lexX .any l.toArray eff = true)
  (h : ∀ C : World -> Prop, (∀ W, C W ↔ Keeps S w W) -> Nonempty { W // C W } -> ∀ w', Keeps S w w' -> (∀ b : Nat, w'.heap[b]? = w.heap[b]?) -> w'.heap.size = w.heap.size -> Ext w w' -> wpLex F 0 P C l.toArray eff (fun a' w' => Q .normal a' w') l 0 a w') : (Code.region id l.toArray true).wpIn F 0 P Q a w :=
 have hk : Keeps S w w.drew := (Keeps.refl S w).drew
 wpIn_region_lex hF hd hm eff hB (Keeps S w) hk (h _ (fun _ => Iff.rfl) ⟨⟨_, hk⟩⟩ _ hk (fun _ => rfl) rfl (Ext.refl w).drew)
theorem lexCell {C : World -> Prop} {S : Nat -> Prop} {w : World} (hC : ∀ W, C W ↔ Keeps S w W) {p : Addr} {v : Option Value} (hs : S p.block) (h : w.cell? p = v) : ∀ W : { W // C W }, W.1.cell? p = v := fun W => (((hC W.1).1 W.2).cell hs).trans h
theorem wide_fn (f : FuncId) : Fence.wide.fn f = True := rfl
theorem wide_depth : Fence.wide.depth = none := rfl

def Move (d : Bool) (T : Nat -> Prop) (W W' : World) : Prop := Keeps (fun k => k < W.heap.size /\ ¬ T k) W W' /\ (d = true -> W.drawn <= W'.drawn)
theorem Move.put {d : Bool} {T : Nat -> Prop} {W : World} {l : Nat} (hl : T l) (o : Obj) : Move d T W (W.putObj l o) := ⟨(Keeps.refl _ _).putObj (fun h => h.2 hl) _, fun _ => Nat.le_refl _⟩
theorem Move.ext {d : Bool} {T : Nat -> Prop} {W W' : World} (h : Ext W W') : Move d T W W' := ⟨h.mono fun _ h => h.1, fun _ => h.drawn⟩
theorem Move.refl (d : Bool) (T : Nat -> Prop) (W : World) : Move d T W W := .ext (Ext.refl W)
theorem Move.mono {d : Bool} {T T' : Nat -> Prop} {W W' : World} (h : Move d T W W') (ht : ∀ k, T k -> T' k) : Move d T' W W' := ⟨h.1.mono fun k hk => ⟨hk.1, fun h => hk.2 (ht k h)⟩, h.2⟩

def Stable {β : Type} (d : Bool) (B : Nat) (J : β -> (Nat -> Prop) -> World -> Prop) : Prop :=
 ∀ s T T' W W', J s T W -> (∀ k, T k -> B <= k /\ k < W.heap.size) -> (∀ k, T' k -> B <= k /\ k < W'.heap.size) -> (∀ k, T k -> T' k) -> (∀ k, T' k -> T k \/ W.heap.size <= k) -> Move d T W W' -> J s T' W'

theorem Stable.ext {d : Bool} {β : Type} {B : Nat} {J : β -> (Nat -> Prop) -> World -> Prop} (h : Stable d B J) {s : β} {T : Nat -> Prop} {W W' : World} (hj : J s T W) (hT : ∀ k, T k -> B <= k /\ k < W.heap.size) (hx : Ext W W') : J s T W' :=
 h s T T W W' hj hT (fun k hk => ⟨(hT k hk).1, Nat.lt_of_lt_of_le (hT k hk).2 hx.size⟩) (fun _ h => h) (fun _ h => .inl h) (.ext hx)
theorem Blk.stab {d : Bool} {B : Nat} {T : Nat -> Prop} {W W' : World} {b : Nat} {c : Array Value} {t : TypeId} (h : Blk W b c t) (hT : ∀ k, T k -> B <= k /\ k < W.heap.size) (hk : Move d T W W') (hb : b < B) : Blk W' b c t :=
 h.keeps hk.1 ⟨h.lt, fun ht => by have := (hT _ ht).1; omega⟩
theorem Ext.stab {B : Nat} {T : Nat -> Prop} {A W W' : World} (h : Ext A W) (hT : ∀ k, T k -> B <= k /\ k < W.heap.size) (hk : Move true T W W') (hA : A.heap.size <= B) : Ext A W' :=
 ⟨hk.1.os.trans h.os, hk.1.tape.trans h.tape, hk.1.output.trans h.output, Nat.le_trans h.drawn (hk.2 rfl), Nat.le_trans h.size hk.1.size,
  fun k hk' => (hk.1.keep k ⟨Nat.lt_of_lt_of_le hk' h.size, fun ht => by have := (hT _ ht).1; omega⟩).trans (h.keep k hk')⟩
theorem belowStab {d : Bool} {B n : Nat} {T : Nat -> Prop} {A W W' : World} (h : Below n A W) (hT : ∀ k, T k -> B <= k /\ k < W.heap.size) (hk : Move d T W W') (hn : n <= A.heap.size) (hB : n <= B) : Below n A W' :=
 ⟨hk.1.os.trans h.os, hk.1.tape.trans h.tape, hk.1.output.trans h.output, Nat.le_trans h.size hk.1.size, fun k hk' => (hk.1.keep k ⟨by have := h.size; omega, fun ht => by have := (hT _ ht).1; omega⟩).trans (h.block k hk')⟩
theorem ownsRow_keeps {W W' : World} {base : Nat} {e : TypeId} {size : Nat} {v : Value} {n : Nat} {xs : List Value} (h : W.ownsRow base e size v n xs) {R : Nat -> Prop} (hk : Keeps R W W') (hr : ∀ k, v.ownBlock = some k -> R k) : W'.ownsRow base e size v n xs := by
 refine ⟨h.1, ?_⟩
 rcases h.2 with hn | ⟨g, cap, cur, rfl, hb, hgg, rest⟩
 ·exact .inl hn
 ·exact .inr ⟨g, cap, cur, rfl, hb, (hk.keep g (hr g rfl)).trans hgg, rest⟩

theorem ownsRow_form {W : World} {base : Nat} {e : TypeId} {size : Nat} {v : Value} {n : Nat} {xs : List Value} (h : W.ownsRow base e size v n xs) : ∃ a c, v = .slice a n c := by
 rcases h.2 with ⟨rfl, rfl⟩ | ⟨g, cap, cur, rfl, _⟩
 ·exact ⟨none, 0, rfl⟩
 ·exact ⟨_, cap, rfl⟩
theorem ownsRow_base {W : World} {base base' : Nat} {e : TypeId} {size : Nat} {v : Value} {n : Nat} {xs : List Value} (h : W.ownsRow base e size v n xs) (hb : base' <= base) : W.ownsRow base' e size v n xs := by
 refine ⟨h.1, ?_⟩
 rcases h.2 with hn | ⟨g, cap, cur, rfl, h1, rest⟩
 ·exact .inl hn
 ·exact .inr ⟨g, cap, cur, rfl, Nat.le_trans hb h1, rest⟩

section
variable {P : Program} {d : Bool}

def Seq {α : Type} (d : Bool) (P : Program) (g : Nat) (lb : Array Value) (encs : α -> Array Value) (R : Nat -> Prop) (xs : List α) (w : World) : Prop :=
 ∀ (l : Nat) (J Jx : List α -> (Nat -> Prop) -> World -> Prop) (W : World), Keeps (· < w.heap.size) w W -> Stable d W.heap.size J -> Stable d W.heap.size Jx ->
  (∀ pre x T W1, (pre ++ [x]) <+: xs -> (∀ k, T k -> W.heap.size <= k /\ k < W1.heap.size) -> Keeps R W W1 -> J pre T W1 ->
   YieldAt Fence.wide 0 P l (encs x) W1 fun e W' =>
    (e = .returned (.bool true) /\ J (pre ++ [x]) T W' /\ Keeps (fun k => R k \/ T k) W1 W') \/ (e = .returned (.bool false) /\ Jx (pre ++ [x]) T W' /\ Keeps T W1 W')) ->
  J [] (fun _ => False) W ->
  Calls P g (#[.func (.yield l) #[] #[]] ++ lb) W fun e W' => (∃ v, e = .returned v) /\ ∃ T, (∀ k, T k -> W.heap.size <= k /\ k < W'.heap.size) /\ (J xs T W' \/ ∃ pre, pre <+: xs /\ Jx pre T W')

theorem Seq.at {α : Type} {P : Program} {d : Bool} {g : Nat} {lb : Array Value} {encs : α -> Array Value} {R : Nat -> Prop} {xs : List α} {w w' : World} (h : Seq d P g lb encs R xs w) (hk : Keeps (· < w.heap.size) w w') : Seq d P g lb encs R xs w' :=
 fun l J Jx W hK => h l J Jx W (hk.tr (hK.mono fun _ hk' => Nat.lt_of_lt_of_le hk' hk.size))

def roundQ {α : Type} (R T : Nat -> Prop) (W0 : World) (I : List α -> (Nat -> Prop) -> World -> Prop) (Ix : Code -> List α -> (Nat -> Prop) -> World -> Prop) (xs : List α) : Exit -> Act -> World -> Prop
 | .normal, _, W' => Keeps (fun k => R k \/ T k) W0 W' /\ I xs T W'
 | .ret, _, W' => Keeps T W0 W' /\ Ix .ret xs T W'
 | .exit id, _, W' => Keeps T W0 W' /\ Ix (.exit id) xs T W'
 | .goto t, _, W' => Keeps T W0 W' /\ Ix (.goto t) xs T W'
 | .panic _, _, _ => False
 | .outgrown, _, _ => False

variable {F : Fence}

theorem range_core {α : Type} (hF : ∀ f, F.fn f) (hC : ∀ {f args w R}, Calls P f args w R -> CallsIn F 0 P f args w R) (hYd : ∀ {l f tmps asg body w R}, RoundIn F 0 P l f tmps asg body w R -> RoundIn Fence.wide 0 P l f tmps asg body w R)
  {gf : Nat} {lb : Array Value} {encs : α -> Array Value} {R : Nat -> Prop} {xs : List α} {w : World} (hseq : Seq d P gf lb encs R xs w)
  {ps : Array Tmp} {assign body : Code} {fn : FuncId} (tmps : Array Value) (dfr : Nat) (hps : ∀ x, (encs x).size = ps.size) (hRw : ∀ k, R k -> k < w.heap.size)
  (l : Nat) (T0 : Nat -> Prop) (hT0 : ∀ k, T0 k -> w.heap.size <= k /\ k < l + 1) (hlT : T0 l) (W1 : World) (hls : W1.heap.size = l + 1)
  (hl : W1.heap[l]? = some (.loop { state := .ready, pending := none, fn, tmps, params := ps, assign, body, defers := dfr })) (hW1 : Ext w W1)
  (I : List α -> (Nat -> Prop) -> World -> Prop) (Ix : Code -> List α -> (Nat -> Prop) -> World -> Prop) (hI : Stable d w.heap.size I) (hIx : ∀ c, Stable d w.heap.size (Ix c)) (h0 : I [] T0 W1)
  (Ia : List α × α × Act -> (Nat -> Prop) -> World -> Prop) (hIa : Stable d w.heap.size Ia)
  (hassign : ∀ pre x T W, pre ++ [x] <+: xs -> (∀ k, T0 k -> T k) -> (∀ k, T k -> w.heap.size <= k /\ k < W.heap.size) -> Keeps R w W -> I pre T W ->
   assign.wpIn (F.inRound l) 0 P (Exit.then (fun a1 W' => Keeps (fun k => R k \/ T k) W W' /\ Ia (pre, x, a1) T W') (fun _ _ _ => False)) { tmps := (ps.zip (encs x)).foldl (fun t (p, v) => t.setIfInBounds p v) tmps, defers := [] } W)
  (hbody : ∀ pre x T a1 W, pre ++ [x] <+: xs -> (∀ k, T0 k -> T k) -> (∀ k, T k -> w.heap.size <= k /\ k < W.heap.size) -> Keeps R w W -> (∃ r : Loop, W.heap[l]? = some (.loop r) /\ r.defers = dfr) -> Ia (pre, x, a1) T W ->
   body.wpIn (F.inRound l) 0 P (roundQ R T W I Ix (pre ++ [x])) a1 W) :
  CallsIn F 0 P gf (#[.func (.yield l) #[] #[]] ++ lb) W1 fun e W3 => (∃ v, e = .returned v) /\ ∃ T W4 jump, (Instr.endLoop l).run P W3 = .ok jump W4 /\ (∀ k, T0 k -> T k) /\ (∀ k, T k -> w.heap.size <= k /\ k < W4.heap.size) /\
   (∀ k, T0 k -> k ≠ l -> W4.heap[k]? = W1.heap[k]?) /\ Keeps (fun k => R k \/ T0 k) W1 W1 /\
   match jump with
   | none => I xs T W4
   | some c => ∃ pre, pre <+: xs /\ Ix c pre T W4 := by
 obtain ⟨rec, hrec⟩ : ∃ rec : LoopState -> Option Code -> Loop, rec = fun st pe => { state := st, pending := pe, fn, tmps, params := ps, assign, body, defers := dfr } := ⟨_, rfl⟩
 have hl1 : W1.heap[l]? = some (.loop (rec .ready none)) := by rw [hrec]; exact hl
 have hTu : ∀ {T : Nat -> Prop} {W : World}, (∀ k, T k -> W1.heap.size <= k /\ k < W.heap.size) -> l < W.heap.size -> ∀ k, (T k \/ T0 k) -> w.heap.size <= k /\ k < W.heap.size := fun hT hlW k hk => by
  have hsz := hW1.size
  rcases hk with hk | hk
  ·have := hT k hk; omega
  ·have := hT0 k hk; omega
 -- the invariant with the record beside it
 have hstabG : ∀ {β : Type} {G : β -> (Nat -> Prop) -> World -> Prop} (rs : β -> Loop -> Prop), Stable d w.heap.size G ->
   Stable d W1.heap.size (fun (s : β) T W => G s (fun k => T k \/ T0 k) W /\ (∃ r, rs s r /\ W.heap[l]? = some (.loop r)) /\ (∀ k, T0 k -> k ≠ l -> W.heap[k]? = W1.heap[k]?) /\ l < W.heap.size) := by
  intro β G rs hG s T T' W W' hs h1 h2 h3 h4 h5
  obtain ⟨hg, ⟨r, hr, hlW⟩, hk, hlt⟩ := hs
  have hkeepl : ∀ k, T0 k -> W'.heap[k]? = W.heap[k]? := fun k hk => h5.1.keep k ⟨by have := (hT0 k hk).2; omega, fun ht => by have := (h1 k ht).1; have := (hT0 k hk).2; omega⟩
  refine ⟨hG s _ _ W W' hg (hTu h1 hlt) (hTu h2 (Nat.lt_of_lt_of_le hlt h5.1.size)) (fun k hk => hk.imp (h3 k) id) (fun k hk => ?_) (h5.mono fun k hk => .inl hk), ⟨r, hr, (hkeepl l hlT).trans hlW⟩, fun k hk0 hne => (hkeepl k hk0).trans (hk k hk0 hne), Nat.lt_of_lt_of_le hlt h5.1.size⟩
  rcases hk with hk | hk
  ·exact (h4 k hk).imp .inl id
  ·exact .inl (.inr hk)
 have hrl : ¬ R l := fun h => by have := hRw l h; have := (hT0 l hlT).1; omega
 refine CallsIn.mono (hC (hseq l (fun pre T W => I pre (fun k => T k \/ T0 k) W /\ (∃ r, r = rec .ready none /\ W.heap[l]? = some (.loop r)) /\ (∀ k, T0 k -> k ≠ l -> W.heap[k]? = W1.heap[k]?) /\ l < W.heap.size)
  (fun pre T W => ∃ c, Ix c pre (fun k => T k \/ T0 k) W /\ (∃ r, r = rec .done (some c) /\ W.heap[l]? = some (.loop r)) /\ (∀ k, T0 k -> k ≠ l -> W.heap[k]? = W1.heap[k]?) /\ l < W.heap.size)
  W1 hW1.keeps (hstabG (fun _ r => r = rec .ready none) hI)
  (fun s T T' W W' ⟨c, hc⟩ h1 h2 h3 h4 h5 => ⟨c, hstabG (fun _ r => r = rec .done (some c)) (hIx c) s T T' W W' hc h1 h2 h3 h4 h5⟩) ?_
  ⟨hI _ _ _ W1 W1 h0 (fun k hk => ⟨(hT0 k hk).1, by have := (hT0 k hk).2; omega⟩) (hTu (fun _ h => h.elim) (by omega)) (fun k hk => .inr hk) (fun k hk => .inl (hk.resolve_left id)) (Move.refl _ _ _), ⟨_, rfl, hl1⟩, fun _ _ _ => rfl, by omega⟩)) ?_
 ·-- one round
  rintro pre x T W hpre hT hRW ⟨hi, ⟨r0, hr0, hlW⟩, hkD, hlt⟩
  subst hr0
  have hy := run_yield (P := P) (args := encs x) hlW (by rw [hrec]; exact hps x)
  rw [hrec] at hy
  have hTT := hTu hT hlt
  have hRW' : Keeps R w W := (hW1.mono hRw).tr hRW
  refine ⟨fn, _, assign, body, hy, hYd (roundIn_of_wpIn (hF fn) (wpIn_mono (hassign pre x _ W hpre (fun k hk => .inr hk) hTT hRW' hi) ?_))⟩
  rintro e a1 Wa hp
  cases e with
  | normal =>
   obtain ⟨hka, hia⟩ := hp
   have hla : Wa.heap[l]? = some (.loop (rec .ready none)) := (hka.keep l (.inr (.inr hlT))).trans hlW
   have hlta : l < Wa.heap.size := Nat.lt_of_lt_of_le hlt hka.size
   refine ⟨_, run_beginRound hla (by rw [hrec]), ?_⟩
   obtain ⟨Wb, hWb⟩ : ∃ Wb, Wb = Wa.putObj l (.loop { rec .ready none with state := .busy }) := ⟨_, rfl⟩
   rw [<- hWb]
   have hsb : Wb.heap.size = Wa.heap.size := by rw [hWb]; simp
   have hlb : Wb.heap[l]? = some (.loop { rec .ready none with state := .busy }) := by rw [hWb]; exact World.putObj_heap_same hlta
   have hab : ∀ {S : Nat -> Prop}, ¬ S l -> Keeps S Wa Wb := fun hS => by rw [hWb]; exact (Keeps.refl _ _).putObj hS _
   have hTTa : ∀ k, (T k \/ T0 k) -> w.heap.size <= k /\ k < Wa.heap.size := fun k hk => ⟨(hTT k hk).1, Nat.lt_of_lt_of_le (hTT k hk).2 hka.size⟩
   have hib : Ia (pre, x, a1) (fun k => T k \/ T0 k) Wb := hIa _ _ _ Wa Wb hia hTTa (fun k hk => by rw [hsb]; exact hTTa k hk) (fun _ h => h) (fun _ h => .inl h) (by rw [hWb]; exact .put (.inr hlT) _)
   have hRWb : Keeps R w Wb := hRW'.tr ((hka.mono fun k hk => .inl hk).tr (hab hrl))
   refine wpIn_mono (hbody pre x _ a1 Wb hpre (fun k hk => .inr hk) (fun k hk => by rw [hsb]; exact hTTa k hk) hRWb ⟨_, hlb, by rw [hrec]⟩ hib) ?_
   -- the round's end
   have fin : ∀ (jump : Option Code) (Wc : World) (G : (Nat -> Prop) -> World -> Prop), (∀ T T' W W', G T W -> (∀ k, T k -> w.heap.size <= k /\ k < W.heap.size) -> (∀ k, T' k -> w.heap.size <= k /\ k < W'.heap.size) -> (∀ k, T k -> T' k) -> (∀ k, T' k -> T k \/ W.heap.size <= k) -> Move d T W W' -> G T' W') ->
     Keeps (fun k => T k \/ T0 k) Wb Wc -> G (fun k => T k \/ T0 k) Wc ->
     ∃ Wd, (Instr.endRound l jump).run P Wc = .ok (.bool jump.isNone) Wd /\ G (fun k => T k \/ T0 k) Wd /\ Wd.heap[l]? = some (.loop (rec (if jump.isNone then .ready else .done) jump)) /\ (∀ k, T0 k -> k ≠ l -> Wd.heap[k]? = W1.heap[k]?) /\ l < Wd.heap.size /\ Keeps T W Wd /\ (∀ S : Nat -> Prop, ¬ S l -> Keeps S Wb Wc -> Keeps S Wa Wd) := by
    intro jump Wc G hG hkc hg
    have hlc : Wc.heap[l]? = some (.loop { rec .ready none with state := .busy }) := (hkc.keep l (.inr hlT)).trans hlb
    have hltc : l < Wc.heap.size := by rw [<- hsb] at hlta; exact Nat.lt_of_lt_of_le hlta hkc.size
    have hend := run_endRound (P := P) jump hlc
    rw [hrec] at hend ⊢
    have hTTc : ∀ k, (T k \/ T0 k) -> w.heap.size <= k /\ k < Wc.heap.size := fun k hk => ⟨(hTTa k hk).1, by have := (hTTa k hk).2; rw [<- hsb] at this; exact Nat.lt_of_lt_of_le this hkc.size⟩
    have hcd : ∀ {S : Nat -> Prop}, ¬ S l -> Keeps S Wa (Wc.putObj l (.loop (rec (if jump.isNone then .ready else .done) jump))) \/ ¬ Keeps S Wb Wc := fun {S} hS => by
     by_cases h : Keeps S Wb Wc
     ·exact .inl (((hab hS).tr h).putObj hS _)
     ·exact .inr h
    have hTl : ¬ T l := fun h => by have := (hT l h).1; omega
    rw [hrec] at hcd
    refine ⟨_, hend, hG _ _ Wc _ hg hTTc (fun k hk => by simpa using hTTc k hk) (fun _ h => h) (fun _ h => .inl h) (.put (.inr hlT) _), World.putObj_heap_same hltc, fun k hk hne => ?_, by simpa using hltc, ?_, fun S hS hk => (hcd hS).resolve_right (fun h => h hk)⟩
    ·rw [World.putObj_heap_other hne, hkc.keep k (.inr hk), hWb, World.putObj_heap_other hne, hka.keep k (.inr (.inr hk))]
     exact hkD k hk hne
    ·exact (hka.mono fun k hk => .inr (.inl hk)).tr ((hcd hTl).resolve_right (fun h => h (hkc.mono fun k hk => .inl hk)))
   rintro e a3 Wc hp
   cases e with
   | normal =>
    obtain ⟨hkc, hic⟩ := hp
    obtain ⟨Wd, hend, hg, hlD, hkD', hltD, hTk, hS⟩ := fin none Wc (I (pre ++ [x])) (fun T T' W W' => hI (pre ++ [x]) T T' W W') (hkc.mono fun k hk => .inr hk) hic
    refine ⟨_, Wd, hend, .inl ⟨rfl, ⟨hg, ⟨_, rfl, hlD⟩, hkD', hltD⟩, ?_⟩⟩
    have hTl : ¬ (R l \/ T l) := fun h => h.elim hrl (fun h => by have := (hT l h).1; omega)
    exact (hka.mono fun k hk => hk.imp id .inl).tr (hS _ hTl (hkc.mono fun k hk => hk.imp id .inl))
   | ret =>
    obtain ⟨hkc, hic⟩ := hp
    obtain ⟨Wd, hend, hg, hlD, hkD', hltD, hTk, hS⟩ := fin (some .ret) Wc (Ix .ret (pre ++ [x])) (fun T T' W W' => hIx .ret (pre ++ [x]) T T' W W') hkc hic
    exact ⟨_, Wd, hend, .inr ⟨rfl, ⟨_, hg, ⟨_, rfl, hlD⟩, hkD', hltD⟩, hTk⟩⟩
   | exit id =>
    obtain ⟨hkc, hic⟩ := hp
    obtain ⟨Wd, hend, hg, hlD, hkD', hltD, hTk, hS⟩ := fin (some (.exit id)) Wc (Ix (.exit id) (pre ++ [x])) (fun T T' W W' => hIx (.exit id) (pre ++ [x]) T T' W W') hkc hic
    exact ⟨_, Wd, hend, .inr ⟨rfl, ⟨_, hg, ⟨_, rfl, hlD⟩, hkD', hltD⟩, hTk⟩⟩
   | goto t =>
    obtain ⟨hkc, hic⟩ := hp
    obtain ⟨Wd, hend, hg, hlD, hkD', hltD, hTk, hS⟩ := fin (some (.goto t)) Wc (Ix (.goto t) (pre ++ [x])) (fun T T' W W' => hIx (.goto t) (pre ++ [x]) T T' W W') hkc hic
    exact ⟨_, Wd, hend, .inr ⟨rfl, ⟨_, hg, ⟨_, rfl, hlD⟩, hkD', hltD⟩, hTk⟩⟩
   | panic ch => exact hp.elim
   | outgrown => exact hp.elim
  | exit id => exact hp.elim
  | goto t => exact hp.elim
  | ret => exact hp.elim
  | panic ch => exact hp.elim
  | outgrown => exact hp.elim
 ·-- behind the iterator
  rintro e W2 ⟨hv, T, hT, h⟩
  refine ⟨hv, fun k => T k \/ T0 k, ?_⟩
  have fin : ∀ (st : LoopState) (jump : Option Code) (G : (Nat -> Prop) -> World -> Prop), st ≠ .busy -> (∀ T T' W W', G T W -> (∀ k, T k -> w.heap.size <= k /\ k < W.heap.size) -> (∀ k, T' k -> w.heap.size <= k /\ k < W'.heap.size) -> (∀ k, T k -> T' k) -> (∀ k, T' k -> T k \/ W.heap.size <= k) -> Move d T W W' -> G T' W') ->
    G (fun k => T k \/ T0 k) W2 -> W2.heap[l]? = some (.loop (rec st jump)) -> (∀ k, T0 k -> k ≠ l -> W2.heap[k]? = W1.heap[k]?) -> l < W2.heap.size ->
    ∃ W4, (Instr.endLoop l).run P W2 = .ok jump W4 /\ (∀ k, (T k \/ T0 k) -> w.heap.size <= k /\ k < W4.heap.size) /\ (∀ k, T0 k -> k ≠ l -> W4.heap[k]? = W1.heap[k]?) /\ G (fun k => T k \/ T0 k) W4 := by
   intro st jump G hst hG hg hl2 hk2 hlt2
   have hend := run_endLoop (P := P) hl2 (by rw [hrec]; exact hst)
   rw [hrec] at hend
   have hTT := hTu hT hlt2
   exact ⟨_, hend, fun k hk => by simpa using hTT k hk, fun k hk hne => (World.putObj_heap_other hne).trans (hk2 k hk hne), hG _ _ W2 _ hg hTT (fun k hk => by simpa using hTT k hk) (fun _ h => h) (fun _ h => .inl h) (.put (.inr hlT) _)⟩
  rcases h with ⟨hi, ⟨r, hr, hl2⟩, hk2, hlt2⟩ | ⟨pre, hpre, c, hi, ⟨r, hr, hl2⟩, hk2, hlt2⟩
  ·subst hr
   obtain ⟨W4, h1, h2, h3, h4⟩ := fin .ready none (I xs) (by decide) (fun T T' W W' => hI xs T T' W W') hi hl2 hk2 hlt2
   exact ⟨W4, none, h1, fun k hk => .inr hk, h2, h3, Keeps.refl _ _, h4⟩
  ·subst hr
   obtain ⟨W4, h1, h2, h3, h4⟩ := fin .done (some c) (Ix c pre) (by decide) (fun T T' W W' => hIx c pre T T' W W') hi hl2 hk2 hlt2
   exact ⟨W4, some c, h1, fun k hk => .inr hk, h2, h3, Keeps.refl _ _, pre, hpre, h4⟩

theorem wp_named {c : Code} {Q : Exit -> Act -> World -> Prop} {a : Act} {w : World} (h : ∀ W, W = w -> c.wp P Q a W) : c.wp P Q a w := h w rfl
theorem wpIn_named {F : Fence} {n : Nat} {c : Code} {Q : Exit -> Act -> World -> Prop} {a : Act} {w : World} (h : ∀ W, W = w -> c.wpIn F n P Q a W) : c.wpIn F n P Q a w := h w rfl

theorem wp_range {α : Type} {g : Operand} {ps : Array Tmp} {assign body : Code} {Q : Exit -> Act -> World -> Prop} {a : Act} {w : World} {gf : Nat} {lb : Array Value} {encs : α -> Array Value} {R : Nat -> Prop} {xs : List α}
  (hseq : Seq d P gf lb encs R xs w) (hg : a.eval g = .func (.func gf) #[] lb) (eg : ∀ args w, (callFunc gf args).run P w = .ok (.enter gf args) w) (hps : ∀ x, (encs x).size = ps.size) (hRw : ∀ k, R k -> k < w.heap.size)
  (I : List α -> (Nat -> Prop) -> World -> Prop) (Ix : Code -> List α -> (Nat -> Prop) -> World -> Prop) (hI : Stable d w.heap.size I) (hIx : ∀ c, Stable d w.heap.size (Ix c)) (h0 : I [] (fun _ => False) w)
  (Ia : List α × α × Act -> (Nat -> Prop) -> World -> Prop) (hIa : Stable d w.heap.size Ia)
  (hassign : ∀ l pre x T W, pre ++ [x] <+: xs -> (∀ k, T k -> w.heap.size <= k /\ k < W.heap.size) -> Keeps R w W -> I pre T W ->
   assign.wpIn (Fence.wide.inRound l) 0 P (Exit.then (fun a1 W' => Keeps (fun k => R k \/ T k) W W' /\ Ia (pre, x, a1) T W') (fun _ _ _ => False)) { tmps := (ps.zip (encs x)).foldl (fun t (p, v) => t.setIfInBounds p v) a.tmps, defers := [] } W)
  (hbody : ∀ l pre x T a1 W, pre ++ [x] <+: xs -> (∀ k, T k -> w.heap.size <= k /\ k < W.heap.size) -> Keeps R w W -> T l -> (∃ r : Loop, W.heap[l]? = some (.loop r)) -> Ia (pre, x, a1) T W ->
   body.wpIn (Fence.wide.inRound l) 0 P (roundQ R T W I Ix (pre ++ [x])) a1 W)
  (hdone : ∀ D T W, w.heap.size <= D -> T D -> (∀ k, T k -> w.heap.size <= k /\ k < W.heap.size) -> I xs T W -> W.heap[D]? = some (.deferred (some [])) -> Q .normal { a with defers := { target := .collected D, args := #[] } :: a.defers } W)
  (hstop : ∀ D c pre T W, w.heap.size <= D -> T D -> (∀ k, T k -> w.heap.size <= k /\ k < W.heap.size) -> pre <+: xs -> Ix c pre T W -> W.heap[D]? = some (.deferred (some [])) -> c.wp P Q { a with defers := { target := .collected D, args := #[] } :: a.defers } W) :
  (Code.rangeFunc g ps assign body).wp P Q a w := by
 refine wpIn_wide.1 (wpIn_rangeFunc (n := 0) ?_)
 intro fn hfn
 obtain ⟨W1, hW1⟩ : ∃ W1, W1 = (w.alloc (.deferred (some []))).alloc (.loop { state := .ready, pending := none, fn, tmps := a.tmps, params := ps, assign, body, defers := w.heap.size }) := ⟨_, rfl⟩
 have hL1 : W1.heap[w.heap.size + 1]? = some (.loop { state := .ready, pending := none, fn, tmps := a.tmps, params := ps, assign, body, defers := w.heap.size }) := by
  rw [hW1]; have := World.alloc_heap_new (w.alloc (.deferred (some []))) (.loop { state := .ready, pending := none, fn, tmps := a.tmps, params := ps, assign, body, defers := w.heap.size }); rwa [World.size_alloc] at this
 have hK1 : W1.heap[w.heap.size]? = some (.deferred (some [])) := by
  rw [hW1]; exact (Below.heap_alloc _ _ _ (by simp)).trans (World.alloc_heap_new w _)
 have hsz : W1.heap.size = w.heap.size + 1 + 1 := by rw [hW1]; simp
 have hx1 : Ext w W1 := by rw [hW1]; exact ((Ext.refl w).alloc _).alloc _
 refine ⟨w.heap.size + 1, [{ target := .collected w.heap.size, args := #[] }], W1, { target := .fn (.func gf) lb, args := #[.func (.yield (w.heap.size + 1)) #[] #[]] }, W1, gf,
  #[.func (.yield (w.heap.size + 1)) #[] #[]] ++ lb, W1, ?_, ?_, ?_, ?_, fun h => (by cases h), ?_⟩
 ·rw [hW1]; exact run_enterLoop_outer _ _ _ _ _
 ·simp only [resolve, hg]
  simp [go_sem]
 ·intro f' _; trivial
 ·simp [invoke, go_sem, eg]
 ·refine (range_core (F := Fence.wide) (fun _ => trivial) (fun h => callsIn_wide.2 h) (fun h => h) hseq a.tmps w.heap.size hps hRw (w.heap.size + 1) (fun k => k = w.heap.size \/ k = w.heap.size + 1) (fun k hk => by omega) (.inr rfl) W1 hsz hL1 hx1 I Ix hI hIx
   (hI _ _ _ w W1 h0 (fun _ h => h.elim) (fun k hk => by omega) (fun _ h => h.elim) (fun k hk => .inr (by omega)) (.ext hx1)) Ia hIa
   (fun pre x T W h1 _ h3 h4 h5 => hassign _ pre x T W h1 h3 h4 h5) (fun pre x T a1 W h1 h2 h3 h4 ⟨r, h5, _⟩ h6 => hbody _ pre x T a1 W h1 h3 h4 (h2 _ (.inr rfl)) ⟨r, h5⟩ h6)).mono ?_
  rintro e W3 ⟨⟨v, rfl⟩, T, W4, jump, hend, hT0, hT, hk, _, hj⟩
  refine ⟨jump, W4, hend, ?_⟩
  have hD : W4.heap[w.heap.size]? = some (.deferred (some [])) := (hk _ (.inl rfl) (by omega)).trans hK1
  cases jump with
  | none => exact hdone _ T W4 (Nat.le_refl _) (hT0 _ (.inl rfl)) hT hj hD
  | some c =>
   obtain ⟨pre, hpre, hx⟩ := hj
   exact wpIn_wide.2 (hstop _ c pre T W4 (Nat.le_refl _) (hT0 _ (.inl rfl)) hT hpre hx hD)

theorem wp_range1 {α : Type} {g : Operand} {ps : Array Tmp} {assign body : Code} {Q : Exit -> Act -> World -> Prop} {a : Act} {w : World} {gf : Nat} {lb : Array Value} {encs : α -> Array Value} {R : Nat -> Prop} {xs : List α}
  (hseq : Seq d P gf lb encs R xs w) (hg : a.eval g = .func (.func gf) #[] lb) (eg : ∀ args w, (callFunc gf args).run P w = .ok (.enter gf args) w) (hps : ∀ x, (encs x).size = ps.size) (hRw : ∀ k, R k -> k < w.heap.size)
  (I : List α -> (Nat -> Prop) -> World -> Prop) (Ix : Code -> List α -> (Nat -> Prop) -> World -> Prop) (hI : Stable d w.heap.size I) (hIx : ∀ c, Stable d w.heap.size (Ix c)) (h0 : I [] (fun _ => False) w) (a₁ : α -> Act)
  (hassign : ∀ l x W (K : Act -> World -> Prop), K (a₁ x) W -> assign.wpIn (Fence.wide.inRound l) 0 P (Exit.then K (fun _ _ _ => False)) { tmps := (ps.zip (encs x)).foldl (fun t (p, v) => t.setIfInBounds p v) a.tmps, defers := [] } W)
  (hbody : ∀ l pre x T W, pre ++ [x] <+: xs -> (∀ k, T k -> w.heap.size <= k /\ k < W.heap.size) -> Keeps R w W -> T l -> (∃ r : Loop, W.heap[l]? = some (.loop r)) -> I pre T W ->
   body.wpIn (Fence.wide.inRound l) 0 P (roundQ R T W I Ix (pre ++ [x])) (a₁ x) W)
  (hdone : ∀ D T W, w.heap.size <= D -> T D -> (∀ k, T k -> w.heap.size <= k /\ k < W.heap.size) -> I xs T W -> W.heap[D]? = some (.deferred (some [])) -> Q .normal { a with defers := { target := .collected D, args := #[] } :: a.defers } W)
  (hstop : ∀ D c pre T W, w.heap.size <= D -> T D -> (∀ k, T k -> w.heap.size <= k /\ k < W.heap.size) -> pre <+: xs -> Ix c pre T W -> W.heap[D]? = some (.deferred (some [])) -> c.wp P Q { a with defers := { target := .collected D, args := #[] } :: a.defers } W) :
  (Code.rangeFunc g ps assign body).wp P Q a w :=
 wp_range hseq hg eg hps hRw I Ix hI hIx h0 (fun z T W => z.2.2 = a₁ z.2.1 /\ I z.1 T W) (fun z T T' W W' hz h1 h2 h3 h4 h5 => ⟨hz.1, hI z.1 T T' W W' hz.2 h1 h2 h3 h4 h5⟩)
  (fun l pre x T W _ _ _ hi => hassign l x W _ ⟨Keeps.refl _ _, rfl, hi⟩) (fun l pre x T a1 W h1 h2 h3 h4 h5 h6 => by obtain ⟨h6, h7⟩ := h6; dsimp only at h6; subst h6; exact hbody l pre x T W h1 h2 h3 h4 h5 h7) hdone hstop
theorem calls_of_wp_marks {f : FuncId} {fn : Func} {c : Code} {args : Array Value} {w : World} {R : Ending -> World -> Prop} (hf : P.funcs[f]? = some fn) (hb : fn.body = some c)
  (h : c.wp P (bodyPostM Fence.wide 0 P fn R) { tmps := args ++ Array.replicate (fn.ntmps - args.size) undef, defers := [] } w) : Calls P f args w R :=
 callsIn_wide.1 (callsIn_of_wp_marks hf hb trivial (wpIn_wide.2 h))

theorem markPost_ret {fn : Func} {R : Ending -> World -> Prop} {a : Act} {W : World} {D : Nat} {v : Value} (hd : a.defers = [{ target := .collected D, args := #[] }]) (hD : W.heap[D]? = some (.deferred (some [])))
  (hr : (results fn a.tmps).run P (W.putObj D (.deferred none)) = .ok v (W.putObj D (.deferred none))) (hR : R (.returned v) (W.putObj D (.deferred none))) : bodyPostM Fence.wide 0 P fn R .ret a W := by
 show LeavesInM Fence.wide 0 P fn a.tmps R a.defers .returning W
 rw [hd]
 exact ⟨by simp, .inl ⟨_, _, rfl, run_takeDeferred hD, v, hr, hR⟩⟩
theorem markPost_normal {fn : Func} {R : Ending -> World -> Prop} {a : Act} {W : World} {D : Nat} {v : Value} (hd : a.defers = [{ target := .collected D, args := #[] }]) (hD : W.heap[D]? = some (.deferred (some [])))
  (hr : (results fn a.tmps).run P (W.putObj D (.deferred none)) = .ok v (W.putObj D (.deferred none))) (hR : R (.returned v) (W.putObj D (.deferred none))) : bodyPostM Fence.wide 0 P fn R .normal a W :=
 markPost_ret hd hD hr hR
theorem markPost_none {fn : Func} {R : Ending -> World -> Prop} {a : Act} {W : World} {v : Value} (hd : a.defers = []) (hr : (results fn a.tmps).run P W = .ok v W) (hR : R (.returned v) W) : bodyPostM Fence.wide 0 P fn R .ret a W := by
 show LeavesInM Fence.wide 0 P fn a.tmps R a.defers .returning W
 rw [hd]
 exact ⟨v, hr, hR⟩
theorem cell_putObj {W : World} {D : Nat} {o o' : Obj} (h : W.heap[D]? = some o) (ho : o.isCells = false) (ho' : o'.isCells = false) (a : Addr) : (W.putObj D o').cell? a = W.cell? a := by
 by_cases hb : a.block = D
 ·have h1 := World.putObj_heap_same (o := o') (Array.getElem?_eq_some_iff.1 h).1
  simp only [World.cell?, hb, h, h1]
  cases o <;> cases o' <;> first | rfl | (simp [Obj.isCells] at ho ho')
 ·exact World.cell?_of_block (World.putObj_heap_other hb)
end
end Go.Proofs.YtbiboekhakbnpaaGreatDoor

namespace Go.Proofs.YtbiboekhakbnpaaGreatDoor
open Go Go.RowKit
section
variable {F : Fence} {n : Nat} {P : Program} {C : World → Prop} {ops : Array Oper}
structure Later (p : Prop) : Prop where
 out : p
theorem laterStep {eff : Nat -> Bool} {Q : Act -> World -> Prop} {o : Oper} {rest : List Oper} {k : Nat} {a : Act} {w : World}
  (h : ∀ K : Act -> World -> Prop, (∀ a w, Later (wpLex F n P C ops eff Q rest (k + 1) a w) -> K a w) -> lexOp F n P C ops (eff k) o K a w) : Later (wpLex F n P C ops eff Q (o :: rest) k a w) := ⟨wpLex_step fun K hK => h K fun a w hl => hK a w hl.out⟩
theorem laterNil {eff : Nat -> Bool} {Q : Act -> World -> Prop} {k : Nat} {a : Act} {w : World} (h : Q a w) : Later (wpLex F n P C ops eff Q [] k a w) := ⟨h⟩
theorem lexF {isE : Bool} {o : Oper} {K : Act -> World -> Prop} {a : Act} {w : World} (he : isE = false) (hw : Region.wanted o (yielded ops a.tmps) = true) (h : ∃ v, (∀ W : { W // C W }, floatAt P o a v W.1) /\ K (a.put o.dst v) w) : lexOp F n P C ops isE o K a w := by
 subst he; exact lexOp_float hw h
theorem lexE {isE : Bool} {o : Oper} {K : Act -> World -> Prop} {a : Act} {w : World} (he : isE = true) (hw : Region.wanted o (yielded ops a.tmps) = true) (h : effAt F n P C o.dst a K ((execOp a.eval o).run P w)) : lexOp F n P C ops isE o K a w := by
 subst he; exact lexOp_eff hw h
theorem floatAt_load {op : Oper} {a : Act} {W : World} (ty : TypeId) (x : Operand) (ho : op.op = .load ty x)
  (b o : Nat) (hx : a.eval x = .pointer (some ⟨b, o, none⟩)) (cs : Array Value) (d : TypeDesc) (hc : W.rangeAt b o cs.toList)
  (hu : P.underlying ty = some d) (hd : d.isRow = true) (hi : (P.info? ty).map (·.size) = some cs.size) : floatAt P op a (.agg cs) W := by
 refine .inl ?_
 unfold execOp
 simp only [ho, hx, Instr.loadAt, Instr.sureAddr, Sem.run_bind, Sem.run_pure, Result.andThen_ok, run_loadVar_mid W b o ty cs.toList d hc hu hd (by rw [Array.length_toList]; exact hi)]
theorem rangeAt_keeps {w w' : World} {R : Nat -> Prop} {b o : Nat} {cs : List Value} (h : w.rangeAt b o cs) (hk : Keeps R w w') (hb : R b) : w'.rangeAt b o cs := fun j v hj => (hk.cell (p := ⟨b, o + j, none⟩) hb).trans (h j v hj)

end
end Go.Proofs.YtbiboekhakbnpaaGreatDoor

namespace Go.Proofs.YtbiboekhakbnpaaGreatDoor
open Go Go.RowKit

structure Eff (M : World -> World -> Prop) where
 P : Value -> Prop
 H : Value -> World -> Prop
 wit : Value
 pw : P wit
 st : ∀ v W W', M W W' -> P v -> H v W -> H v W'

theorem Move.trans {d : Bool} {T : Nat -> Prop} {A B C : World} (h : Move d T A B) (k : Move d T B C) : Move d T A C :=
 ⟨h.1.trans k.1 fun _ hk => ⟨Nat.lt_of_lt_of_le hk.1 h.1.size, hk.2⟩, fun hd => Nat.le_trans (h.2 hd) (k.2 hd)⟩

def dstOf (ops : Array Oper) (j : Nat) : Option Tmp := (ops[j]?).bind (·.dst)

def effT (Cl : FuncId -> Array Value -> World -> (Ending -> World -> Prop) -> Prop) (Rd : Nat -> FuncId -> Array Value -> Code -> Code -> World -> (Ending -> World -> Prop) -> Prop) (post : Value -> World -> Prop) : Result Next -> Prop
 | .ok (.value v) w' => post v w'
 | .ok .skip w' => post undef w'
 | .ok (.enter f args) w' => Cl f args w' fun e w'' => ∃ v, e = .returned v /\ post v w''
 | .ok (.round l f tmps asg body) w' => Rd l f tmps asg body w' fun e w'' => ∃ v, e = .returned v /\ post v w''
 | _ => False

def anyG (S : Nat -> (Act -> World -> Prop) -> Act -> World -> Prop) (md : Region.Mode) (ops : Array Oper) (Qn : Act -> World -> Prop) : Nat -> Array Bool -> Act -> World -> Prop
 | 0, listed, a, w => Region.ready md ops listed = [] /\ Qn a w
 | fuel + 1, listed, a, w =>
  (Region.ready md ops listed = [] -> Qn a w) /\
  ∀ i ∈ Region.ready md ops listed, S i (anyG S md ops Qn fuel (listed.setIfInBounds i true)) a w
def listG (S : Nat -> (Act -> World -> Prop) -> Act -> World -> Prop) (Qn : Act -> World -> Prop) : List Nat -> Act -> World -> Prop
 | [], a, w => Qn a w
 | i :: rest, a, w => S i (listG S Qn rest) a w

def needs (m : Nat) (hist : List (Nat × (World -> Prop))) (W : World) : Prop := ∀ x ∈ hist, m.testBit x.1 = true -> x.2 W
theorem needs.at {m : Nat} {hist : List (Nat × (World -> Prop))} {W : World} (h : needs m hist W) (i : Nat) {x : Nat × (World -> Prop)} (hx : hist[i]? = some x) (hm : m.testBit x.1 = true) : x.2 W := h x (List.mem_of_getElem? hx) hm

section
variable {P : Program} {Cl : FuncId → Array Value → World → (Ending → World → Prop) → Prop} {Rd : Nat → FuncId → Array Value → Code → Code → World → (Ending → World → Prop) → Prop}
  {ops : Array Oper} {eff : Nat → Bool} {anc : Nat → Nat} {M : World → World → Prop} {EP : Nat → Eff M} {C : World → Prop} {md : Region.Mode} {m : Nat}

def frT (ops : Array Oper) (a : Act) (val : Nat -> Value) : Nat -> Act
 | 0 => a
 | i + 1 => (frT ops a val i).put (dstOf ops i) (val i)
theorem frT_congr {a : Act} {val val' : Nat -> Value} : ∀ (i : Nat), (∀ j, j < i -> val j = val' j) -> frT ops a val i = frT ops a val' i
 | 0, _ => rfl
 | i + 1, h => by unfold frT; rw [frT_congr i fun j hj => h j (by omega), h i (by omega)]

def wantedAt (ops : Array Oper) (a : Act) (val : Nat -> Value) (j : Nat) : Prop := ∃ o, ops[j]? = some o /\ Region.wanted o (yielded ops (frT ops a val j).tmps) = true
def NdAt (ops : Array Oper) (eff : Nat -> Bool) (anc : Nat -> Nat) (EP : Nat -> Eff M) (a : Act) (val : Nat -> Value) (i : Nat) (W : World) : Prop :=
 ∀ j, j < i -> wantedAt ops a val j -> eff j = true -> (anc i).testBit j = true -> (EP j).H (val j) W
theorem wantedAt_congr {a : Act} {val val' : Nat -> Value} {j : Nat} (h : ∀ k, k < j -> val k = val' k) : wantedAt ops a val j ↔ wantedAt ops a val' j := by
 unfold wantedAt; rw [frT_congr j h]
theorem NdAt_congr {a : Act} {val val' : Nat -> Value} {i : Nat} (h : ∀ k, k < i -> val k = val' k) : NdAt ops eff anc EP a val i = NdAt ops eff anc EP a val' i := by
 funext W
 unfold NdAt
 refine propext (forall_congr' fun j => forall_congr' fun hj => ?_)
 rw [wantedAt_congr (val' := val') fun k hk => h k (by omega), h j hj]
structure FrP (ops : Array Oper) (a0 : Act) (L : Nat -> Prop) (val : Nat -> Value) (a : Act) : Prop where
 defers : a.defers = a0.defers
 size : a.tmps.size = a0.tmps.size
 old : ∀ t, (∀ j, L j -> dstOf ops j ≠ some t) -> a.tmps[t]? = a0.tmps[t]?
 new : ∀ j t, L j -> dstOf ops j = some t -> t < a0.tmps.size -> a.tmps[t]? = some (val j)
theorem FrP.start (a0 : Act) (val : Nat -> Value) {L : Nat -> Prop} (hL : ∀ j, ¬ L j) : FrP ops a0 L val a0 := ⟨rfl, rfl, fun _ _ => rfl, fun j _ h => (hL j h).elim⟩
theorem FrP.put {a0 a : Act} {L L' : Nat -> Prop} {val : Nat -> Value} (h : FrP ops a0 L val a) (i : Nat) (hL : ∀ j, L' j ↔ L j \/ j = i) (hi : ∀ j t, L j -> dstOf ops j = some t -> dstOf ops i ≠ some t) : FrP ops a0 L' val (a.put (dstOf ops i) (val i)) := by
 cases hd : dstOf ops i with
 | none =>
  refine ⟨h.defers, h.size, fun t ht => h.old t fun j hj => ht j ((hL j).2 (.inl hj)), fun j t hj hjt htl => ?_⟩
  rcases (hL j).1 hj with hj | rfl
  ·exact h.new j t hj hjt htl
  ·rw [hd] at hjt; cases hjt
 | some e =>
  refine ⟨h.defers, by simp [Act.put, h.size], fun t ht => ?_, fun j t hj hjt htl => ?_⟩
  ·have hne : e ≠ t := fun he => ht i ((hL i).2 (.inr rfl)) (by rw [hd, he])
   simp only [Act.put, Array.getElem?_setIfInBounds_ne hne]
   exact h.old t fun j hj => ht j ((hL j).2 (.inl hj))
  ·rcases (hL j).1 hj with hj | rfl
   ·have hne : e ≠ t := fun he => hi j t hj hjt (by rw [hd, he])
    simp only [Act.put, Array.getElem?_setIfInBounds_ne hne]
    exact h.new j t hj hjt htl
   ·rw [hd] at hjt; cases hjt
    simp only [Act.put]
    rw [Array.getElem?_setIfInBounds_self_of_lt (by rw [h.size]; exact htl)]
theorem FrP.agree {a0 a a' : Act} {L L' : Nat -> Prop} {val val' : Nat -> Value} (h : FrP ops a0 L val a) (h' : FrP ops a0 L' val' a') {t : Nat} (hj : ∀ j, dstOf ops j = some t -> ((L j ↔ L' j) /\ (L j -> val j = val' j))) : a.tmps[t]? = a'.tmps[t]? := by
 by_cases hex : ∃ j, L j /\ dstOf ops j = some t
 ·obtain ⟨j, h1, h2⟩ := hex
  obtain ⟨h3, h4⟩ := hj j h2
  rcases Nat.lt_or_ge t a0.tmps.size with hlt | hge
  ·rw [h.new j t h1 h2 hlt, h'.new j t (h3.1 h1) h2 hlt, h4 h1]
  ·rw [Array.getElem?_eq_none (by rw [h.size]; exact hge), Array.getElem?_eq_none (by rw [h'.size]; exact hge)]
 ·rw [h.old t fun j h1 h2 => hex ⟨j, h1, h2⟩, h'.old t fun j h1 h2 => hex ⟨j, ((hj j h2).1).2 h1, h2⟩]

theorem same_exec {o : Oper} (hs : ∀ cs b, o.op ≠ .select cs b) {a a' : Act} (h : ∀ t, t ∈ o.looksAt ops -> a.tmps[t]? = a'.tmps[t]?) :
  execOp a.eval o = execOp a'.eval o /\ Region.wanted o (yielded ops a.tmps) = Region.wanted o (yielded ops a'.tmps) := by
 constructor
 ·refine execOp_congr o hs fun x hx => ?_
  cases x with
  | tmp t =>
   have := h t (List.mem_append_left _ (List.mem_filterMap.2 ⟨.tmp t, by simpa using hx, rfl⟩))
   simp [Act.eval, this]
  | _ => rfl
 ·unfold Region.wanted
  cases hg : o.guard with
  | none => rfl
  | some gw =>
   obtain ⟨g, want⟩ := gw
   have hy : yielded ops a.tmps g = yielded ops a'.tmps g := by
    unfold yielded
    cases ht : (ops[g]?).bind (·.dst) with
    | none => rfl
    | some t =>
     have := h t (by simp [Oper.looksAt, hg, ht])
     simp [this]
   simp only [hy]

structure RegOk (md : Region.Mode) (ops : Array Oper) (anc : Nat -> Nat) (m : Nat) : Prop where
 le : m <= ops.size
 sel : ∀ (j : Nat) (o : Oper) cs b, ops[j]? = some o -> o.op ≠ .select cs b
 edges : ∀ (i : Nat) (o : Oper), ops[i]? = some o -> ∀ e ∈ o.after, Region.binds md e = true -> e.on < i
 sound : ∀ (i : Nat) (o : Oper) (j : Nat), ops[i]? = some o -> (anc i).testBit j = true -> ∃ e ∈ o.after, Region.binds md e = true /\ (e.on = j \/ (anc e.on).testBit j = true)
 looks : ∀ (i : Nat) (o : Oper) (t j : Nat), i < m -> ops[i]? = some o -> t ∈ o.looksAt ops -> dstOf ops j = some t -> (j < i -> (anc i).testBit j = true) /\ (i < j -> (anc j).testBit i = true)
 dsts : ∀ i j t, i < j -> dstOf ops i = some t -> dstOf ops j ≠ some t
 tail : ∀ i j, m <= i -> i < ops.size -> j < i -> (anc i).testBit j = true

theorem RegOk.anc_lt (ok : RegOk md ops anc m) : ∀ (i j : Nat) (o : Oper), ops[i]? = some o -> (anc i).testBit j = true -> j < i := by
 intro i
 induction i using Nat.strongRecOn with
 | ind i ih =>
  intro j o ho hj
  obtain ⟨e, he, hb, h⟩ := ok.sound i o j ho hj
  have hlt := ok.edges i o ho e he hb
  rcases h with h | h
  ·omega
  ·have hes : e.on < ops.size := by have := (Array.getElem?_eq_some_iff.1 ho).1; omega
   have := ih e.on hlt j _ (Array.getElem?_eq_getElem hes) h
   omega
theorem RegOk.frT (ok : RegOk md ops anc m) (a0 : Act) (val : Nat -> Value) : ∀ i, FrP ops a0 (fun j => j < i) val (frT ops a0 val i)
 | 0 => FrP.start a0 val fun j h => by omega
 | i + 1 => (ok.frT a0 val i).put i (fun j => by constructor <;> intro h <;> omega) fun j t hj hd => fun h => ok.dsts j i t hj hd h

theorem count_set : ∀ (l : List Bool) (i : Nat), l[i]? = some false -> (l.set i true).count false + 1 = l.count false
 | [], _, h => by simp at h
 | b :: l, 0, h => by
  simp only [List.getElem?_cons_zero, Option.some.injEq] at h
  subst h; simp
 | b :: l, i + 1, h => by
  simp only [List.getElem?_cons_succ] at h
  have := count_set l i h
  simp only [List.set_cons_succ, List.count_cons]
  omega

variable {S : Nat → (Act → World → Prop) → Act → World → Prop} {Qn : Act → World → Prop}

structure StepOk (P : Program) (Cl : FuncId -> Array Value -> World -> (Ending -> World -> Prop) -> Prop) (Rd : Nat -> FuncId -> Array Value -> Code -> Code -> World -> (Ending -> World -> Prop) -> Prop)
  (ops : Array Oper) (eff : Nat -> Bool) (S : Nat -> (Act -> World -> Prop) -> Act -> World -> Prop) : Prop where
 flt : ∀ (i : Nat) (o : Oper) (K : Act -> World -> Prop) (a : Act) (w : World) (v : Value), ops[i]? = some o -> eff i = false -> Region.wanted o (yielded ops a.tmps) = true -> floatAt P o a v w -> K (a.put o.dst v) w -> S i K a w
 eff : ∀ (i : Nat) (o : Oper) (K : Act -> World -> Prop) (a : Act) (w : World), ops[i]? = some o -> eff i = true -> Region.wanted o (yielded ops a.tmps) = true -> effT Cl Rd (fun v w' => K (a.put o.dst v) w') ((execOp a.eval o).run P w) -> S i K a w
 un : ∀ (i : Nat) (o : Oper) (K : Act -> World -> Prop) (a : Act) (w : World), ops[i]? = some o -> Region.wanted o (yielded ops a.tmps) = false -> K (a.put o.dst undef) w -> S i K a w
 mono : ∀ (i : Nat) (K K' : Act -> World -> Prop) (a : Act) (w : World), (∀ a w, K a w -> K' a w) -> S i K a w -> S i K' a w
 emono : ∀ (post post' : Value -> World -> Prop) (r : Result Next), (∀ v w, post v w -> post' v w) -> effT Cl Rd post r -> effT Cl Rd post' r

theorem getD_cases {listed : Array Bool} {j : Nat} (hj : j < listed.size) : listed.getD j false = true \/ listed.getD j true = false := by
 simp [hj]

theorem anyG_tail (ok : RegOk md ops anc m) (so : StepOk P Cl Rd ops eff S) : ∀ (r k : Nat) (fuel : Nat) (listed : Array Bool) (a : Act) (w : World), m <= k -> k + r = ops.size -> r <= fuel -> listed.size = ops.size -> (∀ j, j < ops.size -> (listed.getD j false = true ↔ j < k)) ->
  listG S Qn (List.range' k r) a w -> anyG S md ops Qn fuel listed a w := by
 intro r
 induction r with
 | zero =>
  intro k fuel listed a w hm hk hf hs hl h
  have hnil : Region.ready md ops listed = [] := by
   rw [List.eq_nil_iff_forall_not_mem]
   intro j hj
   obtain ⟨h1, o, ho, _⟩ := mem_ready.1 hj
   have hjs : j < ops.size := (Array.getElem?_eq_some_iff.1 ho).1
   have h2 := (hl j hjs).2 (by omega)
   have hjl : j < listed.size := by omega
   simp [hjl] at h1 h2
   rw [h1] at h2; cases h2
  cases fuel with
  | zero => exact ⟨hnil, h⟩
  | succ fuel => exact ⟨fun _ => h, fun i hi => by rw [hnil] at hi; cases hi⟩
 | succ r ih =>
  intro k fuel listed a w hm hk hf hs hl h
  obtain ⟨fuel, rfl⟩ : ∃ f, fuel = f + 1 := ⟨fuel - 1, by omega⟩
  have hks : k < ops.size := by omega
  have hready : ∀ i, i ∈ Region.ready md ops listed ↔ i = k := by
   intro i
   rw [mem_ready]
   constructor
   ·rintro ⟨h1, o, ho, hall⟩
    have his : i < ops.size := (Array.getElem?_eq_some_iff.1 ho).1
    have hil : i < listed.size := by omega
    have hnl : ¬ listed.getD i false = true := by simp [hil] at h1 ⊢; exact h1
    rw [hl i his] at hnl
    by_cases hik : i = k
    ·exact hik
    ·exfalso
     obtain ⟨e, he, hb, hor⟩ := ok.sound i o k ho (ok.tail i k (by omega) his (by omega))
     have he1 := hall e he hb
     have hes := ok.edges i o ho e he hb
     rw [hl e.on (by omega)] at he1
     rcases hor with rfl | hor
     ·omega
     ·have := ok.anc_lt e.on k _ (Array.getElem?_eq_getElem (by omega)) hor
      omega
   ·rintro rfl
    have hil : i < listed.size := by omega
    have hnl : ¬ listed.getD i false = true := by rw [hl i hks]; omega
    refine ⟨by simp [hil] at hnl ⊢; exact hnl, _, Array.getElem?_eq_getElem hks, fun e he hb => ?_⟩
    have hes := ok.edges i _ (Array.getElem?_eq_getElem hks) e he hb
    exact (hl e.on (by omega)).2 hes
  refine ⟨fun hnil => ?_, fun i hi => ?_⟩
  ·have := (hready k).2 rfl
   rw [hnil] at this; cases this
  ·obtain rfl := (hready i).1 hi
   rw [List.range'_succ] at h
   refine so.mono i _ _ a w (fun a' w' h' => ?_) h
   refine ih (i + 1) fuel _ a' w' (by omega) (by omega) (by omega) (by simpa using hs) (fun j hj => ?_) h'
   by_cases hij : i = j
   ·subst hij
    have : i < listed.size := by omega
    simp [this]
   ·rw [getD_set_ne false hij, hl j hj]; omega

end
end Go.Proofs.YtbiboekhakbnpaaGreatDoor

namespace Go.Proofs.YtbiboekhakbnpaaGreatDoor
open Go Go.RowKit

def regChk (md : Region.Mode) (ops : Array Oper) (anc : List Nat) (m : Nat) : Bool :=
 Region.noSelect ops && decide (m <= ops.size) && (List.range ops.size).all fun i => match ops[i]? with
  | none => true
  | some o => decide (anc.getD i 0 < 2 ^ i) && (o.after.all fun e => !Region.binds md e || decide (e.on < i)) &&
   (List.range ops.size).all fun j =>
    (!(anc.getD i 0).testBit j || o.after.any fun e => Region.binds md e && (e.on == j || (anc.getD e.on 0).testBit j)) &&
    (match dstOf ops j with
     | none => true
     | some t => (decide (j <= i) || !(dstOf ops i == some t)) && (!decide (i < m) || !(o.looksAt ops).contains t || ((!decide (j < i) || (anc.getD i 0).testBit j) && (!decide (i < j) || (anc.getD j 0).testBit i)))) &&
    (!(decide (m <= i) && decide (j < i)) || (anc.getD i 0).testBit j)

theorem regChk_ok {md : Region.Mode} {ops : Array Oper} {anc : List Nat} {m : Nat} (h : regChk md ops anc m = true) : RegOk md ops (fun i => anc.getD i 0) m := by
 unfold regChk at h
 rw [Bool.and_eq_true, Bool.and_eq_true, List.all_eq_true] at h
 obtain ⟨⟨hs, hm⟩, hall⟩ := h
 have hi : ∀ (i : Nat) (o : Oper), ops[i]? = some o -> anc.getD i 0 < 2 ^ i /\ (∀ e ∈ o.after, Region.binds md e = true -> e.on < i) /\
   ∀ j, j < ops.size -> ((anc.getD i 0).testBit j = true -> ∃ e ∈ o.after, Region.binds md e = true /\ (e.on = j \/ (anc.getD e.on 0).testBit j = true)) /\
    (∀ t, dstOf ops j = some t -> (j <= i \/ dstOf ops i ≠ some t) /\ (i < m -> t ∈ o.looksAt ops -> (j < i -> (anc.getD i 0).testBit j = true) /\ (i < j -> (anc.getD j 0).testBit i = true))) /\
    (m <= i -> j < i -> (anc.getD i 0).testBit j = true) := by
  intro i o ho
  have his : i < ops.size := (Array.getElem?_eq_some_iff.1 ho).1
  have h1 := hall i (List.mem_range.2 his)
  simp only [ho, Bool.and_eq_true, decide_eq_true_eq, List.all_eq_true, Array.all_eq_true_iff_forall_mem] at h1
  obtain ⟨⟨h1, h2⟩, h3⟩ := h1
  refine ⟨h1, fun e he hb => ?_, fun j hj => ?_⟩
  ·have := h2 e he
   rw [hb] at this; simpa using this
  ·obtain ⟨⟨h4, h5⟩, h6⟩ := h3 j (List.mem_range.2 hj)
   refine ⟨fun hb => ?_, fun t ht => ?_, fun h7 h8 => ?_⟩
   ·rw [hb, Bool.or_eq_true] at h4
    obtain ⟨e, he, hx⟩ := Array.any_eq_true'.1 (h4.resolve_left (by decide))
    rw [Bool.and_eq_true, Bool.or_eq_true, beq_iff_eq] at hx
    exact ⟨e, he, hx.1, hx.2⟩
   ·rw [ht] at h5
    simp only [Bool.and_eq_true, Bool.or_eq_true, decide_eq_true_eq, Bool.not_eq_true', beq_eq_false_iff_ne, decide_eq_false_iff_not] at h5
    refine ⟨h5.1, fun h7 h8 => ?_⟩
    rcases h5.2 with (h9 | h9) | h9
    ·exact absurd h7 h9
    ·have : (o.looksAt ops).contains t = true := List.contains_iff_mem.2 h8
     rw [h9] at this; cases this
    ·exact ⟨fun h10 => h9.1.resolve_left (fun h => h h10), fun h10 => h9.2.resolve_left (fun h => h h10)⟩
   ·simp only [Bool.or_eq_true, Bool.not_eq_true', Bool.and_eq_false_iff, decide_eq_false_iff_not] at h6
    rcases h6 with (h6 | h6) | h6
    ·exact absurd h7 h6
    ·exact absurd h8 h6
    ·exact h6
 have hd : ∀ j t, dstOf ops j = some t -> j < ops.size := fun j t h => by
  rcases Nat.lt_or_ge j ops.size with h' | h'
  ·exact h'
  ·unfold dstOf at h; rw [Array.getElem?_eq_none h'] at h; cases h
 have hlt : ∀ (i : Nat) (o : Oper) (j : Nat), ops[i]? = some o -> (anc.getD i 0).testBit j = true -> j < i := fun i o j ho hb => by
  rcases Nat.lt_or_ge j i with h | h
  ·exact h
  ·rw [Nat.testBit_lt_two_pow (Nat.lt_of_lt_of_le (hi i o ho).1 (Nat.pow_le_pow_right (by decide) h))] at hb; cases hb
 exact {
  le := by simpa using hm
  sel := fun j o cs b ho => Region.noSelect_spec hs j o cs b ho
  edges := fun i o ho => (hi i o ho).2.1
  sound := fun i o j ho hb => ((hi i o ho).2.2 j (by have := hlt i o j ho hb; have := (Array.getElem?_eq_some_iff.1 ho).1; omega)).1 hb
  looks := fun i o t j him ho ht hj => (((hi i o ho).2.2 j (hd j t hj)).2.1 t hj).2 him ht
  dsts := fun i j t hij h1 h2 => by
   obtain ⟨o, ho⟩ : ∃ o, ops[i]? = some o := ⟨_, Array.getElem?_eq_getElem (hd i t h1)⟩
   rcases (((hi i o ho).2.2 j (hd j t h2)).2.1 t h2).1 with h | h
   ·omega
   ·exact h h1
  tail := fun i j h1 h2 h3 => ((hi i _ (Array.getElem?_eq_getElem h2)).2.2 j (by omega)).2.2 h1 h3 }

def noRd : Nat -> FuncId -> Array Value -> Code -> Code -> World -> (Ending -> World -> Prop) -> Prop := fun _ _ _ _ _ _ _ => False

section
variable {P : Program} {ops : Array Oper} {Q : Exit → Act → World → Prop} {eff : Nat → Bool}
theorem wpOp_stepOk : StepOk P (Calls P) noRd ops eff (wpOp P ops Q) where
 flt := fun i o K a w v ho _ hw hf hK => by
  unfold wpOp
  simp only [ho, hw, if_true]
  refine .inl ?_
  unfold Oper.wp
  unfold floatAt at hf
  rcases hf with hf | ⟨hf, rfl⟩ <;> rw [hf] <;> exact hK
 eff := fun i o K a w ho _ hw he => by
  unfold wpOp
  simp only [ho, hw, if_true]
  refine .inl ?_
  unfold Oper.wp
  generalize (execOp a.eval o).run P w = r at he
  cases r with
  | halt x w => exact he.elim
  | ok x w =>
   cases x <;> simp only [effT] at he <;> simp only [Oper.upon]
   case value v => exact he
   case skip => exact he
   case enter f args => exact Calls.mono he fun e w' ⟨v, hv, hK⟩ => by subst hv; exact hK
   case round => exact he.elim
 un := fun i o K a w ho hw hK => by
  unfold wpOp
  simp only [ho, hw, Bool.false_eq_true, if_false]
  exact hK
 mono := fun i K K' a w h hS => wpOp_mono h hS
 emono := fun post post' r h he => by
  cases r with
  | halt x w => exact he.elim
  | ok x w =>
   cases x <;> simp only [effT] at he ⊢
   case value v => exact h _ _ he
   case skip => exact h _ _ he
   case enter f args => exact Calls.mono he fun e w' ⟨v, hv, hK⟩ => ⟨v, hv, h _ _ hK⟩
   case round => exact he

theorem wpAny_anyG {md : Region.Mode} : ∀ (fuel : Nat) (listed : Array Bool) (a : Act) (w : World), anyG (wpOp P ops Q) md ops (fun a w => Q .normal a w) fuel listed a w -> wpAny P md ops Q fuel listed a w
 | 0, _, _, _, h => h
 | fuel + 1, _, _, _, h => ⟨h.1, fun i hi => wpOp_mono (fun a w h => wpAny_anyG fuel _ a w h) (h.2 i hi)⟩
theorem listG_ops : ∀ (l : List Nat) (a : Act) (w : World), (∀ i ∈ l, i < ops.size) -> wpOps P ops Q l a w -> listG (wpOp P ops Q) (fun a w => Q .normal a w) l a w
 | [], _, _, _, h => h
 | i :: l, a, w, hl, h => by
  rw [wpOps_cons] at h
  exact wpOp_mono (fun a w h => listG_ops l a w (fun j hj => hl j (List.mem_cons_of_mem _ hj)) h) h
end

section
variable {P : Program} {Cl : FuncId → Array Value → World → (Ending → World → Prop) → Prop} {Rd : Nat → FuncId → Array Value → Code → Code → World → (Ending → World → Prop) → Prop}
  {ops : Array Oper} {eff : Nat → Bool} {anc : Nat → Nat} {M : World → World → Prop} {EP : Nat → Eff M} {C : World → Prop} {Fin : List Oper → Act → World → Prop}

theorem effT_call {f : FuncId} {args : Array Value} {W : World} {post : Value -> World -> Prop} (h : Cl f args W fun e w' => ∃ v, e = .returned v /\ post v w') : effT Cl Rd post (.ok (.enter f args) W) := h
end

def Eff.det (M : World -> World -> Prop) (x : Value) : Eff M := ⟨fun v => v = x, fun _ _ => True, x, rfl, fun _ _ _ _ _ _ => trivial⟩
def Eff.any (M : World -> World -> Prop) : Eff M := ⟨fun _ => True, fun _ _ => True, undef, trivial, fun _ _ _ _ _ _ => trivial⟩
theorem Move.of_ext {d : Bool} {T : Nat -> Prop} {W W' : World} (h : Ext W W') : Move d T W W' := Move.ext h
theorem Move.of_below {T : Nat -> Prop} {W W' : World} (h : Below W.heap.size W W') : Move false T W W' := ⟨Keeps.of_below h fun _ hk => hk.1, fun h => by cases h⟩
theorem Move.keeps {d : Bool} {T : Nat -> Prop} {W W' : World} (h : Move d T W W') : Keeps (fun k => k < W.heap.size /\ ¬ T k) W W' := h.1
theorem Move.below {d : Bool} {W W' : World} (h : Move d (fun _ => False) W W') : Below W.heap.size W W' := (h.1.mono fun _ hk => ⟨hk, fun h => h⟩ : Keeps (· < W.heap.size) W W').below
theorem Move.size {d : Bool} {T : Nat -> Prop} {W W' : World} (h : Move d T W W') : W.heap.size <= W'.heap.size := h.1.size
end Go.Proofs.YtbiboekhakbnpaaGreatDoor

namespace Go.Proofs.YtbiboekhakbnpaaGreatDoor.RegG
open Go Go.RowKit

structure Eff (M : World -> World -> Prop) where
 P : Value -> Prop
 H : Value -> Value -> World -> Prop
 wit : Value
 pw : P wit
 st : ∀ x v W W', M W W' -> P v -> H x v W -> H x v W'
def Eff.det (M : World -> World -> Prop) (x : Value) : Eff M := ⟨fun v => v = x, fun _ _ _ => True, x, rfl, fun _ _ _ _ _ _ _ => trivial⟩
def Eff.any (M : World -> World -> Prop) : Eff M := ⟨fun _ => True, fun _ _ _ => True, undef, trivial, fun _ _ _ _ _ _ _ => trivial⟩
def lookA (s : Option Tmp) (a : Act) : Value := match s with | none => undef | some t => a.tmps[t]?.getD undef
theorem lookA_congr {s : Option Tmp} {a a' : Act} (h : ∀ t, s = some t -> a.tmps[t]? = a'.tmps[t]?) : lookA s a = lookA s a' := by
 cases s with
 | none => rfl
 | some t => unfold lookA; simp only; rw [h t rfl]
def onChk (ops : Array Oper) (anc : List Nat) (on : Nat -> Option Tmp) : Bool := (List.range ops.size).all fun j => (List.range j).all fun k => match on j with
 | some t => !(dstOf ops k == some t) || (anc.getD j 0).testBit k
 | none => true
theorem onChk_ok {ops : Array Oper} {anc : List Nat} {on : Nat -> Option Tmp} (hz : ∀ j, ops.size <= j -> on j = none) (h : onChk ops anc on = true) : ∀ (j t k : Nat), on j = some t -> dstOf ops k = some t -> k < j -> (anc.getD j 0).testBit k = true := fun j t k ht hk hkj => by
 unfold onChk at h
 have hj : j < ops.size := by
  rcases Nat.lt_or_ge j ops.size with h' | h'
  ·exact h'
  ·rw [hz j h'] at ht; cases ht
 have := List.all_eq_true.1 (List.all_eq_true.1 h j (List.mem_range.2 hj)) k (List.mem_range.2 hkj)
 rw [ht, hk] at this
 simpa using this
end Go.Proofs.YtbiboekhakbnpaaGreatDoor.RegG

namespace Go.Proofs.YtbiboekhakbnpaaGreatDoor.RegZ
open Go Go.RowKit

section
variable {P : Program} {Cl : FuncId → Array Value → World → (Ending → World → Prop) → Prop} {Rd : Nat → FuncId → Array Value → Code → Code → World → (Ending → World → Prop) → Prop}
  {ops : Array Oper} {eff : Nat → Bool} {anc : Nat → Nat} {M : World → World → Prop} {on : Nat → Option Tmp} {EP : Nat → RegG.Eff M} {C : World → Prop} {D : Nat → World → Prop} {md : Region.Mode} {m : Nat}
def regOp (P : Program) (Cl : FuncId -> Array Value -> World -> (Ending -> World -> Prop) -> Prop) (Rd : Nat -> FuncId -> Array Value -> Code -> Code -> World -> (Ending -> World -> Prop) -> Prop)
  (ops : Array Oper) (isE : Bool) (m : Nat) (s : Option Tmp) (E : RegG.Eff M) (C : World -> Prop) (D : Nat -> World -> Prop) (o : Oper) (k : Nat) (hist : List (Nat × (World -> Prop))) (a : Act) (K : List (Nat × (World -> Prop)) -> Act -> Prop) : Prop :=
 if Region.wanted o (yielded ops a.tmps) then
  if isE then (∀ W, C W -> D k W -> needs m hist W -> effT Cl Rd (fun v W' => (M W W' /\ ∀ j, j ≠ k -> m.testBit j = false -> D j W -> D j W') /\ E.P v /\ E.H (RegG.lookA s a) v W') ((execOp a.eval o).run P W)) /\ ∀ v, E.P v -> K ((k, E.H (RegG.lookA s a) v) :: hist) (a.put o.dst v)
  else ∃ v, (∀ W, C W -> needs m hist W -> floatAt P o a v W) /\ K hist (a.put o.dst v)
 else K hist (a.put o.dst undef)
def regT (P : Program) (Cl : FuncId -> Array Value -> World -> (Ending -> World -> Prop) -> Prop) (Rd : Nat -> FuncId -> Array Value -> Code -> Code -> World -> (Ending -> World -> Prop) -> Prop)
  (ops : Array Oper) (eff : Nat -> Bool) (anc : Nat -> Nat) (on : Nat -> Option Tmp) (EP : Nat -> RegG.Eff M) (C : World -> Prop) (D : Nat -> World -> Prop) (Fin : Act -> World -> Prop) : List Oper -> Nat -> List (Nat × (World -> Prop)) -> Act -> Prop
 | [], _, hist, a => ∀ W, C W -> (∀ x ∈ hist, x.2 W) -> Fin a W
 | o :: rest, k, hist, a => regOp P Cl Rd ops (eff k) (anc k) (on k) (EP k) C D o k hist a (regT P Cl Rd ops eff anc on EP C D Fin rest (k + 1))

def NdAt (ops : Array Oper) (eff : Nat -> Bool) (anc : Nat -> Nat) (on : Nat -> Option Tmp) (EP : Nat -> RegG.Eff M) (a : Act) (val : Nat -> Value) (i : Nat) (W : World) : Prop :=
 ∀ j, j < i -> wantedAt ops a val j -> eff j = true -> (anc i).testBit j = true -> (EP j).H (RegG.lookA (on j) (frT ops a val j)) (val j) W
def OkAt (P : Program) (Cl : FuncId -> Array Value -> World -> (Ending -> World -> Prop) -> Prop) (Rd : Nat -> FuncId -> Array Value -> Code -> Code -> World -> (Ending -> World -> Prop) -> Prop)
  (ops : Array Oper) (isE : Bool) (m : Nat) (s : Option Tmp) (E : RegG.Eff M) (C : World -> Prop) (D : Nat -> World -> Prop) (k : Nat) (o : Oper) (f : Act) (v uv : Value) (N : World -> Prop) : Prop :=
 if Region.wanted o (yielded ops f.tmps) then
  if isE then v = uv /\ ∀ W, C W -> D k W -> N W -> effT Cl Rd (fun v W' => (M W W' /\ ∀ j, j ≠ k -> m.testBit j = false -> D j W -> D j W') /\ E.P v /\ E.H (RegG.lookA s f) v W') ((execOp f.eval o).run P W)
  else ∀ W, C W -> N W -> floatAt P o f v W
 else v = undef
def BrAt (P : Program) (Cl : FuncId -> Array Value -> World -> (Ending -> World -> Prop) -> Prop) (Rd : Nat -> FuncId -> Array Value -> Code -> Code -> World -> (Ending -> World -> Prop) -> Prop)
  (ops : Array Oper) (eff : Nat -> Bool) (anc : Nat -> Nat) (on : Nat -> Option Tmp) (EP : Nat -> RegG.Eff M) (C : World -> Prop) (D : Nat -> World -> Prop) (a : Act) (u val : Nat -> Value) (i : Nat) : Prop :=
 ∀ o, ops[i]? = some o -> OkAt P Cl Rd ops (eff i) (anc i) (on i) (EP i) C D i o (frT ops a val i) (val i) (u i) (NdAt ops eff anc on EP a val i)

theorem NdAt_congr {a : Act} {val val' : Nat -> Value} {i : Nat} (h : ∀ k, k < i -> val k = val' k) : NdAt ops eff anc on EP a val i = NdAt ops eff anc on EP a val' i := by
 funext W
 unfold NdAt
 refine propext (forall_congr' fun j => forall_congr' fun hj => ?_)
 rw [wantedAt_congr (val' := val') fun k hk => h k (by omega), frT_congr j fun k hk => h k (by omega), h j hj]
theorem BrAt_congr {a : Act} {u val val' : Nat -> Value} {i : Nat} (h : ∀ k, k <= i -> val k = val' k) (hb : BrAt P Cl Rd ops eff anc on EP C D a u val i) : BrAt P Cl Rd ops eff anc on EP C D a u val' i := fun o ho => by
 have := hb o ho
 rwa [frT_congr i fun k hk => h k (by omega), NdAt_congr fun k hk => h k (by omega), h i (Nat.le_refl _)] at this

theorem branch {Fin : Act -> World -> Prop} {a : Act} {u : Nat -> Value} (hu : ∀ j, (EP j).P (u j)) : ∀ (l : List Oper) (k : Nat) (val : Nat -> Value) (hist : List (Nat × (World -> Prop))),
  k + l.length = m -> (∀ j, j < l.length -> l[j]? = ops[k + j]?) -> (∀ x ∈ hist, ∃ j, j < k /\ wantedAt ops a val j /\ eff j = true /\ x.1 = j /\ x.2 = (EP j).H (RegG.lookA (on j) (frT ops a val j)) (val j)) ->
  (∀ i, i < k -> BrAt P Cl Rd ops eff anc on EP C D a u val i) -> regT P Cl Rd ops eff anc on EP C D Fin l k hist (frT ops a val k) ->
  ∃ val', (∀ i, i < m -> BrAt P Cl Rd ops eff anc on EP C D a u val' i) /\ ∀ W, C W -> (∀ j, j < m -> wantedAt ops a val' j -> eff j = true -> (EP j).H (RegG.lookA (on j) (frT ops a val' j)) (val' j) W) -> Fin (frT ops a val' m) W
 | [], k, val, hist, hk, _, hh, hb, h => by
  obtain rfl : k = m := by simpa using hk
  refine ⟨val, hb, fun W hW hN => h W hW fun x hx => ?_⟩
  obtain ⟨j, hj, hw, he, _, hx2⟩ := hh x hx
  rw [hx2]; exact hN j hj hw he
 | o :: l, k, val, hist, hk, hl, hh, hb, h => by
  have ho : ops[k]? = some o := by simpa using (hl 0 (by simp)).symm
  have step : ∀ (v : Value) (hist' : List (Nat × (World -> Prop))), OkAt P Cl Rd ops (eff k) (anc k) (on k) (EP k) C D k o (frT ops a val k) v (u k) (NdAt ops eff anc on EP a val k) ->
    (∀ x ∈ hist', x ∈ hist \/ (Region.wanted o (yielded ops (frT ops a val k).tmps) = true /\ eff k = true /\ x.1 = k /\ x.2 = (EP k).H (RegG.lookA (on k) (frT ops a val k)) v)) -> regT P Cl Rd ops eff anc on EP C D Fin l (k + 1) hist' ((frT ops a val k).put o.dst v) ->
    ∃ val', (∀ i, i < m -> BrAt P Cl Rd ops eff anc on EP C D a u val' i) /\ ∀ W, C W -> (∀ j, j < m -> wantedAt ops a val' j -> eff j = true -> (EP j).H (RegG.lookA (on j) (frT ops a val' j)) (val' j) W) -> Fin (frT ops a val' m) W := by
   intro v hist' hok hh' ht
   obtain ⟨val1, hval1⟩ : ∃ val1 : Nat -> Value, val1 = fun j => if j = k then v else val j := ⟨_, rfl⟩
   have e1 : ∀ j, j < k -> val j = val1 j := fun j hj => by rw [hval1]; simp [show j ≠ k by omega]
   have ek : val1 k = v := by rw [hval1]; simp
   refine branch hu l (k + 1) val1 hist' (by simp at hk; omega) (fun j hj => ?_) (fun x hx => ?_) (fun i hi => ?_) ?_
   ·have := hl (j + 1) (by simp; omega)
    rw [List.getElem?_cons_succ] at this
    rw [this]; congr 1; omega
   ·rcases hh' x hx with hx | ⟨h1, h2, h3, h4⟩
    ·obtain ⟨j, hj, hw, he, h1, h2⟩ := hh x hx
     exact ⟨j, by omega, (wantedAt_congr fun i hi => e1 i (by omega)).1 hw, he, h1, by rw [h2, e1 j hj, frT_congr j fun i hi => e1 i (by omega)]⟩
    ·exact ⟨k, by omega, ⟨o, ho, by rw [<- frT_congr k e1]; exact h1⟩, h2, h3, by rw [h4, ek, frT_congr k e1]⟩
   ·by_cases hik : i = k
    ·subst hik
     intro o' ho'
     rw [ho] at ho'; cases ho'
     rw [<- frT_congr i e1, ek, <- NdAt_congr e1]
     exact hok
    ·exact BrAt_congr (fun j hj => e1 j (by omega)) (hb i (by omega))
   ·have : frT ops a val1 (k + 1) = (frT ops a val k).put o.dst v := by
     show (frT ops a val1 k).put (dstOf ops k) (val1 k) = _
     rw [<- frT_congr k e1, ek]
     unfold dstOf; rw [ho]; rfl
    rw [this]; exact ht
  have hneeds : ∀ W, NdAt ops eff anc on EP a val k W -> needs (anc k) hist W := fun W hN x hx hm => by
   obtain ⟨j, hj, hw, he, h1, h2⟩ := hh x hx
   rw [h2]; rw [h1] at hm
   exact hN j hj hw he hm
  unfold regT regOp at h
  split at h
  ·rename_i hw
   split at h
   ·rename_i he
    refine step (u k) _ ?_ ?_ (h.2 (u k) (hu k))
    ·unfold OkAt; rw [if_pos hw, if_pos he]; exact ⟨rfl, fun W hW hD hN => h.1 W hW hD (hneeds W hN)⟩
    ·intro x hx
     rcases List.mem_cons.1 hx with rfl | hx
     ·exact .inr ⟨hw, he, rfl, rfl⟩
     ·exact .inl hx
   ·rename_i he
    obtain ⟨v, h1, h2⟩ := h
    refine step v _ ?_ (fun x hx => .inl hx) h2
    unfold OkAt; rw [if_pos hw, if_neg he]; exact fun W hW hN => h1 W hW (hneeds W hN)
  ·rename_i hw
   refine step undef _ ?_ (fun x hx => .inl hx) h
   unfold OkAt; rw [if_neg hw]

variable {S : Nat → (Act → World → Prop) → Act → World → Prop} {Qn : Act → World → Prop}
theorem anyG_reg (ok : RegOk md ops anc m) (so : StepOk P Cl Rd ops eff S) (hO : ∀ (j t k : Nat), on j = some t -> dstOf ops k = some t -> k < j -> (anc j).testBit k = true) (hCm : ∀ W W', C W -> M W W' -> C W') {a0 : Act}
  (hT : ∀ u : Nat -> Value, (∀ j, (EP j).P (u j)) -> ∃ val, (∀ i, i < m -> BrAt P Cl Rd ops eff anc on EP C D a0 u val i) /\ ∀ W, C W -> (∀ j, j < m -> wantedAt ops a0 val j -> eff j = true -> (EP j).H (RegG.lookA (on j) (frT ops a0 val j)) (val j) W) -> listG S Qn (List.range' m (ops.size - m)) (frT ops a0 val m) W) :
  ∀ (fuel : Nat) (listed : Array Bool) (a : Act) (W : World), listed.size = ops.size -> listed.toList.count false <= fuel -> C W ->
   (∀ i j, listed.getD i false = true -> (anc i).testBit j = true -> listed.getD j false = true) -> (∀ i, m <= i -> listed.getD i false = false) -> (∀ i, ¬ listed.getD i false = true -> i < m -> D i W) ->
   (∃ u val, (∀ j, (EP j).P (u j)) /\ (∀ i, i < m -> BrAt P Cl Rd ops eff anc on EP C D a0 u val i) /\
    (∀ W, C W -> (∀ j, j < m -> wantedAt ops a0 val j -> eff j = true -> (EP j).H (RegG.lookA (on j) (frT ops a0 val j)) (val j) W) -> listG S Qn (List.range' m (ops.size - m)) (frT ops a0 val m) W) /\
    (∀ j, listed.getD j false = true -> wantedAt ops a0 val j -> eff j = true -> (EP j).H (RegG.lookA (on j) (frT ops a0 val j)) (val j) W) /\ FrP ops a0 (fun j => listed.getD j false = true) val a) ->
   anyG S md ops Qn fuel listed a W := by
 intro fuel
 induction fuel with
 | zero =>
  intro listed a W hs hc hC hdown hlo hDD hex
  -- nothing is left
  obtain ⟨u, val, hu, hb, hfin, hH, hfr⟩ := hex
  have hall : ∀ j, j < ops.size -> listed.getD j false = true := fun j hj => by
   rcases getD_cases (listed := listed) (j := j) (by omega) with h | h
   ·exact h
   ·have h0 : listed.toList.count false = 0 := by omega
    rw [List.count_eq_zero] at h0
    have hjl : j < listed.size := by omega
    refine absurd ?_ h0
    have : listed[j] = false := by simpa [hjl] using h
    rw [<- this]; exact Array.getElem_mem_toList hjl
  have hm : m = ops.size := by
   rcases Nat.lt_or_ge m ops.size with h | h
   ·have h1 := hall m h; rw [hlo m (Nat.le_refl _)] at h1; cases h1
   ·have := ok.le; omega
  have hae : a = frT ops a0 val m := by
   have h2 := ok.frT a0 val m
   have : a.tmps = (frT ops a0 val m).tmps := Array.ext_getElem? fun t => hfr.agree h2 fun j hj => by
    have hjs : j < ops.size := by
     rcases Nat.lt_or_ge j ops.size with h | h
     ·exact h
     ·unfold dstOf at hj; rw [Array.getElem?_eq_none h] at hj; cases hj
    exact ⟨⟨fun _ => by omega, fun _ => hall j hjs⟩, fun _ => rfl⟩
   cases a
   have hd := hfr.defers.trans h2.defers.symm
   cases hf : frT ops a0 val m
   rw [hf] at this hd
   simp only at this hd
   rw [this, hd]
  refine anyG_tail ok so 0 ops.size 0 listed a W (by omega) (by omega) (Nat.le_refl _) hs (fun j hj => ⟨fun _ => hj, fun _ => hall j hj⟩) ?_
  have := hfin W hC fun j hj => hH j (hall j (by omega))
  rw [hae]
  rw [hm, Nat.sub_self] at this
  rw [hm]; exact this
 | succ fuel ih =>
  intro listed a W hs hc hC hdown hlo hDD hex
  obtain ⟨u, val, hu, hb, hfin, hH, hfr⟩ := hex
  by_cases hall : ∀ j, j < m -> listed.getD j false = true
  ·have hae : a = frT ops a0 val m := by
    have h2 := ok.frT a0 val m
    have : a.tmps = (frT ops a0 val m).tmps := Array.ext_getElem? fun t => hfr.agree h2 fun j hj => by
     refine ⟨⟨fun hj' => ?_, fun hj' => hall j hj'⟩, fun _ => rfl⟩
     rcases Nat.lt_or_ge j m with h | h
     ·exact h
     ·rw [hlo j h] at hj'; cases hj'
    cases a
    have hd := hfr.defers.trans h2.defers.symm
    cases hf : frT ops a0 val m
    rw [hf] at this hd
    simp only at this hd
    rw [this, hd]
   have hcount : ops.size - m <= fuel + 1 := by
    refine Nat.le_trans ?_ hc
    have h1 : (listed.toList.drop m).count false = (listed.toList.drop m).length := by
     rw [List.count_eq_length]
     intro b hb'
     obtain ⟨k, hk, rfl⟩ := List.getElem_of_mem hb'
     rw [List.getElem_drop]
     have hk' : m + k < listed.size := by simp at hk; omega
     have := hlo (m + k) (by omega)
     simp [hk'] at this
     simp [this]
    have h2 : (listed.toList.drop m).count false <= listed.toList.count false := List.Sublist.count_le _ (List.drop_sublist _ _)
    rw [h1] at h2
    simp at h2 ⊢
    omega
   refine anyG_tail ok so (ops.size - m) m (fuel + 1) listed a W (Nat.le_refl _) (by have := ok.le; omega) hcount hs (fun j hj => ⟨fun h => ?_, fun h => hall j h⟩) ?_
   ·rcases Nat.lt_or_ge j m with h' | h'
    ·exact h'
    ·rw [hlo j h'] at h; cases h
   ·rw [hae]; exact hfin W hC fun j hj => hH j (hall j hj)
  ·-- some operation of the free part is still to come
   have hex : ∃ j, j < m /\ ¬ listed.getD j false = true := by
    refine Classical.byContradiction fun hno => hall fun j hj => Classical.byContradiction fun hn => hno ⟨j, hj, hn⟩
   refine ⟨fun hnil => ?_, fun i hi => ?_⟩
   ·exfalso
    -- the first of them is ready
    have key : ∀ k, k < m -> ¬ listed.getD k false = true -> False := by
     intro k
     induction k using Nat.strongRecOn with
     | ind k ihk =>
      intro hk hn
      have hks : k < ops.size := by have := ok.le; omega
      have hkl : k < listed.size := by omega
      have : k ∈ Region.ready md ops listed := by
       rw [mem_ready]
       refine ⟨by simp [hkl] at hn ⊢; exact hn, _, Array.getElem?_eq_getElem hks, fun e he hb' => ?_⟩
       have hes := ok.edges k _ (Array.getElem?_eq_getElem hks) e he hb'
       exact Classical.byContradiction fun h => ihk e.on hes (by omega) h
      rw [hnil] at this; cases this
    obtain ⟨j, hj, hn⟩ := hex
    exact key j hj hn
   ·obtain ⟨h1, o, ho, hafter⟩ := mem_ready.1 hi
    have his : i < ops.size := (Array.getElem?_eq_some_iff.1 ho).1
    have hil : i < listed.size := by omega
    have hin : ¬ listed.getD i false = true := by simp [hil] at h1 ⊢; exact h1
    have hanc : ∀ j, (anc i).testBit j = true -> listed.getD j false = true := fun j hj => by
     obtain ⟨e, he, hb', hor⟩ := ok.sound i o j ho hj
     rcases hor with rfl | hor
     ·exact hafter e he hb'
     ·exact hdown e.on j (hafter e he hb') hor
    have him : i < m := by
     rcases Nat.lt_or_ge i m with h | h
     ·exact h
     ·exfalso
      obtain ⟨j, hj, hn⟩ := hex
      exact hn (hanc j (ok.tail i j h his (by omega)))
    have hdst : dstOf ops i = o.dst := by unfold dstOf; rw [ho]; rfl
    -- the frame where it looks
    have hlook : ∀ t, t ∈ o.looksAt ops -> a.tmps[t]? = (frT ops a0 val i).tmps[t]? := fun t ht => hfr.agree (ok.frT a0 val i) fun j hj => by
     obtain ⟨k1, k2⟩ := ok.looks i o t j him ho ht hj
     refine ⟨⟨fun hjl => ?_, fun hji => hanc j (k1 hji)⟩, fun _ => rfl⟩
     rcases Nat.lt_trichotomy j i with h | h | h
     ·exact h
     ·subst h; exact absurd hjl hin
     ·exact absurd (hdown j i hjl (k2 h)) hin
    obtain ⟨hex', hwan⟩ := same_exec (ok.sel i o · · ho) hlook
    have hN : NdAt ops eff anc on EP a0 val i W := fun j _ hw he ha => hH j (hanc j ha) hw he
    have hbi := hb i him o ho
    -- what follows
    have hs' : (listed.setIfInBounds i true).size = ops.size := by simpa using hs
    have hc' : (listed.setIfInBounds i true).toList.count false <= fuel := by
     rw [Array.toList_setIfInBounds]
     have := count_set listed.toList i (by simp [hil] at h1; simp [hil, h1])
     omega
    have hget : ∀ j, (listed.setIfInBounds i true).getD j false = true ↔ (listed.getD j false = true \/ j = i) := fun j => by
     by_cases hij : i = j
     ·subst hij; simp [hil]
     ·rw [getD_set_ne false hij]
      constructor
      ·exact .inl
      ·rintro (h | h)
       ·exact h
       ·exact absurd h.symm hij
    have hdown' : ∀ k j, (listed.setIfInBounds i true).getD k false = true -> (anc k).testBit j = true -> (listed.setIfInBounds i true).getD j false = true := fun k j hk hj => by
     rw [hget] at hk ⊢
     rcases hk with hk | rfl
     ·exact .inl (hdown k j hk hj)
     ·exact .inl (hanc j hj)
    have hlo' : ∀ k, m <= k -> (listed.setIfInBounds i true).getD k false = false := fun k hk => by
     rw [getD_set_ne false (by omega)]; exact hlo k hk
    have hput : ∀ (val' : Nat -> Value), (∀ j, listed.getD j false = true -> val' j = val j) -> FrP ops a0 (fun j => (listed.setIfInBounds i true).getD j false = true) val' (a.put o.dst (val' i)) := fun val' hv => by
     have h0 : FrP ops a0 (fun j => listed.getD j false = true) val' a := ⟨hfr.defers, hfr.size, hfr.old, fun j t h1 h2 h3 => by rw [hv j h1]; exact hfr.new j t h1 h2 h3⟩
     have := h0.put (L' := fun j => (listed.setIfInBounds i true).getD j false = true) i hget fun j t g1 g2 g3 => by
      rcases Nat.lt_trichotomy j i with h | h | h
      ·exact ok.dsts j i t h g2 g3
      ·exact hin (h ▸ g1)
      ·exact ok.dsts i j t h g3 g2
     rwa [hdst] at this
    unfold OkAt at hbi
    by_cases hw : Region.wanted o (yielded ops (frT ops a0 val i).tmps) = true
    ·rw [if_pos hw] at hbi
     cases he : eff i with
     | false =>
      rw [he, if_neg (by decide)] at hbi
      have hfl := hbi W hC hN
      unfold floatAt at hfl
      rw [<- hex'] at hfl
      refine so.flt i o _ a W (val i) ho he (by rw [hwan]; exact hw) hfl ?_
      refine ih _ _ W hs' hc' hC hdown' hlo' (fun j hj hjm => hDD j (fun h => hj ((hget j).2 (.inl h))) hjm) ⟨u, val, hu, hb, hfin, fun j hj hwj hej => ?_, hput val fun _ _ => rfl⟩
      rcases (hget j).1 hj with hj | rfl
      ·exact hH j hj hwj hej
      ·rw [he] at hej; cases hej
     | true =>
      rw [he, if_pos rfl] at hbi
      have hef := hbi.2 W hC (hDD i hin him) hN
      rw [<- hex'] at hef
      refine so.eff i o _ a W ho he (by rw [hwan]; exact hw) (so.emono _ _ _ (fun v W' ⟨⟨hmv, hDv⟩, hPv, hHv⟩ => ?_) hef)
      -- another branch
      obtain ⟨u', hu'e⟩ : ∃ u' : Nat -> Value, u' = fun j => if j = i then v else u j := ⟨_, rfl⟩
      have hu' : ∀ j, (EP j).P (u' j) := fun j => by
       rw [hu'e]; show (EP j).P (if j = i then v else u j); split
       ·rename_i h; subst h; exact hPv
       ·exact hu j
      obtain ⟨val', hb', hfin'⟩ := hT u' hu'
      have hC' := hCm W W' hC hmv
      have hsame : ∀ j, listed.getD j false = true -> val' j = val j /\ (wantedAt ops a0 val' j ↔ wantedAt ops a0 val j) /\ RegG.lookA (on j) (frT ops a0 val' j) = RegG.lookA (on j) (frT ops a0 val j) := by
       intro j
       induction j using Nat.strongRecOn with
       | ind j ihj =>
        intro hj
        have hjm : j < m := by
         rcases Nat.lt_or_ge j m with h | h
         ·exact h
         ·rw [hlo j h] at hj; cases hj
        have hjs : j < ops.size := by have := ok.le; omega
        have hoj := Array.getElem?_eq_getElem hjs
        obtain ⟨oj, hoj'⟩ : ∃ oj, ops[j]? = some oj := ⟨_, hoj⟩
        have hlk : ∀ t, t ∈ oj.looksAt ops -> (frT ops a0 val' j).tmps[t]? = (frT ops a0 val j).tmps[t]? := fun t ht => (ok.frT a0 val' j).agree (ok.frT a0 val j) fun k hk => by
         refine ⟨Iff.rfl, fun hkj => (ihj k hkj ?_).1⟩
         exact hdown j k hj ((ok.looks j oj t k hjm hoj' ht hk).1 hkj)
        obtain ⟨he1, he2⟩ := same_exec (ok.sel j oj · · hoj') hlk
        have hwiff : wantedAt ops a0 val' j ↔ wantedAt ops a0 val j := by
         unfold wantedAt
         constructor
         ·rintro ⟨o1, h1, h2⟩
          rw [hoj'] at h1; cases h1
          exact ⟨oj, hoj', by rw [<- he2]; exact h2⟩
         ·rintro ⟨o1, h1, h2⟩
          rw [hoj'] at h1; cases h1
          exact ⟨oj, hoj', by rw [he2]; exact h2⟩
        refine ⟨?_, hwiff, RegG.lookA_congr fun t ht => (ok.frT a0 val' j).agree (ok.frT a0 val j) fun k hk => ⟨Iff.rfl, fun hkj => (ihj k hkj (hdown j k hj (hO j t k ht hk hkj))).1⟩⟩
        have b1 := hb j hjm oj hoj'
        have b2 := hb' j hjm oj hoj'
        unfold OkAt at b1 b2
        rw [he2] at b2
        by_cases hwj : Region.wanted oj (yielded ops (frT ops a0 val j).tmps) = true
        ·rw [if_pos hwj] at b1 b2
         cases hej : eff j with
         | true =>
          rw [hej, if_pos rfl] at b1 b2
          have hji : j ≠ i := fun h => by subst h; exact hin hj
          rw [b1.1, b2.1, hu'e]; simp [hji]
         | false =>
          rw [hej, if_neg (by decide)] at b1 b2
          have n1 : NdAt ops eff anc on EP a0 val j W' := fun k hk hwk hek hak => by
           have hkl := hdown j k hj hak
           have hPk : (EP k).P (val k) := by
            have bk := hb k (by omega)
            obtain ⟨ok', hok, hwok⟩ := hwk
            have := bk ok' hok
            unfold OkAt at this
            rw [if_pos hwok, hek, if_pos rfl] at this
            rw [this.1]; exact hu k
           exact (EP k).st _ _ W W' hmv hPk (hH k hkl hwk hek)
          have n2 : NdAt ops eff anc on EP a0 val' j W' := fun k hk hwk hek hak => by
           obtain ⟨s1, s2, s3⟩ := ihj k hk (hdown j k hj hak)
           rw [s1, s3]; exact n1 k hk (s2.1 hwk) hek hak
          have f1 := b1 W' hC' n1
          have f2 := b2 W' hC' n2
          unfold floatAt at f1 f2
          rw [he1] at f2
          rcases f1 with f1 | ⟨f1, g1⟩ <;> rcases f2 with f2 | ⟨f2, g2⟩ <;> rw [f1] at f2
          ·injection f2 with f2 _; injection f2 with f2; exact f2.symm
          ·injection f2 with f2 _; cases f2
          ·injection f2 with f2 _; cases f2
          ·rw [g1, g2]
        ·rw [if_neg hwj] at b1 b2
         rw [b1, b2]
      have hlki : RegG.lookA (on i) (frT ops a0 val' i) = RegG.lookA (on i) (frT ops a0 val i) := RegG.lookA_congr fun t ht => (ok.frT a0 val' i).agree (ok.frT a0 val i) fun k hk =>
        ⟨Iff.rfl, fun hki => (hsame k (hanc k (hO i t k ht hk hki))).1⟩
      have hvi : val' i = v := by
       have b2 := hb' i him o ho
       have hlk : ∀ t, t ∈ o.looksAt ops -> (frT ops a0 val' i).tmps[t]? = (frT ops a0 val i).tmps[t]? := fun t ht => (ok.frT a0 val' i).agree (ok.frT a0 val i) fun k hk =>
        ⟨Iff.rfl, fun hki => (hsame k (hanc k ((ok.looks i o t k him ho ht hk).1 hki))).1⟩
       obtain ⟨_, he2⟩ := same_exec (ok.sel i o · · ho) hlk
       unfold OkAt at b2
       rw [he2, if_pos hw, he, if_pos rfl] at b2
       rw [b2.1, hu'e]; simp
      have := hput val' fun j hj => (hsame j hj).1
      rw [hvi] at this
      refine ih _ _ W' hs' hc' hC' hdown' hlo' (fun j hj hjm => hDv j (fun e => hj ((hget j).2 (.inr e))) (Bool.eq_false_iff.2 fun e => hj ((hget j).2 (.inl (hanc j e)))) (hDD j (fun h => hj ((hget j).2 (.inl h))) hjm)) ⟨u', val', hu', hb', hfin', fun j hj hwj hej => ?_, this⟩
      rcases (hget j).1 hj with hj | rfl
      ·obtain ⟨s1, s2, s3⟩ := hsame j hj
       have hwj' := s2.1 hwj
       have hPj : (EP j).P (val j) := by
        have hjm : j < m := by
         rcases Nat.lt_or_ge j m with h | h
         ·exact h
         ·rw [hlo j h] at hj; cases hj
        obtain ⟨oj, hoj, hwoj⟩ := hwj'
        have := hb j hjm oj hoj
        unfold OkAt at this
        rw [if_pos hwoj, hej, if_pos rfl] at this
        rw [this.1]; exact hu j
       rw [s1, s3]; exact (EP j).st _ _ W W' hmv hPj (hH j hj hwj' hej)
      ·rw [hvi, hlki]; exact hHv
    ·rw [if_neg hw] at hbi
     have hwf : Region.wanted o (yielded ops a.tmps) = false := by rw [hwan]; simpa using hw
     refine so.un i o _ a W ho hwf ?_
     have h0 := hput val fun _ _ => rfl
     rw [hbi] at h0
     refine ih _ _ W hs' hc' hC hdown' hlo' (fun j hj hjm => hDD j (fun h => hj ((hget j).2 (.inl h))) hjm) ⟨u, val, hu, hb, hfin, fun j hj hwj hej => ?_, h0⟩
     rcases (hget j).1 hj with hj | rfl
     ·exact hH j hj hwj hej
     ·obtain ⟨oj, hoj, hwoj⟩ := hwj
      rw [ho] at hoj; cases hoj
      exact absurd hwoj hw
end

section
variable {P : Program} {Cl : FuncId → Array Value → World → (Ending → World → Prop) → Prop} {Rd : Nat → FuncId → Array Value → Code → Code → World → (Ending → World → Prop) → Prop}
  {ops : Array Oper} {eff : Nat → Bool} {anc : Nat → Nat} {M : World → World → Prop} {on : Nat → Option Tmp} {EP : Nat → RegG.Eff M} {C : World → Prop} {D : Nat → World → Prop} {Fin : List Oper → Act → World → Prop}
def regM (P : Program) (Cl : FuncId -> Array Value -> World -> (Ending -> World -> Prop) -> Prop) (Rd : Nat -> FuncId -> Array Value -> Code -> Code -> World -> (Ending -> World -> Prop) -> Prop)
  (ops : Array Oper) (eff : Nat -> Bool) (anc : Nat -> Nat) (on : Nat -> Option Tmp) (EP : Nat -> RegG.Eff M) (C : World -> Prop) (D : Nat -> World -> Prop) (Fin : List Oper -> Act -> World -> Prop) : Nat -> List Oper -> Nat -> List (Nat × (World -> Prop)) -> Act -> Prop
 | 0, l, _, hist, a => ∀ W, C W -> (∀ x ∈ hist, x.2 W) -> Fin l a W
 | _ + 1, [], _, _, _ => False
 | m + 1, o :: rest, k, hist, a => regOp P Cl Rd ops (eff k) (anc k) (on k) (EP k) C D o k hist a (regM P Cl Rd ops eff anc on EP C D Fin m rest (k + 1))
theorem regOp_mono {isE : Bool} {m : Nat} {s : Option Tmp} {E : RegG.Eff M} {o : Oper} {k : Nat} {hist : List (Nat × (World -> Prop))} {a : Act} {K K' : List (Nat × (World -> Prop)) -> Act -> Prop} (h : ∀ hi a, K hi a -> K' hi a) (hh : regOp P Cl Rd ops isE m s E C D o k hist a K) : regOp P Cl Rd ops isE m s E C D o k hist a K' := by
 unfold regOp at *
 split
 ·rename_i hw
  rw [if_pos hw] at hh
  split
  ·rename_i he
   rw [if_pos he] at hh
   exact ⟨hh.1, fun v hv => h _ _ (hh.2 v hv)⟩
  ·rename_i he
   rw [if_neg he] at hh
   obtain ⟨v, h1, h2⟩ := hh
   exact ⟨v, h1, h _ _ h2⟩
 ·rename_i hw
  rw [if_neg hw] at hh
  exact h _ _ hh
theorem regT_of_regM : ∀ (m : Nat) (l : List Oper) (k : Nat) (hist : List (Nat × (World -> Prop))) (a : Act), regM P Cl Rd ops eff anc on EP C D Fin m l k hist a -> regT P Cl Rd ops eff anc on EP C D (Fin (l.drop m)) (l.take m) k hist a
 | 0, l, _, _, _, h => by rw [List.take_zero, List.drop_zero]; exact h
 | m + 1, [], _, _, _, h => h.elim
 | m + 1, o :: l, k, hist, a, h => by
  rw [List.take_succ_cons, List.drop_succ_cons]
  exact regOp_mono (fun hi a h => regT_of_regM m l (k + 1) hi a h) h

theorem regStep {m : Nat} {o : Oper} {rest : List Oper} {k : Nat} {hist : List (Nat × (World -> Prop))} {a : Act}
  (h : ∀ K : List (Nat × (World -> Prop)) -> Act -> Prop, (∀ hi a, Later (regM P Cl Rd ops eff anc on EP C D Fin m rest (k + 1) hi a) -> K hi a) -> regOp P Cl Rd ops (eff k) (anc k) (on k) (EP k) C D o k hist a K) : Later (regM P Cl Rd ops eff anc on EP C D Fin (m + 1) (o :: rest) k hist a) :=
 ⟨h _ fun _ _ h => h.out⟩
theorem regNil {l : List Oper} {k : Nat} {hist : List (Nat × (World -> Prop))} {a : Act} (h : ∀ W, C W -> (∀ x ∈ hist, x.2 W) -> Fin l a W) : Later (regM P Cl Rd ops eff anc on EP C D Fin 0 l k hist a) := ⟨h⟩
theorem regF {isE : Bool} {m : Nat} {s : Option Tmp} {E : RegG.Eff M} {o : Oper} {k : Nat} {hist : List (Nat × (World -> Prop))} {a : Act} {K : List (Nat × (World -> Prop)) -> Act -> Prop} (he : isE = false) (hw : Region.wanted o (yielded ops a.tmps) = true)
  (h : ∃ v, (∀ W : { W // C W }, floatAt P o a v W.1) /\ K hist (a.put o.dst v)) : regOp P Cl Rd ops isE m s E C D o k hist a K := by
 subst he
 unfold regOp
 rw [if_pos hw, if_neg (by decide)]
 obtain ⟨v, h1, h2⟩ := h
 exact ⟨v, fun W hW _ => h1 ⟨W, hW⟩, h2⟩
theorem regL {isE : Bool} {m : Nat} {s : Option Tmp} {E : RegG.Eff M} {o : Oper} {k : Nat} {hist : List (Nat × (World -> Prop))} {a : Act} {K : List (Nat × (World -> Prop)) -> Act -> Prop} (he : isE = false) (hw : Region.wanted o (yielded ops a.tmps) = true) (v : Value)
  (h1 : ∀ W, C W -> needs m hist W -> floatAt P o a v W) (h2 : K hist (a.put o.dst v)) : regOp P Cl Rd ops isE m s E C D o k hist a K := by
 subst he
 unfold regOp
 rw [if_pos hw, if_neg (by decide)]
 exact ⟨v, h1, h2⟩
theorem regE {isE : Bool} {m : Nat} {s : Option Tmp} {E : RegG.Eff M} {o : Oper} {k : Nat} {hist : List (Nat × (World -> Prop))} {a : Act} {K : List (Nat × (World -> Prop)) -> Act -> Prop} (he : isE = true) (hw : Region.wanted o (yielded ops a.tmps) = true) (E' : RegG.Eff M) (hE : E = E')
  (h1 : ∀ W, C W -> D k W -> needs m hist W -> effT Cl Rd (fun v W' => (M W W' /\ ∀ j, j ≠ k -> m.testBit j = false -> D j W -> D j W') /\ E'.P v /\ E'.H (RegG.lookA s a) v W') ((execOp a.eval o).run P W)) (h2 : ∀ v, E'.P v -> K ((k, E'.H (RegG.lookA s a) v) :: hist) (a.put o.dst v)) : regOp P Cl Rd ops isE m s E C D o k hist a K := by
 subst he hE
 unfold regOp
 rw [if_pos hw, if_pos rfl]
 exact ⟨h1, h2⟩
theorem regN {isE : Bool} {m : Nat} {s : Option Tmp} {E : RegG.Eff M} {o : Oper} {k : Nat} {hist : List (Nat × (World -> Prop))} {a : Act} {K : List (Nat × (World -> Prop)) -> Act -> Prop} (hw : Region.wanted o (yielded ops a.tmps) = false) (h : K hist (a.put o.dst undef)) : regOp P Cl Rd ops isE m s E C D o k hist a K := by
 unfold regOp
 rw [hw, if_neg (by decide)]
 exact h
end

theorem wp_region_regM {P : Program} {id : Nat} {Q : Exit -> Act -> World -> Prop} {a : Act} {w : World} {l : List Oper} (M : World -> World -> Prop) (hd : M w w.drew) (htr : ∀ A B C, M A B -> M B C -> M A C) (hm : P.follows .mixedOrders = true) (m : Nat) (anc : List Nat) (eff : Nat -> Bool) (hB : regChk .any l.toArray anc m = true) (on : Nat -> Option Tmp) (hz : ∀ j, l.toArray.size <= j -> on j = none) (hO : RegG.onChk l.toArray anc on = true) (EP : Nat -> RegG.Eff M) (D : Nat -> World -> Prop) (hD0 : ∀ j, j < m -> D j w.drew)
  (h : ∀ C : World -> Prop, (∀ W, C W ↔ M w W) -> Nonempty { W // C W } -> Later (regM P (Calls P) noRd l.toArray eff (fun i => anc.getD i 0) on EP C D (fun r a W => wpList P l.toArray Q r a W) m l 0 [] a)) : (Code.region id l.toArray true).wp P Q a w := by
 have ok := regChk_ok hB
 have h0 : M w w.drew := hd
 have hT := regT_of_regM m l 0 [] a (h (M w) (fun _ => Iff.rfl) ⟨⟨_, h0⟩⟩).out
 have hml : m <= l.length := by have := ok.le; simpa using this
 have hbr : ∀ u : Nat -> Value, (∀ j, (EP j).P (u j)) -> ∃ val, (∀ i, i < m -> BrAt P (Calls P) noRd l.toArray eff (fun i => anc.getD i 0) on EP (M w) D a u val i) /\
   ∀ W, M w W -> (∀ j, j < m -> wantedAt l.toArray a val j -> eff j = true -> (EP j).H (RegG.lookA (on j) (frT l.toArray a val j)) (val j) W) -> listG (wpOp P l.toArray Q) (fun a w => Q .normal a w) (List.range' m (l.toArray.size - m)) (frT l.toArray a val m) W := fun u hu => by
  obtain ⟨val, h1, h2⟩ := branch (ops := l.toArray) (m := m) (a := a) hu (l.take m) 0 (fun _ => undef) [] (by rw [List.length_take]; omega) (fun j hj => by rw [List.length_take] at hj; simp [List.getElem?_take]; omega) (fun x hx => by cases hx) (fun i hi => by omega) hT
  refine ⟨val, h1, fun W hW hN => listG_ops _ _ _ (fun i hi => ?_) ?_⟩
  ·have := (List.mem_range'.1 hi)
   obtain ⟨k, hk, rfl⟩ := this
   simp only [List.size_toArray] at *
   omega
  ·have := wpOps_eq_wpList (P := P) (ops := l.toArray) (Q := Q) (l.drop m) m (fun j => by simp [List.getElem?_drop])
   rw [List.length_drop] at this
   simp only [List.size_toArray]
   rw [this]
   exact h2 W hW hN
 have hno : ∀ j, (Array.replicate l.toArray.size false).getD j false = false := fun j => by
  rcases Nat.lt_or_ge j l.length with h | h
  ·simp [h]
  ·simp [Nat.not_lt.2 h]
 refine wp_region_any hm (wpAny_anyG _ _ _ _ ?_)
 refine anyG_reg (eff := eff) (on := on) (EP := EP) (C := M w) (D := D) ok wpOp_stepOk (RegG.onChk_ok hz hO) (fun W W' h h' => htr _ _ _ h h') (a0 := a) hbr _ _ _ _ (by simp) (by simp) h0 (fun i j hi => by rw [hno] at hi; cases hi) (fun i _ => hno i) (fun i _ hi => hD0 i hi) ?_
 obtain ⟨val, h1, h2⟩ := hbr (fun j => (EP j).wit) (fun j => (EP j).pw)
 exact ⟨_, val, fun j => (EP j).pw, h1, h2, fun j hj => by (rw [hno] at hj; cases hj), FrP.start a _ fun j hj => by (rw [hno] at hj; cases hj)⟩
end Go.Proofs.YtbiboekhakbnpaaGreatDoor.RegZ

namespace Go.Proofs.YtbiboekhakbnpaaGreatDoor
open Go Go.RowKit
theorem effT_mono {P : Program} {p q : Value -> World -> Prop} (h : ∀ v W, p v W -> q v W) : ∀ {r : Result Next}, effT (Calls P) noRd p r -> effT (Calls P) noRd q r
 | .ok (.value _) _, hr => h _ _ hr
 | .ok .skip _, hr => h _ _ hr
 | .ok (.enter _ _) _, hr => Calls.mono hr fun _ _ ⟨v, e, hv⟩ => ⟨v, e, h _ _ hv⟩
 | .ok (.round _ _ _ _ _) _, hr => nomatch hr
end Go.Proofs.YtbiboekhakbnpaaGreatDoor

namespace Go.Proofs.YtbiboekhakbnpaaGreatDoor.RegQ
open Go Go.RowKit

def up {M : World -> World -> Prop} (E : Eff M) : RegG.Eff M := ⟨E.P, fun _ => E.H, E.wit, E.pw, fun _ v W W' => E.st v W W'⟩
def regM {M : World -> World -> Prop} (P : Program) (Cl : FuncId -> Array Value -> World -> (Ending -> World -> Prop) -> Prop) (Rd : Nat -> FuncId -> Array Value -> Code -> Code -> World -> (Ending -> World -> Prop) -> Prop)
  (ops : Array Oper) (eff : Nat -> Bool) (anc : Nat -> Nat) (EP : Nat -> Eff M) (C : World -> Prop) (D : Nat -> World -> Prop) (Fin : List Oper -> Act -> World -> Prop) (n : Nat) (l : List Oper) (k : Nat) (hist : List (Nat × (World -> Prop))) (a : Act) : Prop :=
 RegZ.regM P Cl Rd ops eff anc (fun _ => none) (fun i => up (EP i)) C D Fin n l k hist a
def regOp {M : World -> World -> Prop} (P : Program) (Cl : FuncId -> Array Value -> World -> (Ending -> World -> Prop) -> Prop) (Rd : Nat -> FuncId -> Array Value -> Code -> Code -> World -> (Ending -> World -> Prop) -> Prop)
  (ops : Array Oper) (isE : Bool) (m : Nat) (E : Eff M) (C : World -> Prop) (D : Nat -> World -> Prop) (o : Oper) (k : Nat) (hist : List (Nat × (World -> Prop))) (a : Act) (K : List (Nat × (World -> Prop)) -> Act -> Prop) : Prop :=
 RegZ.regOp P Cl Rd ops isE m none (up E) C D o k hist a K
section
variable {P : Program} {Cl : FuncId → Array Value → World → (Ending → World → Prop) → Prop} {Rd : Nat → FuncId → Array Value → Code → Code → World → (Ending → World → Prop) → Prop}
  {ops : Array Oper} {eff : Nat → Bool} {anc : Nat → Nat} {M : World → World → Prop} {on : Nat → Option Tmp} {EP : Nat → Eff M} {C : World → Prop} {D : Nat → World → Prop} {Fin : List Oper → Act → World → Prop} {isE : Bool} {m : Nat} {s : Option Tmp} {E : Eff M} {o : Oper} {k : Nat} {hist : List (Nat × (World → Prop))} {a : Act} {K : List (Nat × (World → Prop)) → Act → Prop} {l : List Oper}
theorem regStep (h : ∀ K : List (Nat × (World -> Prop)) -> Act -> Prop, (∀ hi a, Later (regM P Cl Rd ops eff anc EP C D Fin m l (k + 1) hi a) -> K hi a) -> regOp P Cl Rd ops (eff k) (anc k) (EP k) C D o k hist a K) : Later (regM P Cl Rd ops eff anc EP C D Fin (m + 1) (o :: l) k hist a) :=
 ⟨(RegZ.regStep (D := D) (on := (fun _ => none)) fun K hK => h K fun hi a hl => hK hi a ⟨hl.out⟩).out⟩
theorem regNil (h : ∀ W, C W -> (∀ x ∈ hist, x.2 W) -> Fin l a W) : Later (regM P Cl Rd ops eff anc EP C D Fin 0 l k hist a) := ⟨h⟩
theorem regF (he : isE = false) (hw : Region.wanted o (yielded ops a.tmps) = true) (h : ∃ v, (∀ W : { W // C W }, floatAt P o a v W.1) /\ K hist (a.put o.dst v)) : regOp P Cl Rd ops isE m E C D o k hist a K := RegZ.regF he hw h
theorem regL (he : isE = false) (hw : Region.wanted o (yielded ops a.tmps) = true) (v : Value) (h1 : ∀ W, C W -> needs m hist W -> floatAt P o a v W) (h2 : K hist (a.put o.dst v)) : regOp P Cl Rd ops isE m E C D o k hist a K := RegZ.regL he hw v h1 h2
theorem regE (he : isE = true) (hw : Region.wanted o (yielded ops a.tmps) = true) (E' : Eff M) (hE : E = E') (h1 : ∀ W, C W -> D k W -> needs m hist W -> effT Cl Rd (fun v W' => (M W W' /\ ∀ j, j ≠ k -> m.testBit j = false -> D j W -> D j W') /\ E'.P v /\ E'.H v W') ((execOp a.eval o).run P W)) (h2 : ∀ v, E'.P v -> K ((k, E'.H v) :: hist) (a.put o.dst v)) : regOp P Cl Rd ops isE m E C D o k hist a K :=
 RegZ.regE (s := none) he hw (up E') (by rw [hE]) h1 h2
theorem regN (hw : Region.wanted o (yielded ops a.tmps) = false) (h : K hist (a.put o.dst undef)) : regOp P Cl Rd ops isE m E C D o k hist a K := RegZ.regN hw h
end
theorem wp_region_regM {P : Program} {id : Nat} {Q : Exit -> Act -> World -> Prop} {a : Act} {w : World} {l : List Oper} (M : World -> World -> Prop) (hd : M w w.drew) (htr : ∀ A B C, M A B -> M B C -> M A C) (hm : P.follows .mixedOrders = true) (m : Nat) (anc : List Nat) (eff : Nat -> Bool) (hB : regChk .any l.toArray anc m = true) (EP : Nat -> Eff M) (D : Nat -> World -> Prop) (hD0 : ∀ j, j < m -> D j w.drew)
  (h : ∀ C : World -> Prop, (∀ W, C W ↔ M w W) -> Nonempty { W // C W } -> Later (regM P (Calls P) noRd l.toArray eff (fun i => anc.getD i 0) EP C D (fun r a W => wpList P l.toArray Q r a W) m l 0 [] a)) : (Code.region id l.toArray true).wp P Q a w :=
 RegZ.wp_region_regM M hd htr hm m anc eff hB (fun _ => none) (fun _ _ => rfl) (List.all_eq_true.2 fun _ _ => List.all_eq_true.2 fun _ _ => rfl) (fun i => up (EP i)) D hD0 fun C hC hne => ⟨(h C hC hne).out⟩
end Go.Proofs.YtbiboekhakbnpaaGreatDoor.RegQ

namespace Go.Proofs.YtbiboekhakbnpaaGreatDoor.RegG
open Go Go.RowKit

def regM {M : World -> World -> Prop} (P : Program) (Cl : FuncId -> Array Value -> World -> (Ending -> World -> Prop) -> Prop) (Rd : Nat -> FuncId -> Array Value -> Code -> Code -> World -> (Ending -> World -> Prop) -> Prop)
  (ops : Array Oper) (eff : Nat -> Bool) (anc : Nat -> Nat) (on : Nat -> Option Tmp) (EP : Nat -> Eff M) (C : World -> Prop) (Fin : List Oper -> Act -> World -> Prop) (n : Nat) (l : List Oper) (k : Nat) (hist : List (Nat × (World -> Prop))) (a : Act) : Prop :=
 RegZ.regM P Cl Rd ops eff anc on EP C (fun _ _ => True) Fin n l k hist a
def regOp {M : World -> World -> Prop} (P : Program) (Cl : FuncId -> Array Value -> World -> (Ending -> World -> Prop) -> Prop) (Rd : Nat -> FuncId -> Array Value -> Code -> Code -> World -> (Ending -> World -> Prop) -> Prop)
  (ops : Array Oper) (isE : Bool) (m : Nat) (s : Option Tmp) (E : Eff M) (C : World -> Prop) (o : Oper) (k : Nat) (hist : List (Nat × (World -> Prop))) (a : Act) (K : List (Nat × (World -> Prop)) -> Act -> Prop) : Prop :=
 RegZ.regOp P Cl Rd ops isE m s E C (fun _ _ => True) o k hist a K
section
variable {P : Program} {Cl : FuncId → Array Value → World → (Ending → World → Prop) → Prop} {Rd : Nat → FuncId → Array Value → Code → Code → World → (Ending → World → Prop) → Prop}
  {ops : Array Oper} {eff : Nat → Bool} {anc : Nat → Nat} {M : World → World → Prop} {on : Nat → Option Tmp} {EP : Nat → Eff M} {C : World → Prop} {D : Nat → World → Prop} {Fin : List Oper → Act → World → Prop} {isE : Bool} {m : Nat} {s : Option Tmp} {E : Eff M} {o : Oper} {k : Nat} {hist : List (Nat × (World → Prop))} {a : Act} {K : List (Nat × (World → Prop)) → Act → Prop} {l : List Oper}
theorem regStep (h : ∀ K : List (Nat × (World -> Prop)) -> Act -> Prop, (∀ hi a, Later (regM P (Calls P) noRd ops eff anc on EP C Fin m l (k + 1) hi a) -> K hi a) -> regOp P (Calls P) noRd ops (eff k) (anc k) (on k) (EP k) C o k hist a K) : Later (regM P (Calls P) noRd ops eff anc on EP C Fin (m + 1) (o :: l) k hist a) :=
 ⟨(RegZ.regStep (D := (fun _ _ => True)) (on := on) fun K hK => h K fun hi a hl => hK hi a ⟨hl.out⟩).out⟩
theorem regNil (h : ∀ W, C W -> (∀ x ∈ hist, x.2 W) -> Fin l a W) : Later (regM P (Calls P) noRd ops eff anc on EP C Fin 0 l k hist a) := ⟨h⟩
theorem regF (he : isE = false) (hw : Region.wanted o (yielded ops a.tmps) = true) (h : ∃ v, (∀ W : { W // C W }, floatAt P o a v W.1) /\ K hist (a.put o.dst v)) : regOp P (Calls P) noRd ops isE m s E C o k hist a K := RegZ.regF he hw h
theorem regL (he : isE = false) (hw : Region.wanted o (yielded ops a.tmps) = true) (v : Value) (h1 : ∀ W, C W -> needs m hist W -> floatAt P o a v W) (h2 : K hist (a.put o.dst v)) : regOp P (Calls P) noRd ops isE m s E C o k hist a K := RegZ.regL he hw v h1 h2
theorem regE (he : isE = true) (hw : Region.wanted o (yielded ops a.tmps) = true) (E' : Eff M) (hE : E = E') (h1 : ∀ W, C W -> needs m hist W -> effT (Calls P) noRd (fun v W' => M W W' /\ E'.P v /\ E'.H (lookA s a) v W') ((execOp a.eval o).run P W)) (h2 : ∀ v, E'.P v -> K ((k, E'.H (lookA s a) v) :: hist) (a.put o.dst v)) : regOp P (Calls P) noRd ops isE m s E C o k hist a K :=
 RegZ.regE he hw E' hE (fun W hW _ hN => effT_mono (fun _ _ ⟨h1, h2⟩ => ⟨⟨h1, fun _ _ _ _ => trivial⟩, h2⟩) (h1 W hW hN)) h2
theorem regN (hw : Region.wanted o (yielded ops a.tmps) = false) (h : K hist (a.put o.dst undef)) : regOp P (Calls P) noRd ops isE m s E C o k hist a K := RegZ.regN hw h
end
theorem wp_region_regM {P : Program} {id : Nat} {Q : Exit -> Act -> World -> Prop} {a : Act} {w : World} {l : List Oper} (M : World -> World -> Prop) (hd : M w w.drew) (htr : ∀ A B C, M A B -> M B C -> M A C) (hm : P.follows .mixedOrders = true) (m : Nat) (anc : List Nat) (eff : Nat -> Bool) (hB : regChk .any l.toArray anc m = true) (on : Nat -> Option Tmp) (hz : ∀ j, l.toArray.size <= j -> on j = none) (hO : onChk l.toArray anc on = true) (EP : Nat -> Eff M)
  (h : ∀ C : World -> Prop, (∀ W, C W ↔ M w W) -> Nonempty { W // C W } -> Later (regM P (Calls P) noRd l.toArray eff (fun i => anc.getD i 0) on EP C (fun r a W => wpList P l.toArray Q r a W) m l 0 [] a)) : (Code.region id l.toArray true).wp P Q a w :=
 RegZ.wp_region_regM M hd htr hm m anc eff hB on hz hO EP (fun _ _ => True) (fun _ _ => trivial) fun C hC hne => ⟨(h C hC hne).out⟩
end Go.Proofs.YtbiboekhakbnpaaGreatDoor.RegG

namespace Go.Proofs.YtbiboekhakbnpaaGreatDoor
open Go Go.RowKit
section
variable {P : Program} {ops : Array Oper} {eff : Nat → Bool} {anc : Nat → Nat} {M : World → World → Prop} {EP : Nat → Eff M} {C : World → Prop} {Fin : List Oper → Act → World → Prop}
def regM (P : Program) (Cl : FuncId -> Array Value -> World -> (Ending -> World -> Prop) -> Prop) (Rd : Nat -> FuncId -> Array Value -> Code -> Code -> World -> (Ending -> World -> Prop) -> Prop)
  (ops : Array Oper) (eff : Nat -> Bool) (anc : Nat -> Nat) (EP : Nat -> Eff M) (C : World -> Prop) (Fin : List Oper -> Act -> World -> Prop) (n : Nat) (l : List Oper) (k : Nat) (hist : List (Nat × (World -> Prop))) (a : Act) : Prop :=
 RegQ.regM P Cl Rd ops eff anc EP C (fun _ _ => True) Fin n l k hist a
def regOp (P : Program) (Cl : FuncId -> Array Value -> World -> (Ending -> World -> Prop) -> Prop) (Rd : Nat -> FuncId -> Array Value -> Code -> Code -> World -> (Ending -> World -> Prop) -> Prop)
  (ops : Array Oper) (isE : Bool) (m : Nat) (E : Eff M) (C : World -> Prop) (o : Oper) (k : Nat) (hist : List (Nat × (World -> Prop))) (a : Act) (K : List (Nat × (World -> Prop)) -> Act -> Prop) : Prop :=
 RegQ.regOp P Cl Rd ops isE m E C (fun _ _ => True) o k hist a K
theorem regStep {m : Nat} {o : Oper} {rest : List Oper} {k : Nat} {hist : List (Nat × (World -> Prop))} {a : Act}
  (h : ∀ K : List (Nat × (World -> Prop)) -> Act -> Prop, (∀ hi a, Later (regM P (Calls P) noRd ops eff anc EP C Fin m rest (k + 1) hi a) -> K hi a) -> regOp P (Calls P) noRd ops (eff k) (anc k) (EP k) C o k hist a K) : Later (regM P (Calls P) noRd ops eff anc EP C Fin (m + 1) (o :: rest) k hist a) :=
 ⟨(RegQ.regStep (D := fun _ _ => True) fun K hK => h K fun hi a hl => hK hi a ⟨hl.out⟩).out⟩
theorem regNil {l : List Oper} {k : Nat} {hist : List (Nat × (World -> Prop))} {a : Act} (h : ∀ W, C W -> (∀ x ∈ hist, x.2 W) -> Fin l a W) : Later (regM P (Calls P) noRd ops eff anc EP C Fin 0 l k hist a) := ⟨h⟩
theorem regF {isE : Bool} {m : Nat} {E : Eff M} {o : Oper} {k : Nat} {hist : List (Nat × (World -> Prop))} {a : Act} {K : List (Nat × (World -> Prop)) -> Act -> Prop} (he : isE = false) (hw : Region.wanted o (yielded ops a.tmps) = true)
  (h : ∃ v, (∀ W : { W // C W }, floatAt P o a v W.1) /\ K hist (a.put o.dst v)) : regOp P (Calls P) noRd ops isE m E C o k hist a K := RegQ.regF he hw h
theorem regL {isE : Bool} {m : Nat} {E : Eff M} {o : Oper} {k : Nat} {hist : List (Nat × (World -> Prop))} {a : Act} {K : List (Nat × (World -> Prop)) -> Act -> Prop} (he : isE = false) (hw : Region.wanted o (yielded ops a.tmps) = true) (v : Value)
  (h1 : ∀ W, C W -> needs m hist W -> floatAt P o a v W) (h2 : K hist (a.put o.dst v)) : regOp P (Calls P) noRd ops isE m E C o k hist a K := RegQ.regL he hw v h1 h2
theorem regE {isE : Bool} {m : Nat} {E : Eff M} {o : Oper} {k : Nat} {hist : List (Nat × (World -> Prop))} {a : Act} {K : List (Nat × (World -> Prop)) -> Act -> Prop} (he : isE = true) (hw : Region.wanted o (yielded ops a.tmps) = true) (E' : Eff M) (hE : E = E')
  (h1 : ∀ W, C W -> needs m hist W -> effT (Calls P) noRd (fun v W' => M W W' /\ E'.P v /\ E'.H v W') ((execOp a.eval o).run P W)) (h2 : ∀ v, E'.P v -> K ((k, E'.H v) :: hist) (a.put o.dst v)) : regOp P (Calls P) noRd ops isE m E C o k hist a K :=
 RegQ.regE he hw E' hE (fun W hW _ hN => effT_mono (fun _ _ ⟨h1, h2⟩ => ⟨⟨h1, fun _ _ _ _ => trivial⟩, h2⟩) (h1 W hW hN)) h2
theorem regN {isE : Bool} {m : Nat} {E : Eff M} {o : Oper} {k : Nat} {hist : List (Nat × (World -> Prop))} {a : Act} {K : List (Nat × (World -> Prop)) -> Act -> Prop} (hw : Region.wanted o (yielded ops a.tmps) = false) (h : K hist (a.put o.dst undef)) : regOp P (Calls P) noRd ops isE m E C o k hist a K := RegQ.regN hw h
end
theorem wp_region_regM {P : Program} {id : Nat} {Q : Exit -> Act -> World -> Prop} {a : Act} {w : World} {l : List Oper} (M : World -> World -> Prop) (hd : M w w.drew) (htr : ∀ A B C, M A B -> M B C -> M A C) (hm : P.follows .mixedOrders = true) (m : Nat) (anc : List Nat) (eff : Nat -> Bool) (hB : regChk .any l.toArray anc m = true) (EP : Nat -> Eff M)
  (h : ∀ C : World -> Prop, (∀ W, C W ↔ M w W) -> Nonempty { W // C W } -> Later (regM P (Calls P) noRd l.toArray eff (fun i => anc.getD i 0) EP C (fun r a W => wpList P l.toArray Q r a W) m l 0 [] a)) : (Code.region id l.toArray true).wp P Q a w :=
 RegQ.wp_region_regM M hd htr hm m anc eff hB EP (fun _ _ => True) (fun _ _ => trivial) fun C hC hne => ⟨(h C hC hne).out⟩
theorem wp_region_reg {P : Program} {id : Nat} {Q : Exit -> Act -> World -> Prop} {a : Act} {w : World} {l : List Oper} (d : Bool) (T : Nat -> Prop) (hm : P.follows .mixedOrders = true) (m : Nat) (anc : List Nat) (eff : Nat -> Bool) (hB : regChk .any l.toArray anc m = true) (EP : Nat -> Eff (Move d T))
  (h : ∀ C : World -> Prop, (∀ W, C W ↔ Move d T w W) -> Nonempty { W // C W } -> Later (regM P (Calls P) noRd l.toArray eff (fun i => anc.getD i 0) EP C (fun r a W => wpList P l.toArray Q r a W) m l 0 [] a)) : (Code.region id l.toArray true).wp P Q a w :=
 wp_region_regM (Move d T) (Move.ext (Ext.refl w).drew) (fun _ _ _ h k => h.trans k) hm m anc eff hB EP h
end Go.Proofs.YtbiboekhakbnpaaGreatDoor
