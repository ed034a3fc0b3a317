/-
  A law for regions that draw their order: one walk in the order of the text serves every order, where operations that only read ("floats") yield one value in every world of a class C, and the others ("effects": calls, allocations, stores) stand in a chain and keep the class. Conditions: the order of the effects is forced by edges (a Bool, by computation); no defer, no select.
-/
import Derived.WalkKit
import Derived.OrdersIn
import Derived.RangeFuncIn
namespace Go.Proofs.Ytokkgbcjjaiaeaa
open Go Go.RowKit

def effAt (F : Fence) (n : Nat) (P : Program) (C : World → Prop) (dst : Option Tmp) (a : Act) (K : Act → World → Prop) : Result Next → Prop
  | .ok (.value v) w' => C w' ∧ K (a.put dst v) w'
  | .ok .skip w' => C w' ∧ K (a.put dst undef) w'
  | .ok (.enter f args) w' => CallsIn F (n - 1) P f args w' (fun e w'' => ∃ v, e = .returned v ∧ C w'' ∧ K (a.put dst v) w'')
  | .ok (.round l f tmps asg body) w' => RoundIn F (n - 1) P l f tmps asg body w' (fun e w'' => ∃ v, e = .returned v ∧ C w'' ∧ K (a.put dst v) w'')
  | _ => False

def floatAt (P : Program) (o : Oper) (a : Act) (v : Value) (W : World) : Prop :=
  (execOp a.eval o).run P W = .ok (.value v) W ∨ ((execOp a.eval o).run P W = .ok .skip W ∧ v = undef)

def lexOp (F : Fence) (n : Nat) (P : Program) (C : World → Prop) (ops : Array Oper) (isE : Bool) (o : Oper) (K : Act → World → Prop) (a : Act) (w : World) : Prop :=
  if Region.wanted o (yielded ops a.tmps) then
    (if isE then effAt F n P C o.dst a K ((execOp a.eval o).run P w)
     else ∃ v, (∀ W : { W // C W }, floatAt P o a v W.1) ∧ K (a.put o.dst v) w)
  else K (a.put o.dst undef) w

def wpLex (F : Fence) (n : Nat) (P : Program) (C : World → Prop) (ops : Array Oper) (eff : Nat → Bool) (Q : Act → World → Prop) : List Oper → Nat → Act → World → Prop
  | [], _, a, w => Q a w
  | o :: rest, k, a, w => lexOp F n P C ops (eff k) o (wpLex F n P C ops eff Q rest (k + 1)) a w

section
variable {F : Fence} {n : Nat} {P : Program} {C : World → Prop} {ops : Array Oper} {eff : Nat → Bool} {md : Region.Mode}

theorem effAt_mono {dst : Option Tmp} {a : Act} {K K' : Act → World → Prop} (h : ∀ a w, C w → K a w → K' a w) {r : Result Next} (hh : effAt F n P C dst a K r) : effAt F n P C dst a K' r := by
  cases r with
  | halt x w => exact hh.elim
  | ok x w =>
    cases x <;> simp only [effAt] at hh ⊢ <;> first
      | exact ⟨hh.1, h _ _ hh.1 hh.2⟩
      | exact CallsIn.mono hh (fun e w' ⟨v, he, hC, hK⟩ => ⟨v, he, hC, h _ _ hC hK⟩)
      | exact RoundIn.mono hh (fun e w' ⟨v, he, hC, hK⟩ => ⟨v, he, hC, h _ _ hC hK⟩)

theorem lexOp_mono {isE : Bool} {o : Oper} {a : Act} {w : World} {K K' : Act → World → Prop} (h0 : ∀ a, K a w → K' a w) (h : ∀ a w, C w → K a w → K' a w) (hh : lexOp F n P C ops isE o K a w) : lexOp F n P C ops isE o K' a w := by
  unfold lexOp at *
  split
  · rename_i hw
    simp only [hw, if_true] at hh
    cases isE with
    | true => simp only [if_true] at hh ⊢; exact effAt_mono h hh
    | false => simp only [Bool.false_eq_true, if_false] at hh ⊢; obtain ⟨v, h1, h2⟩ := hh; exact ⟨v, h1, h0 _ h2⟩
  · rename_i hw
    simp only [hw] at hh
    exact h0 _ hh

/-- An effect comes to something. -/
theorem effAt_some (hd : F.depth = none) {dst : Option Tmp} {a : Act} {K : Act → World → Prop} {r : Result Next} (hh : effAt F n P C dst a K r) : ∃ u w', K (a.put dst u) w' := by
  cases r with
  | halt x w => exact hh.elim
  | ok x w =>
    cases x <;> simp only [effAt] at hh
    case value v => exact ⟨_, _, hh.2⟩
    case skip => exact ⟨_, _, hh.2⟩
    case enter f args =>
      obtain ⟨e, w', fr, ⟨v, _, _, hK⟩, _⟩ := hh.2 [] (fun d h => by rw [hd] at h; cases h)
      exact ⟨_, _, hK⟩
    case round l f tmps asg body =>
      obtain ⟨e, w', ⟨v, _, _, hK⟩, _⟩ := hh.2 default [] (fun d h => by rw [hd] at h; cases h)
      exact ⟨_, _, hK⟩

def xOp (F : Fence) (n : Nat) (P : Program) (C : World → Prop) (ops : Array Oper) (eff : Nat → Bool) (i : Nat) (K : Act → World → Prop) (a : Act) (w : World) : Prop :=
  match ops[i]? with
  | none => K a w
  | some o => lexOp F n P C ops (eff i) o K a w

theorem xOp_mono {i : Nat} {a : Act} {w : World} {K K' : Act → World → Prop} (h0 : ∀ a, K a w → K' a w) (h : ∀ a w, C w → K a w → K' a w) (hh : xOp F n P C ops eff i K a w) : xOp F n P C ops eff i K' a w := by
  unfold xOp at *
  split
  · rename_i ho; simp only [ho] at hh; exact h0 _ hh
  · rename_i o ho; simp only [ho] at hh; exact lexOp_mono h0 h hh

def anyX (F : Fence) (n : Nat) (P : Program) (C : World → Prop) (md : Region.Mode) (ops : Array Oper) (eff : Nat → Bool) (Q : Act → World → Prop) : Nat → Array Bool → Act → World → Prop
  | 0, listed, a, w => Region.ready md ops listed = [] ∧ Q a w
  | fuel + 1, listed, a, w =>
    (Region.ready md ops listed = [] → Q a w) ∧
    ∀ i ∈ Region.ready md ops listed, xOp F n P C ops eff i (anyX F n P C md ops eff Q fuel (listed.setIfInBounds i true)) a w

/-- No operation of the region is a defer. -/
def noDefer (ops : Array Oper) : Bool := ops.all fun o => match o.op with | .defer _ => false | _ => true

theorem noDefer_spec (h : noDefer ops = true) {j : Nat} {o : Oper} (ho : ops[j]? = some o) (c : Call) : o.op ≠ .defer c := by
  intro heq
  have := Array.all_eq_true_iff_forall_mem.1 h o (Array.mem_of_getElem? ho)
  simp [heq] at this

theorem wpAnyIn_of_anyX (hF : ∀ f, F.fn f) (hd : F.depth = none) (hnd : noDefer ops = true) {Q : Act → World → Prop} {Q' : Exit → Act → World → Prop} (hQ : ∀ a w, C w → Q a w → Q' .normal a w) :
    ∀ (fuel : Nat) (listed : Array Bool) (a : Act) (w : World), C w → anyX F n P C md ops eff Q fuel listed a w → wpAnyIn F n P md ops Q' fuel listed a w
  | 0, _, _, _, hC, h => ⟨h.1, hQ _ _ hC h.2⟩
  | fuel + 1, listed, a, w, hC, h => by
    refine ⟨fun h0 => hQ _ _ hC (h.1 h0), fun i hi => ?_⟩
    have hx := h.2 i hi
    have ih := fun a' w' hC' => wpAnyIn_of_anyX hF hd hnd hQ fuel (listed.setIfInBounds i true) a' w' hC'
    unfold xOp at hx
    unfold wpOpIn
    cases ho : ops[i]? with
    | none => simp only [ho] at hx; exact ih _ _ hC hx
    | some o =>
      simp only [ho] at hx ⊢
      have hsem : Oper.semAt F.round a.eval o = execOp a.eval o := Oper.semAt_eq _ _ _ (noDefer_spec hnd ho)
      unfold lexOp at hx
      split
      · rename_i hw
        simp only [hw, if_true] at hx
        refine ⟨fun f _ => hF f, ?_⟩
        rw [hsem]
        cases he : eff i with
        | false =>
          simp only [he, Bool.false_eq_true, if_false] at hx
          obtain ⟨v, h1, h2⟩ := hx
          rcases h1 ⟨w, hC⟩ with hr | ⟨hr, rfl⟩ <;> rw [hr] <;> exact ih _ _ hC h2
        | true =>
          simp only [he, if_true] at hx
          generalize (execOp a.eval o).run P w = r at hx
          cases r with
          | halt x w => exact hx.elim
          | ok x w =>
            cases x <;> simp only [effAt] at hx <;> simp only [Oper.uponIn]
            case value v => exact ih _ _ hx.1 hx.2
            case skip => exact ih _ _ hx.1 hx.2
            case enter f args => exact ⟨fun h => (by rw [hd] at h; cases h), CallsIn.mono hx (fun e w' ⟨v, he, hC', hK⟩ => by subst he; exact ih _ _ hC' hK)⟩
            case round l f tmps asg body => exact ⟨fun h => (by rw [hd] at h; cases h), RoundIn.mono hx (fun e w' ⟨v, he, hC', hK⟩ => by subst he; exact ih _ _ hC' hK)⟩
      · rename_i hw
        simp only [hw] at hx
        exact ⟨fun f _ => hF f, ih _ _ hC hx⟩

/-- In state a the float o leaves v. -/
def YieldsX (P : Program) (ops : Array Oper) (C : World → Prop) (o : Oper) (v : Value) (a : Act) : Prop :=
  (Region.wanted o (yielded ops a.tmps) = true ∧ ∀ W, C W → floatAt P o a v W) ∨ (Region.wanted o (yielded ops a.tmps) = false ∧ v = undef)

theorem floatAt_put {o : Oper} (hs : ∀ cs b, o.op ≠ .select cs b) {a : Act} {dst : Option Tmp} {u v : Value} {W : World} (h : ∀ d, dst = some d → d ∉ o.looksAt ops) : floatAt P o (a.put dst u) v W ↔ floatAt P o a v W := by
  unfold floatAt
  rw [execOp_put o hs a dst u h]

theorem YieldsX.put {o : Oper} {v : Value} {a : Act} (hs : ∀ cs b, o.op ≠ .select cs b) {dst : Option Tmp} {u : Value} (h : ∀ d, dst = some d → d ∉ o.looksAt ops) : YieldsX P ops C o v (a.put dst u) ↔ YieldsX P ops C o v a := by
  unfold YieldsX
  rw [wanted_put o a dst u h]
  constructor
  · rintro (⟨h1, h2⟩ | h1)
    · exact .inl ⟨h1, fun W hW => (floatAt_put hs h).1 (h2 W hW)⟩
    · exact .inr h1
  · rintro (⟨h1, h2⟩ | h1)
    · exact .inl ⟨h1, fun W hW => (floatAt_put hs h).2 (h2 W hW)⟩
    · exact .inr h1

theorem YieldsX.lexOp {o : Oper} {v : Value} {a : Act} {w : World} {K : Act → World → Prop} (hy : YieldsX P ops C o v a) (h : K (a.put o.dst v) w) : lexOp F n P C ops false o K a w := by
  unfold Proofs.Ytokkgbcjjaiaeaa.lexOp
  rcases hy with ⟨hw, hv⟩ | ⟨hw, rfl⟩
  · simp only [hw, if_true, Bool.false_eq_true, if_false]; exact ⟨v, fun W => hv W.1 W.2, h⟩
  · simp only [hw, Bool.false_eq_true, if_false]; exact h

theorem yieldsX_of_lexOp {o : Oper} {a : Act} {w : World} {K : Act → World → Prop} (h : lexOp F n P C ops false o K a w) : ∃ v, YieldsX P ops C o v a ∧ K (a.put o.dst v) w := by
  unfold Proofs.Ytokkgbcjjaiaeaa.lexOp at h
  by_cases hw : Region.wanted o (yielded ops a.tmps) = true
  · simp only [hw, if_true, Bool.false_eq_true, if_false] at h
    obtain ⟨v, h1, h2⟩ := h
    exact ⟨v, .inl ⟨hw, fun W hW => h1 ⟨W, hW⟩⟩, h2⟩
  · simp only [hw] at h
    exact ⟨undef, .inr ⟨by simpa using hw, rfl⟩, h⟩

theorem effAt_put {dx dj : Option Tmp} {v : Value} {a : Act} (hne : ∀ d, dx = some d → dj ≠ some d) {K : Act → World → Prop} {r : Result Next} (h : effAt F n P C dj (a.put dx v) K r) :
    effAt F n P C dj a (fun a' w' => (∃ u, a' = a.put dj u) ∧ K (a'.put dx v) w') r := by
  cases r with
  | halt x w => exact h.elim
  | ok x w =>
    cases x <;> simp only [effAt] at h ⊢
    case value u => exact ⟨h.1, ⟨u, rfl⟩, by rw [← Act.put_comm a v u hne]; exact h.2⟩
    case skip => exact ⟨h.1, ⟨_, rfl⟩, by rw [← Act.put_comm a v undef hne]; exact h.2⟩
    case enter f args => exact CallsIn.mono h (fun e w' ⟨u, he, hC, hK⟩ => ⟨u, he, hC, ⟨u, rfl⟩, by rw [← Act.put_comm a v u hne]; exact hK⟩)
    case round l f tmps asg body => exact RoundIn.mono h (fun e w' ⟨u, he, hC, hK⟩ => ⟨u, he, hC, ⟨u, rfl⟩, by rw [← Act.put_comm a v u hne]; exact hK⟩)

/-- A float's value in its temporary makes no difference to an operation apart from it, and none is made to it. -/
theorem lexOp_put {isE : Bool} {oi oj : Oper} {v : Value} (hap : oi.apart ops oj = true) (hsi : ∀ cs b, oi.op ≠ .select cs b) (hsj : ∀ cs b, oj.op ≠ .select cs b) {K : Act → World → Prop} {a : Act} {w : World}
    (hy : YieldsX P ops C oi v a) (h : lexOp F n P C ops isE oj K (a.put oi.dst v) w) :
    lexOp F n P C ops isE oj (fun a' w' => YieldsX P ops C oi v a' ∧ K (a'.put oi.dst v) w') a w := by
  obtain ⟨h1, h2, h3⟩ := Oper.apart_spec hap
  have keep : ∀ u, YieldsX P ops C oi v (a.put oj.dst u) := fun u => (YieldsX.put hsi h3).2 hy
  unfold Proofs.Ytokkgbcjjaiaeaa.lexOp at *
  rw [wanted_put oj a oi.dst v h1, execOp_put oj hsj a oi.dst v h1] at h
  split
  · rename_i hw
    simp only [hw, if_true] at h
    cases isE with
    | true =>
      simp only [if_true] at h ⊢
      exact effAt_mono (fun a' w' _ ⟨⟨u, hu⟩, hK⟩ => ⟨by rw [hu]; exact keep u, hK⟩) (effAt_put h2 h)
    | false =>
      simp only [Bool.false_eq_true, if_false] at h ⊢
      obtain ⟨u, hu, hK⟩ := h
      exact ⟨u, fun W => (floatAt_put hsj h1).1 (hu W), keep u, by rw [← Act.put_comm a v u h2]; exact hK⟩
  · rename_i hw
    simp only [hw] at h
    exact ⟨keep _, by rw [← Act.put_comm a v undef h2]; exact h⟩

theorem ready_not_waits {i j : Nat} {listed : Array Bool} (hr : i ∈ Region.ready md ops listed) (hj : j ∈ Region.ready md ops listed) {oj : Oper} (hoj : ops[j]? = some oj) : ∀ e ∈ oj.after, Region.binds md e = true → e.on ≠ i := fun e he hb heq => by
  obtain ⟨_, oj', hoj', hall⟩ := mem_ready.1 hj
  rw [hoj] at hoj'
  cases hoj'
  have h1 := hall e he hb
  have h0 := (mem_ready.1 hr).1
  rw [heq] at h1
  rcases Nat.lt_or_ge i listed.size with h' | h'
  · simp [h'] at h0 h1; rw [h0] at h1; cases h1
  · simp [Array.getElem?_eq_none h'] at h1

/-- A float that may come up now may be taken first. -/
theorem anyX_float {Q : Act → World → Prop} {i : Nat} {oi : Oper} {v : Value} (hi : ops[i]? = some oi) (hei : eff i = false) (hsel : ∀ (j : Nat) (o : Oper) cs b, ops[j]? = some o → o.op ≠ .select cs b) :
    ∀ (fuel : Nat) (listed : Array Bool) (a : Act) (w : World),
      (∀ j oj, ops[j]? = some oj → j ≠ i → listed.getD j true = false → (∀ e ∈ oj.after, Region.binds md e = true → e.on ≠ i) → oi.apart ops oj = true) →
      i ∈ Region.ready md ops listed → YieldsX P ops C oi v a →
      anyX F n P C md ops eff Q fuel (listed.setIfInBounds i true) (a.put oi.dst v) w → anyX F n P C md ops eff Q (fuel + 1) listed a w := by
  intro fuel
  induction fuel with
  | zero =>
    intro listed a w _ hr hy H
    refine ⟨fun h => (by rw [h] at hr; cases hr), fun j hj => ?_⟩
    by_cases hji : j = i
    · subst hji; unfold xOp; simp only [hi, hei]; exact hy.lexOp H
    · have := ready_mono hj hji
      rw [H.1] at this
      cases this
  | succ fuel ih =>
    intro listed a w hfree hr hy H
    refine ⟨fun h => (by rw [h] at hr; cases hr), fun j hj => ?_⟩
    by_cases hji : j = i
    · subst hji; unfold xOp; simp only [hi, hei]; exact hy.lexOp H
    · have h1 := H.2 j (ready_mono hj hji)
      obtain ⟨hjun, oj, hoj, hall⟩ := mem_ready.1 hj
      have hnot := ready_not_waits hr hj hoj
      have hfree' : ∀ k ok, ops[k]? = some ok → k ≠ i → (listed.setIfInBounds j true).getD k true = false →
          (∀ e ∈ ok.after, Region.binds md e = true → e.on ≠ i) → oi.apart ops ok = true := fun k ok hk hki hun hno => by
        refine hfree k ok hk hki ?_ hno
        by_cases hjk : j = k
        · subst hjk; exact hjun
        · rw [getD_set_ne true hjk] at hun; exact hun
      unfold xOp at h1 ⊢
      simp only [hoj] at h1 ⊢
      have h2 := lexOp_put (hfree j oj hoj hji hjun hnot) (fun cs b => hsel i oi cs b hi) (fun cs b => hsel j oj cs b hoj) hy h1
      have step : ∀ a' w', (YieldsX P ops C oi v a' ∧ anyX F n P C md ops eff Q fuel ((listed.setIfInBounds i true).setIfInBounds j true) (a'.put oi.dst v) w') → anyX F n P C md ops eff Q (fuel + 1) (listed.setIfInBounds j true) a' w' := fun a' w' h3 => by
        refine ih (listed.setIfInBounds j true) a' w' hfree' (ready_mono hr (Ne.symm hji)) h3.1 ?_
        rw [Array.setIfInBounds_comm _ _ hji]
        exact h3.2
      exact lexOp_mono (fun a' h3 => step a' _ h3) (fun a' w' _ h3 => step a' w' h3) h2

/-- An effect that may come up now may be taken first, where each other effect that is still to come waits for one that is still to come. -/
theorem anyX_effect (hd : F.depth = none) {Q : Act → World → Prop} {i : Nat} {oi : Oper} (hi : ops[i]? = some oi) (hei : eff i = true) (hsel : ∀ (j : Nat) (o : Oper) cs b, ops[j]? = some o → o.op ≠ .select cs b) :
    ∀ (fuel : Nat) (listed : Array Bool) (a : Act) (w : World), C w →
      (∀ j oj, ops[j]? = some oj → j ≠ i → listed.getD j true = false → (∀ e ∈ oj.after, Region.binds md e = true → e.on ≠ i) → oi.apart ops oj = true) →
      (∀ j oj, ops[j]? = some oj → j ≠ i → eff j = true → listed.getD j true = false → ∃ e ∈ oj.after, Region.binds md e = true ∧ eff e.on = true ∧ listed.getD e.on false = false) →
      i ∈ Region.ready md ops listed → xOp F n P C ops eff i (anyX F n P C md ops eff Q fuel (listed.setIfInBounds i true)) a w →
      anyX F n P C md ops eff Q (fuel + 1) listed a w := by
  intro fuel
  induction fuel with
  | zero =>
    intro listed a w hC hfree heffs hr H
    refine ⟨fun h => (by rw [h] at hr; cases hr), fun j hj => ?_⟩
    by_cases hji : j = i
    · subst hji; exact H
    · exfalso
      have hne := ready_mono hj hji
      unfold xOp at H
      simp only [hi] at H
      unfold Proofs.Ytokkgbcjjaiaeaa.lexOp at H
      by_cases hw : Region.wanted oi (yielded ops a.tmps) = true
      · simp only [hw, if_true, hei] at H
        obtain ⟨u, w', hK⟩ := effAt_some hd H
        rw [hK.1] at hne; cases hne
      · rw [if_neg hw] at H; rw [H.1] at hne; cases hne
  | succ fuel ih =>
    intro listed a w hC hfree heffs hr H
    refine ⟨fun h => (by rw [h] at hr; cases hr), fun j hj => ?_⟩
    by_cases hji : j = i
    · subst hji; exact H
    · obtain ⟨hjun, oj, hoj, hall⟩ := mem_ready.1 hj
      have hnot := ready_not_waits hr hj hoj
      have hej : eff j = false := by
        cases h : eff j with
        | false => rfl
        | true =>
          obtain ⟨e, he, hb, _, hl⟩ := heffs j oj hoj hji h hjun
          rw [hall e he hb] at hl; cases hl
      have hap := hfree j oj hoj hji hjun hnot
      obtain ⟨h1, h2, h3⟩ := Oper.apart_spec hap
      have hsi := fun cs b => hsel i oi cs b hi
      have hsj := fun cs b => hsel j oj cs b hoj
      have h2' : ∀ d, oj.dst = some d → oi.dst ≠ some d := fun d hd he => h2 d he hd
      -- what the float yields, and what is left behind both
      have key : ∃ v, YieldsX P ops C oj v a ∧ xOp F n P C ops eff i (anyX F n P C md ops eff Q fuel ((listed.setIfInBounds j true).setIfInBounds i true)) (a.put oj.dst v) w := by
        unfold xOp at H ⊢
        simp only [hi] at H ⊢
        unfold Proofs.Ytokkgbcjjaiaeaa.lexOp at H ⊢
        by_cases hw : Region.wanted oi (yielded ops a.tmps) = true
        · simp only [hw, if_true, hei] at H
          have inner : ∀ u w', anyX F n P C md ops eff Q (fuel + 1) (listed.setIfInBounds i true) (a.put oi.dst u) w' → ∃ v, YieldsX P ops C oj v a ∧ anyX F n P C md ops eff Q fuel ((listed.setIfInBounds j true).setIfInBounds i true) ((a.put oj.dst v).put oi.dst u) w' := fun u w' h => by
            have hx := h.2 j (ready_mono hj hji)
            unfold xOp at hx
            simp only [hoj, hej] at hx
            obtain ⟨v, hy, hK⟩ := yieldsX_of_lexOp hx
            refine ⟨v, (YieldsX.put hsj h1).1 hy, ?_⟩
            rw [Array.setIfInBounds_comm _ _ hji, Act.put_comm a v u h2']
            exact hK
          obtain ⟨u0, w0, h0⟩ := effAt_some hd H
          obtain ⟨v, hy, _⟩ := inner u0 w0 h0
          refine ⟨v, hy, ?_⟩
          rw [wanted_put oi a oj.dst v h3, execOp_put oi hsi a oj.dst v h3]
          simp only [hw, if_true, hei]
          have uniq : ∀ v', YieldsX P ops C oj v' a → v' = v := fun v' hy' => by
            rcases hy with ⟨g1, g2⟩ | ⟨g1, g2⟩ <;> rcases hy' with ⟨k1, k2⟩ | ⟨k1, k2⟩
            · have a1 := g2 w hC
              have a2 := k2 w hC
              unfold floatAt at a1 a2
              rcases a1 with a1 | ⟨a1, b1⟩ <;> rcases a2 with a2 | ⟨a2, b2⟩ <;> rw [a1] at a2 <;> cases a2 <;> simp_all
            · rw [g1] at k1; cases k1
            · rw [g1] at k1; cases k1
            · rw [g2, k2]
          generalize (execOp a.eval oi).run P w = r at H ⊢
          cases r with
          | halt x w => exact H.elim
          | ok x w =>
            cases x <;> simp only [effAt] at H ⊢
            case value u =>
              obtain ⟨v', hy', hK⟩ := inner _ _ H.2
              rw [uniq v' hy'] at hK
              exact ⟨H.1, hK⟩
            case skip =>
              obtain ⟨v', hy', hK⟩ := inner _ _ H.2
              rw [uniq v' hy'] at hK
              exact ⟨H.1, hK⟩
            case enter f args =>
              exact CallsIn.mono H (fun e w' ⟨u, he, hC', h⟩ => by
                obtain ⟨v', hy', hK⟩ := inner _ _ h
                rw [uniq v' hy'] at hK
                exact ⟨u, he, hC', hK⟩)
            case round l f tmps asg body =>
              exact RoundIn.mono H (fun e w' ⟨u, he, hC', h⟩ => by
                obtain ⟨v', hy', hK⟩ := inner _ _ h
                rw [uniq v' hy'] at hK
                exact ⟨u, he, hC', hK⟩)
        · simp only [hw] at H
          have hx := H.2 j (ready_mono hj hji)
          unfold xOp at hx
          simp only [hoj, hej] at hx
          obtain ⟨v, hy, hK⟩ := yieldsX_of_lexOp hx
          refine ⟨v, (YieldsX.put hsj h1).1 hy, ?_⟩
          rw [wanted_put oi a oj.dst v h3]
          simp only [hw]
          rw [Array.setIfInBounds_comm _ _ hji]
          have := Act.put_comm a v undef h2'
          simpa [this] using hK
      obtain ⟨v, hy, hK⟩ := key
      unfold xOp
      simp only [hoj, hej]
      refine hy.lexOp (ih (listed.setIfInBounds j true) _ w hC ?_ ?_ (ready_mono hr (Ne.symm hji)) hK)
      · intro k ok hk hki hun hno
        refine hfree k ok hk hki ?_ hno
        by_cases hjk : j = k
        · subst hjk; exact hjun
        · rw [getD_set_ne true hjk] at hun; exact hun
      · intro k ok hk hki hek hun
        have hjk : j ≠ k := fun h => by subst h; rw [hej] at hek; cases hek
        rw [getD_set_ne true hjk] at hun
        obtain ⟨e, he, hb, hee, hl⟩ := heffs k ok hk hki hek hun
        have hje : j ≠ e.on := fun h => by rw [← h] at hee; rw [hej] at hee; cases hee
        exact ⟨e, he, hb, hee, by rw [getD_set_ne false hje]; exact hl⟩

/-- Each other effect that is still to come waits for one that is still to come. -/
def effsWait (md : Region.Mode) (ops : Array Oper) (eff : Nat → Bool) (listed : Array Bool) (i : Nat) : Bool :=
  (List.range ops.size).all fun j => j == i || !eff j || listed.getD j true || match ops[j]? with
    | some oj => oj.after.any (fun e => Region.binds md e && eff e.on && !listed.getD e.on false)
    | none => true

theorem effsWait_spec {i : Nat} {listed : Array Bool} (h : effsWait md ops eff listed i = true) (j : Nat) (oj : Oper) (hj : ops[j]? = some oj) (hne : j ≠ i) (hej : eff j = true) (hun : listed.getD j true = false) :
    ∃ e ∈ oj.after, Region.binds md e = true ∧ eff e.on = true ∧ listed.getD e.on false = false := by
  simp only [effsWait, List.all_eq_true, List.mem_range] at h
  have h1 := h j (Array.getElem?_eq_some_iff.1 hj).1
  simp only [hj, Bool.or_eq_true, beq_iff_eq, hne, false_or, hun, Bool.false_eq_true, hej, Bool.not_true] at h1
  obtain ⟨e, he, hb⟩ := Array.any_eq_true'.1 h1
  simp only [Bool.and_eq_true, Bool.not_eq_true'] at hb
  exact ⟨e, he, hb.1.1, hb.1.2, hb.2⟩

def lexXFrom (md : Region.Mode) (ops : Array Oper) (eff : Nat → Bool) : Nat → Nat → Array Bool → Bool
  | 0, _, listed => (Region.ready md ops listed).isEmpty
  | fuel + 1, k, listed => (Region.ready md ops listed).contains k && Region.free md ops listed k && (!eff k || effsWait md ops eff listed k) && lexXFrom md ops eff fuel (k + 1) (listed.setIfInBounds k true)

def lexX (md : Region.Mode) (ops : Array Oper) (eff : Nat → Bool) : Bool := Region.noSelect ops && noDefer ops && lexXFrom md ops eff ops.size 0 (Array.replicate ops.size false)

theorem anyX_lex (hd : F.depth = none) {Q : Act → World → Prop} (hs : Region.noSelect ops = true) : ∀ (l : List Oper) (k : Nat) (listed : Array Bool) (a : Act) (w : World), C w → (∀ j, l[j]? = ops[k + j]?) →
    lexXFrom md ops eff l.length k listed = true → wpLex F n P C ops eff Q l k a w → anyX F n P C md ops eff Q l.length listed a w
  | [], _, _, _, _, _, _, hB, h => ⟨by simpa [lexXFrom] using hB, h⟩
  | o :: l, k, listed, a, w, hC, hl, hB, h => by
    have h0 : ops[k]? = some o := by simpa using (hl 0).symm
    simp only [List.length_cons, lexXFrom, Bool.and_eq_true, Bool.or_eq_true, Bool.not_eq_true'] at hB
    obtain ⟨⟨⟨hr, hf⟩, he⟩, hB'⟩ := hB
    have hr' : k ∈ Region.ready md ops listed := by simpa using hr
    have ih : ∀ a' w', C w' → wpLex F n P C ops eff Q l (k + 1) a' w' → anyX F n P C md ops eff Q l.length (listed.setIfInBounds k true) a' w' := fun a' w' hC' h' =>
      anyX_lex hd hs l (k + 1) _ a' w' hC' (fun j => by have := hl (j + 1); simpa [Nat.add_assoc, Nat.add_comm 1 j] using this) hB' h'
    unfold wpLex at h
    cases hek : eff k with
    | false =>
      rw [hek] at h
      obtain ⟨v, hy, hK⟩ := yieldsX_of_lexOp h
      exact anyX_float h0 hek (Region.noSelect_spec hs) l.length listed a w (Region.free_spec h0 hf) hr' hy (ih _ _ hC hK)
    | true =>
      have he' : effsWait md ops eff listed k = true := he.resolve_left (by rw [hek]; decide)
      refine anyX_effect hd h0 hek (Region.noSelect_spec hs) l.length listed a w hC (Region.free_spec h0 hf) (effsWait_spec he') hr' ?_
      unfold xOp
      simp only [h0]
      exact lexOp_mono (fun a' h' => ih a' w hC h') (fun a' w' hC' h' => ih a' w' hC' h') h

/-- ONE WALK IN THE ORDER OF THE TEXT SERVES EVERY ORDER. -/
theorem wpIn_region_lex (hF : ∀ f, F.fn f) (hd : F.depth = none) {id : Nat} {Q : Exit → Act → World → Prop} {a : Act} {w : World} {l : List Oper} (hm : P.follows .mixedOrders = true) (eff : Nat → Bool) (hB : lexX .any l.toArray eff = true) (C : World → Prop) (hC : C w.drew)
    (h : wpLex F n P C l.toArray eff (fun a' w' => Q .normal a' w') l 0 a w.drew) : (Code.region id l.toArray true).wpIn F n P Q a w := by
  simp only [lexX, Bool.and_eq_true] at hB
  refine wpIn_region_any hm (wpAnyIn_of_anyX (eff := eff) hF hd hB.1.2 (Q := fun a' w' => Q .normal a' w') (fun _ _ _ h => h) _ _ _ _ hC ?_)
  have := anyX_lex (md := .any) (F := F) (n := n) (P := P) hd hB.1.1 l 0 (Array.replicate l.length false) a w.drew hC (by simp) (by simpa using hB.2) h
  simpa using this

/-- One operation at a time, what follows behind a variable. -/
theorem wpLex_step {eff : Nat → Bool} {Q : Act → World → Prop} {o : Oper} {rest : List Oper} {k : Nat} {a : Act} {w : World}
    (h : ∀ K : Act → World → Prop, (∀ a w, wpLex F n P C ops eff Q rest (k + 1) a w → K a w) → lexOp F n P C ops (eff k) o K a w) : wpLex F n P C ops eff Q (o :: rest) k a w := h _ (fun _ _ h => h)
theorem wpLex_nil {eff : Nat → Bool} {Q : Act → World → Prop} {k : Nat} {a : Act} {w : World} (h : Q a w) : wpLex F n P C ops eff Q [] k a w := h
theorem lexOp_float {o : Oper} {K : Act → World → Prop} {a : Act} {w : World} (hw : Region.wanted o (yielded ops a.tmps) = true) (h : ∃ v, (∀ W : { W // C W }, floatAt P o a v W.1) ∧ K (a.put o.dst v) w) : lexOp F n P C ops false o K a w := by
  unfold lexOp
  simp only [hw, if_true, Bool.false_eq_true, if_false]
  exact h
theorem lexOp_eff {o : Oper} {K : Act → World → Prop} {a : Act} {w : World} (hw : Region.wanted o (yielded ops a.tmps) = true) (h : effAt F n P C o.dst a K ((execOp a.eval o).run P w)) : lexOp F n P C ops true o K a w := by
  unfold lexOp
  simp only [hw, if_true]
  exact h
theorem lexOp_not {o : Oper} {isE : Bool} {K : Act → World → Prop} {a : Act} {w : World} (hw : Region.wanted o (yielded ops a.tmps) = false) (h : K (a.put o.dst undef) w) : lexOp F n P C ops isE o K a w := by
  unfold lexOp
  simp only [hw, Bool.false_eq_true, if_false]
  exact h

theorem effAt_call {dst : Option Tmp} {a : Act} {K : Act → World → Prop} {f : FuncId} {args : Array Value} {w : World} (h : Calls P f args w fun e w'' => ∃ v, e = .returned v ∧ C w'' ∧ K (a.put dst v) w'') : effAt Fence.wide 0 P C dst a K (.ok (.enter f args) w) := callsIn_wide.2 h
theorem effAt_callR {l : Nat} {dst : Option Tmp} {a : Act} {K : Act → World → Prop} {f : FuncId} {args : Array Value} {w : World} (h : Calls P f args w fun e w'' => ∃ v, e = .returned v ∧ C w'' ∧ K (a.put dst v) w'') : effAt (Fence.wide.inRound l) 0 P C dst a K (.ok (.enter f args) w) := (callsIn_wide (n := 0)).2 h

/-- .. outside a fence. -/
theorem wp_region_lex {id : Nat} {Q : Exit → Act → World → Prop} {a : Act} {w : World} {l : List Oper} (hm : P.follows .mixedOrders = true) (eff : Nat → Bool) (hB : lexX .any l.toArray eff = true) (C : World → Prop) (hC : C w.drew)
    (h : wpLex Fence.wide 0 P C l.toArray eff (fun a' w' => Q .normal a' w') l 0 a w.drew) : (Code.region id l.toArray true).wp P Q a w :=
  wpIn_wide.1 (wpIn_region_lex (n := 0) (fun _ => trivial) rfl hm eff hB C hC h)
end
end Go.Proofs.Ytokkgbcjjaiaeaa
