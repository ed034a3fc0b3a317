/-
  Walks of package alphabet: what reads an alphabet (none, Len, Class, is, Set, Least, Table).
-/
import Derived.Test.YtokkgbcjjaiaeaaAlph0
import Derived.Laws.Rows
namespace Go.Proofs.Ytokkgbcjjaiaeaa
open Go Go.RowKit Go.Shelf Go.Maps
attribute [local go_sem] encS

theorem IsAl.form {w : World} {base : Nat} {v : Value} {p : List BS} (h : IsAl w base v p) : (v = .pointer none ∧ p = []) ∨ ∃ b sa cap, v = .pointer (some ⟨b, 0, none⟩) ∧ w.cell? ⟨b, 256, none⟩ = some (.slice sa p.length cap) ∧
    (∀ c k : Nat, (tabOf p)[c]? = some k → w.cell? ⟨b, c, none⟩ = some (.int .u8 k)) ∧ base ≤ b ∧ b < w.heap.size ∧
    ∀ i s, p[i]? = some s → ∃ g, sa = some ⟨g, 0, none⟩ ∧ base ≤ g ∧ g < w.heap.size ∧ ∀ j, j < 4 → w.cell? ⟨g, i * 4 + j, none⟩ = (encS s)[j]? := by
  rcases h with h | ⟨b, sl, h1, h2, h3, h4, h5⟩
  · exact .inl h
  · obtain ⟨sa, cap, rfl⟩ := ownsRow_form h4
    refine .inr ⟨b, sa, cap, h1, ?_, fun c k hk => ?_, h2, h3.lt, fun i s hi => ?_⟩
    · have hn : (Value.slice sa p.length cap) = .slice sa p.length cap := rfl
      have := h3.cell 256
      rw [alCells_list (tabOf_length p)] at this
      exact this
    · rw [h3.cell c, alCells_tab hk]
    · obtain ⟨g, cap', h6, h7, h8, h9⟩ := ownsRow_elem h4 rfl hi
      cases h6
      exact ⟨g, rfl, h7, h8, h9⟩

set_option maxRecDepth 100000 in
theorem none_any (v : Value) (base : Nat) (p : List BS) (w : World) (h : IsAl w base v p) :
    Calls Try.prog 68 #[v] w fun e w' => e = .returned (.bool p.isEmpty) ∧ w' = w := by
  rcases h.form with ⟨rfl, rfl⟩ | ⟨b, sa, cap, rfl, c0, _⟩
  · clear h
    go_enter Try.func68, Try.ntmps68
    go_wp2
    go_ret
    exact ⟨rfl, rfl⟩
  · clear h
    cases p with
    | nil =>
      go_enter Try.func68, Try.ntmps68
      go_wp2
      go_ret
      exact ⟨rfl, rfl⟩
    | cons s p =>
      go_enter Try.func68, Try.ntmps68
      go_wp2
      go_ret
      exact ⟨rfl, rfl⟩

theorem none_nil (w : World) : Calls Try.prog 68 #[.pointer none] w fun e w' => e = .returned (.bool true) ∧ w' = w := none_any _ 0 [] w (.inl ⟨rfl, rfl⟩)

set_option maxRecDepth 100000 in
theorem len_any (v : Value) (base : Nat) (p : List BS) (w : World) (h : IsAl w base v p) :
    Calls Try.prog 28 #[v] w fun e w' => e = .returned (.int .i64 p.length) ∧ w' = w := by
  have hn := none_any v base p w h
  rcases h.form with ⟨rfl, rfl⟩ | ⟨b, sa, cap, rfl, c0, _⟩
  · have HN := Lib.hid hn
    clear h hn
    go_enter Try.func28, Try.ntmps28
    go_wp2_with (go_at_call 68; refine HN.out.mono ?_; rintro e w1 ⟨rfl, rfl⟩)
    go_ret
    exact ⟨rfl, rfl⟩
  · cases p with
    | nil =>
      have HN := Lib.hid hn
      clear h hn
      go_enter Try.func28, Try.ntmps28
      go_wp2_with (go_at_call 68; refine HN.out.mono ?_; rintro e w1 ⟨rfl, rfl⟩)
      go_ret
      exact ⟨rfl, rfl⟩
    | cons s p =>
      have HN := Lib.hid hn
      clear h hn
      go_enter Try.func28, Try.ntmps28
      go_wp2_with (go_at_call 68; refine HN.out.mono ?_; rintro e w1 ⟨rfl, rfl⟩)
      go_ret
      exact ⟨rfl, rfl⟩

/-- The class that the table tells of a byte. -/
def cls (p : List BS) (c : Nat) : Nat := (tabOf p)[c]?.getD 0
theorem cls_get (p : List BS) {c : Nat} (hc : c < 256) : (tabOf p)[c]? = some (cls p c) := by
  unfold cls
  rw [List.getElem?_eq_getElem (by rw [tabOf_length]; exact hc)]; rfl
theorem cls_nil (c : Nat) : cls [] c = 0 := by
  unfold cls tabOf
  rw [pairsOf_nil, tabFold_nil, List.getElem?_replicate]; split <;> rfl
theorem cls_lt (p : List BS) (c : Nat) (hp : p.length ≤ 256) : cls p c < 256 := by
  by_cases hc : c < 256
  · obtain ⟨k, h1, h2, _⟩ := tabOf_lt p c hc hp
    unfold cls; rw [h1]; exact h2
  · unfold cls; rw [List.getElem?_eq_none (by rw [tabOf_length]; omega)]; decide

set_option maxRecDepth 100000 in
theorem class_any (v : Value) (base : Nat) (p : List BS) (c : Nat) (hc : c < 256) (w : World) (h : IsAl w base v p) :
    Calls Try.prog 21 #[v, .int .u8 c] w fun e w' => e = .returned (.int .i64 (cls p c)) ∧ w' = w := by
  have hn := none_any v base p w h
  have hlt := cls_lt p c h.le
  rcases h.form with ⟨rfl, rfl⟩ | ⟨b, sa, cap, rfl, c0, ht, _⟩
  · have HN := Lib.hid hn
    clear h hn hlt
    go_enter Try.func21, Try.ntmps21
    go_wp2_with (go_at_call 68; refine HN.out.mono ?_; rintro e w1 ⟨rfl, rfl⟩)
    go_ret
    exact ⟨by rw [cls_nil]; rfl, rfl⟩
  · have c1 := ht c _ (cls_get p hc)
    cases p with
    | nil =>
      have HN := Lib.hid hn
      clear h hn ht
      go_enter Try.func21, Try.ntmps21
      go_wp2_with (go_at_call 68; refine HN.out.mono ?_; rintro e w1 ⟨rfl, rfl⟩)
      go_ret
      exact ⟨by rw [cls_nil]; rfl, rfl⟩
    | cons s p =>
      have HN := Lib.hid hn
      clear h hn ht
      generalize cls (s :: p) c = z at c1 hlt ⊢
      go_enter Try.func21, Try.ntmps21
      go_wp2_with (go_at_call 68; refine HN.out.mono ?_; rintro e w1 ⟨rfl, rfl⟩)
      go_ret
      exact ⟨rfl, rfl⟩

theorem IsAl.some {w : World} {base : Nat} {v : Value} {s : BS} {p : List BS} (h : IsAl w base v (s :: p)) : ∃ b sa cap, v = .pointer (some ⟨b, 0, none⟩) ∧ w.cell? ⟨b, 256, none⟩ = some (.slice sa (s :: p).length cap) ∧
    (∀ c k : Nat, (tabOf (s :: p))[c]? = some k → w.cell? ⟨b, c, none⟩ = some (.int .u8 k)) ∧ base ≤ b ∧ b < w.heap.size ∧
    ∀ i s', (s :: p)[i]? = some s' → ∃ g, sa = some ⟨g, 0, none⟩ ∧ base ≤ g ∧ g < w.heap.size ∧ ∀ j, j < 4 → w.cell? ⟨g, i * 4 + j, none⟩ = (encS s')[j]? := by
  rcases h.form with ⟨_, h⟩ | h
  · cases h
  · exact h

/-- The class with a number. -/
def setOf (p : List BS) (k : Int) : Option BS := if 0 ≤ k then p[k.toNat]? else none
theorem setOf_nil (k : Int) : setOf [] k = none := by unfold setOf; split <;> simp
theorem setOf_neg (p : List BS) {k : Int} (h : k < 0) : setOf p k = none := by unfold setOf; rw [if_neg (by omega)]
theorem setOf_over (p : List BS) {k : Int} (h : (p.length : Int) ≤ k) : setOf p k = none := by unfold setOf; rw [if_pos (by omega), List.getElem?_eq_none (by omega)]
theorem setOf_nat (p : List BS) (k : Nat) : setOf p k = p[k]? := by unfold setOf; rw [if_pos (by omega), Int.toNat_natCast]
theorem setOf_ex (p : List BS) (k : Int) : (setOf p k = none ∧ (k < 0 ∨ (p.length : Int) ≤ k)) ∨ ∃ (n : Nat) (s : BS), k = n ∧ n < p.length ∧ p[n]? = some s ∧ setOf p k = some s := by
  by_cases h1 : k < 0
  · exact .inl ⟨setOf_neg p h1, .inl h1⟩
  · by_cases h2 : (p.length : Int) ≤ k
    · exact .inl ⟨setOf_over p h2, .inr h2⟩
    · obtain ⟨n, rfl⟩ : ∃ n : Nat, k = n := ⟨k.toNat, by omega⟩
      have h3 : n < p.length := by omega
      exact .inr ⟨n, p[n], rfl, h3, List.getElem?_eq_getElem h3, by rw [setOf_nat]; exact List.getElem?_eq_getElem h3⟩

set_option maxRecDepth 100000 in
theorem is_any (v : Value) (base : Nat) (p : List BS) (k : Int) (w : World) (h : IsAl w base v p) :
    Calls Try.prog 69 #[v, .int .i64 k] w fun e w' => e = .returned (.bool (setOf p k).isSome) ∧ w' = w := by
  have hn := none_any v base p w h
  cases p with
  | nil =>
    have HN := Lib.hid hn
    clear h hn
    go_enter Try.func69, Try.ntmps69
    go_wp2_with (go_at_call 68; refine HN.out.mono ?_; rintro e w1 ⟨rfl, rfl⟩)
    go_ret
    exact ⟨by rw [setOf_nil]; rfl, rfl⟩
  | cons s p =>
    obtain ⟨b, sa, cap, rfl, c0, _⟩ := h.some
    have hp := setOf_ex (s :: p) k
    have hle := h.le
    generalize (s :: p).length = m at c0 hp hle
    generalize setOf (s :: p) k = r at hp ⊢
    have HN := Lib.hid hn
    clear h hn
    rcases hp with ⟨rfl, h1 | h1⟩ | ⟨n, t, rfl, h1, _, rfl⟩
    · go_enter Try.func69, Try.ntmps69
      go_wp2_with (go_at_call 68; refine HN.out.mono ?_; rintro e w1 ⟨rfl, rfl⟩)
      go_ret
      exact ⟨rfl, rfl⟩
    · go_enter Try.func69, Try.ntmps69
      go_wp2_with (go_at_call 68; refine HN.out.mono ?_; rintro e w1 ⟨rfl, rfl⟩)
      go_ret
      exact ⟨by rw [show (decide (k < (m : Int))) = false from decide_eq_false (by omega)]; rfl, rfl⟩
    · go_enter Try.func69, Try.ntmps69
      go_wp2_with (go_at_call 68; refine HN.out.mono ?_; rintro e w1 ⟨rfl, rfl⟩)
      go_ret
      exact ⟨rfl, rfl⟩

set_option maxRecDepth 100000 in
theorem set_any (v : Value) (base : Nat) (p : List BS) (k : Int) (w : World) (h : IsAl w base v p) :
    Calls Try.prog 19 #[v, .int .i64 k] w fun e w' => e = .returned (.tuple #[.agg (encS ((setOf p k).getD 0)), .bool (setOf p k).isSome]) ∧ Ext w w' := by
  have hn := is_any v base p k w h
  have hz := encS_zero
  rcases setOf_ex p k with ⟨h1, _⟩ | ⟨n, t, rfl, h1, h2, h3⟩
  · rw [h1] at hn ⊢
    have HI := Lib.hid (fun o => (show Calls Try.prog 69 #[v, .int .i64 k] (w.alloc o) _ from is_any v base p k (w.alloc o) (h.below ((Ext.refl w).alloc o).below)))
    rw [h1] at HI
    clear h hn h1
    go_enter Try.func19, Try.ntmps19
    go_wp2_with (go_at_call 69; refine (HI.out _).mono ?_; rintro e w1 ⟨rfl, rfl⟩)
    refine bodyPost_ret (v := .tuple #[.agg (encS 0), .bool false]) ?_ rfl ⟨rfl, (Ext.refl w).alloc _⟩
    rw [hz]
    simp [results, Try.results19, go_sem]
  · cases p with
    | nil => simp at h1
    | cons s p =>
    obtain ⟨b, sa, cap, rfl, c0, _, _, hb, hr⟩ := h.some
    obtain ⟨g, rfl, _, hg, hc⟩ := hr n t h2
    have hle := h.le
    have d0 : w.cell? ⟨g, n * 4, none⟩ = some (.int .u64 (wd t 0).toNat) := hc 0 (by decide)
    have d1 : w.cell? ⟨g, n * 4 + 1, none⟩ = some (.int .u64 (wd t 1).toNat) := hc 1 (by decide)
    have d2 : w.cell? ⟨g, n * 4 + 2, none⟩ = some (.int .u64 (wd t 2).toNat) := hc 2 (by decide)
    have d3 : w.cell? ⟨g, n * 4 + 3, none⟩ = some (.int .u64 (wd t 3).toNat) := hc 3 (by decide)
    have HI := Lib.hid (fun o => (show Calls Try.prog 69 #[_, .int .i64 n] (w.alloc o) _ from is_any _ base _ n (w.alloc o) (h.below ((Ext.refl w).alloc o).below)))
    rw [h3] at HI ⊢
    generalize (s :: p).length = m at c0 hle h1
    clear h hn hc hr h2 h3
    go_enter Try.func19, Try.ntmps19
    go_wp2_with (go_at_call 69; refine (HI.out _).mono ?_; rintro e w1 ⟨rfl, rfl⟩)
    refine bodyPost_ret (v := .tuple #[.agg (encS t), .bool true]) ?_ rfl ⟨rfl, (Ext.refl w).alloc _⟩
    simp [results, Try.results19, go_sem]

/-- The least byte of the class with a number. -/
def leastOf (p : List BS) (k : Int) : Nat × Bool := match setOf p k with | none => (0, false) | some s => firstOf s

set_option maxRecDepth 100000 in
theorem least_any (v : Value) (base : Nat) (p : List BS) (k : Int) (w : World) (h : IsAl w base v p) :
    Calls Try.prog 36 #[v, .int .i64 k] w fun e w' => e = .returned (.tuple #[.int .u8 (leastOf p k).1, .bool (leastOf p k).2]) ∧ Ext w w' := by
  have HS := Lib.hid (set_any v base p k w h)
  clear h
  unfold leastOf
  generalize setOf p k = r at HS ⊢
  cases r with
  | none =>
    go_enter Try.func36, Try.ntmps36
    go_wp2_with (go_at_call 19; refine HS.out.mono ?_; rintro e w1 ⟨rfl, hx⟩; have HX := Lib.hid hx; clear hx)
    refine bodyPost_ret (v := .tuple #[.int .u8 (0 : Nat), .bool false]) ?_ rfl ⟨rfl, HX.out.alloc _⟩
    simp [results, Try.results36, go_sem]
  | some s =>
    have HF := Lib.hid (first_any s)
    dsimp only at HS ⊢
    generalize firstOf s = z at HF ⊢
    have hs : (some s).getD 0 = s := rfl
    go_enter Try.func36, Try.ntmps36
    go_wp2_with (first | (go_at_call 19; refine HS.out.mono ?_; rintro e w1 ⟨rfl, hx⟩; have HX := Lib.hid hx; clear hx) | (go_at_call 38; refine (HF.out _).mono ?_; rintro e w2 ⟨rfl, hx⟩; have HX2 := Lib.hid hx; clear hx))
    refine bodyPost_ret (v := .tuple #[.int .u8 z.1, .bool z.2]) ?_ rfl ⟨rfl, (HX.out.alloc _).trans HX2.out⟩
    simp [results, Try.results36, go_sem]
end Go.Proofs.Ytokkgbcjjaiaeaa
