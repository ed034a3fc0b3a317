/-
  Automata that are written out: lists of lists in blocks of their own; a row of automata in one block.
-/
import Derived.Test.YtiegfnmpknmbmaaGreatK14
import Derived.Test.YtiegfnmpknmbmaaGreatK06
import Derived.Test.YtiegfnmpknmbmaaGreatK13
namespace Go.Proofs.YtiegfnmpknmbmaaGreat
open Go Go.RowKit Go.Shelf Go.Maps

def RowsAre (w : World) : List Value → List (List Int) → Prop
  | [], [] => True
  | u :: us, l :: ll => IsSl encZ w u l ∧ RowsAre w us ll
  | _, _ => False
theorem RowsAre.len {w : World} : ∀ {us : List Value} {ll : List (List Int)}, RowsAre w us ll → us.length = ll.length
  | [], [], _ => rfl
  | u :: us, l :: ll, h => by simp only [List.length_cons]; rw [RowsAre.len h.2]
  | [], _ :: _, h => h.elim
  | _ :: _, [], h => h.elim
theorem RowsAre.at {w : World} : ∀ {us : List Value} {ll : List (List Int)}, RowsAre w us ll → ∀ (i : Nat) (u : Value) (l : List Int), us[i]? = some u → ll[i]? = some l → IsSl encZ w u l
  | [], [], _, i, u, l, hu, _ => by simp at hu
  | x :: us, y :: ll, h, i, u, l, hu, hl => by
    cases i with
    | zero =>
      simp at hu hl
      subst hu hl
      exact h.1
    | succ i => exact RowsAre.at h.2 i u l (by simpa using hu) (by simpa using hl)
  | [], _ :: _, h, _, _, _, _, _ => h.elim
  | _ :: _, [], h, _, _, _, _, _ => h.elim
theorem isLL_of {w : World} {B n : Nat} {c : Array Value} {t : TypeId} (us : List Value) {ll : List (List Int)} (h : Blk w B c t) (hc : c.toList = us) (hn : n = us.length) (hr : RowsAre w us ll) : IsLL w (.slice (some ⟨B, 0, none⟩) n n) ll := by
  subst hn
  exact ⟨us, hr.len, blk_isSl us h (by rw [hc]; simp) rfl (Nat.le_refl _), hr.at⟩
theorem isSetsC_of {w : World} {B n : Nat} {c : Array Value} {t : TypeId} (l : List BS) (h : Blk w B c t) (hc : c.toList = flatS l) (hn : n = l.length) : IsSetsC w (.slice (some ⟨B, 0, none⟩) n n) l := ⟨blk_isSets l h hc hn, fun a n cap e => by cases e; exact Nat.le_refl _⟩
theorem row_of {w : World} {B n : Nat} {c : Array Value} {t : TypeId} (l : List Int) (h : Blk w B c t) (hc : c.toList = l.map encZ) (hn : n = l.length) : IsSl encZ w (.slice (some ⟨B, 0, none⟩) n n) l := by
  subst hn
  exact blk_isSl l h hc rfl (Nat.le_refl _)
theorem row_nil {w : World} : IsSl encZ w (.slice none 0 0) [] := .inl ⟨rfl, rfl⟩
/-- A block that holds automata one behind the other. -/
def DfRow (W : World) (S n : Nat) : Prop := ∃ c : Array Value, Blk W S c 25 ∧ ∀ k, k < n → ∃ a0 n0 c0 a1 n1 c1 a2 n2 c2 d, c[k * 3]? = some (.slice a0 n0 c0) ∧ c[k * 3 + 1]? = some (.slice a1 n1 c1) ∧ c[k * 3 + 2]? = some (.slice a2 n2 c2) ∧ IsDf W (.agg #[.slice a0 n0 c0, .slice a1 n1 c1, .slice a2 n2 c2]) d ∧ Sm d
theorem DfRow.below {W W' : World} {S n : Nat} (h : DfRow W S n) (hk : Below W.heap.size W W') : DfRow W' S n := by
  obtain ⟨c, h1, h2⟩ := h
  refine ⟨c, h1.below hk h1.lt, fun k hk' => ?_⟩
  obtain ⟨a0, n0, c0, a1, n1, c1, a2, n2, c2, d, e0, e1, e2, hd, sm⟩ := h2 k hk'
  exact ⟨a0, n0, c0, a1, n1, c1, a2, n2, c2, d, e0, e1, e2, hd.below hk, sm⟩
theorem DfRow.lt {W : World} {S n : Nat} (h : DfRow W S n) : S < W.heap.size := by
  obtain ⟨c, h1, _⟩ := h
  exact h1.lt
theorem DfRow.at {W : World} {S n : Nat} (h : DfRow W S n) {k : Nat} (hk : k < n) : ∃ a0 n0 c0 a1 n1 c1 a2 n2 c2 d, W.cell? ⟨S, k * 3, none⟩ = some (.slice a0 n0 c0) ∧ W.cell? ⟨S, k * 3 + 1, none⟩ = some (.slice a1 n1 c1) ∧ W.cell? ⟨S, k * 3 + 2, none⟩ = some (.slice a2 n2 c2) ∧ IsDf W (.agg #[.slice a0 n0 c0, .slice a1 n1 c1, .slice a2 n2 c2]) d ∧ Sm d := by
  obtain ⟨c, h1, h2⟩ := h
  obtain ⟨a0, n0, c0, a1, n1, c1, a2, n2, c2, d, e0, e1, e2, hd, sm⟩ := h2 k hk
  exact ⟨a0, n0, c0, a1, n1, c1, a2, n2, c2, d, (h1.cell _).trans e0, (h1.cell _).trans e1, (h1.cell _).trans e2, hd, sm⟩
def Sp.dfrow (S n : Nat) : Sp := ⟨fun W => DfRow W S n, fun _ _ hx h => h.below hx⟩
theorem Bag.dfrow {L : List Sp} {W : World} {S n : Nat} (h : Bag L W) (i : Nat) (hi : L[i]? = some (Sp.dfrow S n)) : DfRow W S n := h.at i hi
end Go.Proofs.YtiegfnmpknmbmaaGreat
