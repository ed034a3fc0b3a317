/-
  Plain facts on the classes of sets (their order), and at the example of the chapter.
-/
import Derived.Test.YtokkgbcjjaiaeaaLaw1
namespace Go.Proofs.Ytokkgbcjjaiaeaa
open Go Go.RowKit Go.Shelf Go.Maps

theorem le_trans_S (a b c : BS) (h : (!ltOf compareOf b a) = true) (k : (!ltOf compareOf c b) = true) : (!ltOf compareOf c a) = true := by
  simp only [Bool.not_eq_true'] at *
  cases hca : ltOf compareOf c a with
  | false => rfl
  | true =>
    exfalso
    rw [← Bool.not_eq_true, ltOf_iff] at h k
    rw [ltOf_iff] at hca
    rcases ltS_total a b with e | e | e
    · subst e; exact k hca
    · exact k (ltS_trans hca e)
    · exact h e
theorem le_total_S (a b : BS) : ((!ltOf compareOf b a) || (!ltOf compareOf a b)) = true := by
  cases hba : ltOf compareOf b a with
  | false => rfl
  | true =>
    cases hab : ltOf compareOf a b with
    | false => rfl
    | true =>
      rw [ltOf_iff] at hba hab
      exact absurd (ltS_trans hba hab) (ltS_irrefl b)
theorem partsOf_sorted (l : List BS) : (partsOf l).Pairwise fun x y => (!ltOf compareOf y x) = true := List.pairwise_mergeSort le_trans_S le_total_S _
theorem partsOf_perm (l : List BS) : (partsOf l).Perm (partsRaw l) := List.mergeSort_perm _ _
theorem partsOf_eq {l L : List BS} (hp : (partsRaw l).Perm L) (hs : L.Pairwise fun x y => (!ltOf compareOf y x) = true) : partsOf l = L :=
  List.Perm.eq_of_pairwise (fun a b _ _ h k => totS a b (by simpa using k) (by simpa using h)) (partsOf_sorted l) hs ((partsOf_perm l).trans hp)

def rngS (lo hi : Nat) : BS := bsOf fun c => decide (lo ≤ c) && decide (c ≤ hi)
def awS : List BS := [rngS 97 99, rngS 98 100]
def awP : List BS := [~~~(rngS 97 100), rngS 97 97, rngS 98 99, rngS 100 100]
theorem awP_isPerm : (partsRaw awS).isPerm awP = true := by kernel_rfl
theorem awP_sorted : decide (awP.Pairwise fun x y => (!ltOf compareOf y x) = true) = true := by kernel_rfl
theorem awP_parts : partsOf awS = awP := partsOf_eq (List.isPerm_iff.1 awP_isPerm) (of_decide_eq_true awP_sorted)
theorem awP_cls : cls awP 99 = 2 := by kernel_rfl
theorem awP_word : wordOf awP [97, 98, 100] = [1, 2, 3] := by kernel_rfl
theorem awP_classes : classesOf awP (rngS 97 99) = ([1, 2], 0) := by kernel_rfl
theorem awP_bad : classesOf awP (bsOf fun c => [97, 98].contains c) = ([], 160) := by kernel_rfl
theorem awP_bytes : bytesOfL awP [2, 0] = ([98, 0], 0) := by kernel_rfl
theorem awP_together : togetherOf awP [1, 3, 1] = (bsOf fun c => [97, 100].contains c, 0) := by kernel_rfl
theorem awP_finer : finerOf (allTo 256) awP = true := by kernel_rfl
theorem awP_coarse : finerOf awP (allTo 256) = false := by kernel_rfl
end Go.Proofs.Ytokkgbcjjaiaeaa
