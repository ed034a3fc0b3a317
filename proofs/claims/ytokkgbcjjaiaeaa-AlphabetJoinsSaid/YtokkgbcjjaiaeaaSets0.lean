/-
  Sets of bytes as bit vectors: how a set lies in memory (four words), and what the bit operations on words come to. Plain facts; no program.
-/
import Derived.Test.YtokkgbcjjaiaeaaSeq
import Derived.Test.YtokkgbcjjaiaeaaLex
import Derived.Laws.StructEq
import Derived.IntWalk
namespace Go.Proofs.Ytokkgbcjjaiaeaa
open Go Go.RowKit

/-- A set of bytes: bit c says whether byte c is in. -/
abbrev BS := BitVec 256

/-- Word i of a set. -/
def wd (s : BS) (i : Nat) : BitVec 64 := s.extractLsb' (64 * i) 64
/-- A set's four words, as the model has them. -/
def encS (s : BS) : Array Value := #[.int .u64 (wd s 0).toNat, .int .u64 (wd s 1).toNat, .int .u64 (wd s 2).toNat, .int .u64 (wd s 3).toNat]

theorem encS_size (s : BS) : (encS s).size = 4 := rfl
theorem encS_get (s : BS) {k : Nat} (hk : k < 4) : (encS s)[k]? = some (.int .u64 (wd s k).toNat) := by
  match k, hk with
  | 0, _ => rfl
  | 1, _ => rfl
  | 2, _ => rfl
  | 3, _ => rfl

theorem bits_bv (op : BinOp) (x y : BitVec 64) : bits op .u64 x.toNat y.toNat = ((match op with | .and => x &&& y | .or => x ||| y | .xor => x ^^^ y | _ => x &&& ~~~y).toNat : Int) := by
  have hx : BitVec.ofInt (IntKind.u64).bits (x.toNat : Int) = x := by
    apply BitVec.eq_of_toNat_eq
    simp [IntKind.bits]
  have hy : BitVec.ofInt (IntKind.u64).bits (y.toNat : Int) = y := by
    apply BitVec.eq_of_toNat_eq
    simp [IntKind.bits]
  have hw : ∀ z : BitVec 64, IntKind.u64.wrap (z.toNat : Int) = z.toNat := fun z => by
    have := z.isLt
    simp only [IntKind.wrap, IntKind.bits, IntKind.signed, Bool.false_and, Bool.false_eq_true, if_false]
    omega
  unfold bits
  simp only [hx, hy]
  cases op <;> exact hw _

theorem bits_or (x y : BitVec 64) : bits .or .u64 x.toNat y.toNat = ((x ||| y).toNat : Int) := bits_bv .or x y
theorem bits_and (x y : BitVec 64) : bits .and .u64 x.toNat y.toNat = ((x &&& y).toNat : Int) := bits_bv .and x y
theorem bits_xor (x y : BitVec 64) : bits .xor .u64 x.toNat y.toNat = ((x ^^^ y).toNat : Int) := bits_bv .xor x y
theorem bits_less (x y : BitVec 64) : bits .andNot .u64 x.toNat y.toNat = ((x &&& ~~~y).toNat : Int) := bits_bv .andNot x y

theorem bits_not (x : BitVec 64) : bits .xor .u64 IntKind.u64.max x.toNat = ((~~~x).toNat : Int) := by
  have h : IntKind.u64.max = ((BitVec.allOnes 64).toNat : Int) := by decide
  rw [h, bits_xor, BitVec.allOnes_xor]
theorem bits_63 (n : Nat) (h : n < 9223372036854775808) : bits .and .i64 (n : Int) 63 = ((n % 64 : Nat) : Int) := by
  have hx : BitVec.ofInt (IntKind.i64).bits (n : Int) = BitVec.ofNat 64 n := by
    apply BitVec.eq_of_toNat_eq
    simp [IntKind.bits]
  have hy : BitVec.ofInt (IntKind.i64).bits 63 = BitVec.ofNat 64 63 := rfl
  unfold bits
  simp only [hx, hy]
  have h1 : (BitVec.ofNat 64 n &&& BitVec.ofNat 64 63).toNat = n % 64 := by
    rw [BitVec.toNat_and, BitVec.toNat_ofNat, BitVec.toNat_ofNat, Nat.mod_eq_of_lt (show n < 2 ^ 64 by omega)]
    exact Nat.and_two_pow_sub_one_eq_mod n 6
  show IntKind.i64.wrap ((BitVec.ofNat 64 n &&& BitVec.ofNat 64 63 : BitVec 64).toNat : Int) = _
  rw [h1]
  exact IntWalk.i64_in _ (by omega)
theorem bits_one (n : Nat) (h : n < 2 ^ 64) : bits .and .u64 (n : Int) 1 = ((n % 2 : Nat) : Int) := by
  have e1 : ((BitVec.ofNat 64 n).toNat : Int) = n := by rw [BitVec.toNat_ofNat, Nat.mod_eq_of_lt h]
  have e2 : (((1 : BitVec 64)).toNat : Int) = 1 := rfl
  rw [← e1, ← e2, bits_and]
  congr 1
  rw [BitVec.toNat_and, BitVec.toNat_ofNat, Nat.mod_eq_of_lt h]
  exact Nat.and_one_is_mod n

theorem wd_or (s t : BS) (i : Nat) : wd (s ||| t) i = wd s i ||| wd t i := by unfold wd; exact BitVec.extractLsb'_or ..
theorem wd_and (s t : BS) (i : Nat) : wd (s &&& t) i = wd s i &&& wd t i := by unfold wd; exact BitVec.extractLsb'_and ..
theorem wd_not (s : BS) {i : Nat} (hi : i < 4) : wd (~~~s) i = ~~~(wd s i) := by
  unfold wd
  apply BitVec.eq_of_getLsbD_eq
  intro k hk
  simp only [BitVec.getLsbD_extractLsb', BitVec.getLsbD_not, hk, decide_true, Bool.true_and]
  have : 64 * i + k < 256 := by omega
  simp [this]
theorem wd_zero (i : Nat) : wd 0 i = 0 := by unfold wd; exact BitVec.extractLsb'_zero ..

/-- Two sets with the same words are one. -/
theorem BS.ext_wd {s t : BS} (h : ∀ i, i < 4 → wd s i = wd t i) : s = t := by
  apply BitVec.eq_of_getLsbD_eq
  intro k hk
  have h1 := congrArg (fun b : BitVec 64 => b.getLsbD (k % 64)) (h (k / 64) (by omega))
  simp only [wd, BitVec.getLsbD_extractLsb', show k % 64 < 64 from by omega, decide_true, Bool.true_and] at h1
  rwa [show 64 * (k / 64) + k % 64 = k from by omega] at h1

/-- Bit c of a set, out of its word. -/
theorem wd_bit (s : BS) (c : Nat) : (wd s (c / 64)).toNat / 2 ^ (c % 64) % 2 = (s.getLsbD c).toNat := by
  have h : (wd s (c / 64)).getLsbD (c % 64) = s.getLsbD c := by
    simp only [wd, BitVec.getLsbD_extractLsb', show c % 64 < 64 from by omega, decide_true, Bool.true_and]
    rw [show 64 * (c / 64) + c % 64 = c from by omega]
  rw [← h, BitVec.getLsbD, Nat.testBit_eq_decide_div_mod_eq]
  have := Nat.mod_lt ((wd s (c / 64)).toNat / 2 ^ (c % 64)) (show 0 < 2 by decide)
  generalize (wd s (c / 64)).toNat / 2 ^ (c % 64) % 2 = z at *
  match z, this with
  | 0, _ => rfl
  | 1, _ => rfl

/-- Go's test of a bit. -/
theorem bit_test (s : BS) (c : Nat) : (bits .and .u64 (((wd s (c / 64)).toNat : Int) / 2 ^ (c % 64)) 1 == 1) = s.getLsbD c := by
  have h : (((wd s (c / 64)).toNat : Int) / 2 ^ (c % 64)) = ((((wd s (c / 64)).toNat / 2 ^ (c % 64) : Nat)) : Int) := by simp
  rw [h, bits_one _ (Nat.lt_of_le_of_lt (Nat.div_le_self _ _) (wd s (c / 64)).isLt), wd_bit]
  cases s.getLsbD c <;> rfl

/-- Four words as a set. -/
def ofWords (a b c d : BitVec 64) : BS := (d ++ c ++ b ++ a : BitVec 256)
theorem app_bit {m n : Nat} (x : BitVec m) (y : BitVec n) (i : Nat) : (x ++ y).getLsbD i = if i < n then y.getLsbD i else x.getLsbD (i - n) := by
  rw [BitVec.getLsbD_append]
theorem wd_of0 (a b c d : BitVec 64) : wd (ofWords a b c d) 0 = a := by
  apply BitVec.eq_of_getLsbD_eq
  intro k hk
  unfold wd ofWords
  rw [BitVec.getLsbD_extractLsb', app_bit, if_pos (by omega)]
  simp [hk]
theorem wd_of1 (a b c d : BitVec 64) : wd (ofWords a b c d) 1 = b := by
  apply BitVec.eq_of_getLsbD_eq
  intro k hk
  unfold wd ofWords
  rw [BitVec.getLsbD_extractLsb', app_bit, if_neg (by omega), app_bit, if_pos (by omega)]
  rw [show 64 * 1 + k - 64 = k by omega]
  simp [hk]
theorem wd_of2 (a b c d : BitVec 64) : wd (ofWords a b c d) 2 = c := by
  apply BitVec.eq_of_getLsbD_eq
  intro k hk
  unfold wd ofWords
  rw [BitVec.getLsbD_extractLsb', app_bit, if_neg (by omega), app_bit, if_neg (by omega), app_bit, if_pos (by omega)]
  rw [show 64 * 2 + k - 64 - 64 = k by omega]
  simp [hk]
theorem wd_of3 (a b c d : BitVec 64) : wd (ofWords a b c d) 3 = d := by
  apply BitVec.eq_of_getLsbD_eq
  intro k hk
  unfold wd ofWords
  rw [BitVec.getLsbD_extractLsb', app_bit, if_neg (by omega), app_bit, if_neg (by omega), app_bit, if_neg (by omega)]
  rw [show 64 * 3 + k - 64 - 64 - 64 = k by omega]
  simp [hk]
theorem wd_ofWords (a b c d : BitVec 64) : wd (ofWords a b c d) 0 = a ∧ wd (ofWords a b c d) 1 = b ∧ wd (ofWords a b c d) 2 = c ∧ wd (ofWords a b c d) 3 = d := ⟨wd_of0 a b c d, wd_of1 a b c d, wd_of2 a b c d, wd_of3 a b c d⟩
theorem encS_ofWords (a b c d : BitVec 64) : encS (ofWords a b c d) = #[.int .u64 a.toNat, .int .u64 b.toNat, .int .u64 c.toNat, .int .u64 d.toNat] := by
  obtain ⟨h0, h1, h2, h3⟩ := wd_ofWords a b c d
  simp only [encS, h0, h1, h2, h3]
theorem encS_inj {s t : BS} (h : encS s = encS t) : s = t := by
  have hw : ∀ i, i < 4 → wd s i = wd t i := fun i hi => by
    have h1 := encS_get s hi
    rw [h, encS_get t hi] at h1
    simp only [Option.some.injEq, Value.int.injEq, true_and] at h1
    exact (BitVec.eq_of_toNat_eq (by omega)).symm
  exact BS.ext_wd hw

/-! '==' on arrays of whole numbers. -/
theorem run_part_one {P : Program} {w : World} {e : TypeId} {cs : Array Value} {i : Nat} {v : Value} (ha : ∀ w, (isAgg e).run P w = .ok false w) (h : cs[i]? = some v) : (part e cs i).run P w = .ok v w := by
  unfold part
  simp [Sem.run_bind, ha, h]

theorem run_equalIn_array {P : Program} (w : World) (d : Nat) {t e : TypeId} {len : Nat} {k : IntKind} (xs ys : Array Value) (x y : Nat → Int)
    (ht : P.underlying t = some (.array len e)) (he : P.underlying e = some (.int k)) (ha : ∀ w, (isAgg e).run P w = .ok false w) (hz : ∀ w, (sizeOf e).run P w = .ok 1 w)
    (hx : ∀ i, i < len → xs[i]? = some (.int k (x i))) (hy : ∀ i, i < len → ys[i]? = some (.int k (y i))) :
    (Op.equalIn (d + 2) t (.agg xs) (.agg ys)).run P w = .ok ((List.range len).all fun i => x i == y i) w := by
  rw [show d + 2 = (d + 1) + 1 from rfl, Op.equalIn]
  simp only [Sem.run_bind, run_underlying ht, Result.andThen_ok, hz]
  simp only [Std.Legacy.Range.forIn_eq_forIn_range', Std.Legacy.Range.size, Nat.sub_zero, Nat.add_one_sub_one, Nat.div_one]
  have key : ∀ (l : List Nat), (∀ i ∈ l, i < len) → (Sem.run P (forIn (m := Sem) l ((none, ()) : Option Bool × Unit) fun i (_ : Option Bool × Unit) => do
      let a ← part e xs (i * 1)
      let b ← part e ys (i * 1)
      let r ← Op.equalIn (d + 1) e a b
      if (!r) = true then pure (ForInStep.done (some false, ())) else pure (ForInStep.yield (none, ()))) w) = .ok (if (l.all fun i => x i == y i) then none else some false, ()) w := by
    intro l
    induction l with
    | nil => intro _; simp
    | cons i l ih =>
      intro hl
      have hi := hl i (by simp)
      simp only [List.forIn_cons, Sem.run_bind, Nat.mul_one, run_part_one ha (hx i hi), run_part_one ha (hy i hi), Result.andThen_ok, run_equalIn_int w d e k k _ _ he]
      by_cases h : x i = y i
      · have h' : (x i == y i) = true := by simpa using h
        have := ih (fun j hj => hl j (by simp [hj]))
        simp only [Nat.mul_one] at this
        simp only [h', Bool.not_true, Bool.false_eq_true, if_false, Sem.run_pure, Result.andThen_ok, List.all_cons, Bool.true_and]
        exact this
      · have h' : (x i == y i) = false := by simpa using h
        simp [h']
  rw [key (List.range' 0 len) (fun i hi => by simpa [List.mem_range'] using hi)]
  simp only [Result.andThen_ok]
  rw [List.range_eq_range']
  split <;> simp_all


/-- .. and the operation, where both arrays are told by functions. -/
theorem encS_beq (s t : BS) : ((List.range 4).all fun i => (((wd s i).toNat : Int) == ((wd t i).toNat : Int))) = (s == t) := by
  rw [Bool.eq_iff_iff]
  simp only [List.all_eq_true, List.mem_range, beq_iff_eq]
  constructor
  · intro h; exact BS.ext_wd fun i hi => BitVec.eq_of_toNat_eq (by have := h i hi; omega)
  · intro h i _; rw [h]

/-- A set in a box, in every world of a class that keeps it. -/
theorem lexSet {C : World → Prop} {S : Nat → Prop} {w : World} (hC : ∀ W, C W ↔ Keeps S w W) {b : Nat} {s : BS} {t : TypeId} (hs : S b) (h : Blk w b (encS s) t) :
    (∀ W : { W // C W }, W.1.cell? ⟨b, 0, none⟩ = some (.int .u64 (wd s 0).toNat)) ∧ (∀ W : { W // C W }, W.1.cell? ⟨b, 1, none⟩ = some (.int .u64 (wd s 1).toNat)) ∧
    (∀ W : { W // C W }, W.1.cell? ⟨b, 2, none⟩ = some (.int .u64 (wd s 2).toNat)) ∧ (∀ W : { W // C W }, W.1.cell? ⟨b, 3, none⟩ = some (.int .u64 (wd s 3).toNat)) :=
  ⟨lexCell hC (p := ⟨b, 0, none⟩) hs (h.cell 0), lexCell hC (p := ⟨b, 1, none⟩) hs (h.cell 1), lexCell hC (p := ⟨b, 2, none⟩) hs (h.cell 2), lexCell hC (p := ⟨b, 3, none⟩) hs (h.cell 3)⟩
theorem Blk.set4 {w : World} {b : Nat} {s : BS} {t : TypeId} (h : Blk w b (encS s) t) :
    w.cell? ⟨b, 0, none⟩ = some (.int .u64 (wd s 0).toNat) ∧ w.cell? ⟨b, 1, none⟩ = some (.int .u64 (wd s 1).toNat) ∧ w.cell? ⟨b, 2, none⟩ = some (.int .u64 (wd s 2).toNat) ∧ w.cell? ⟨b, 3, none⟩ = some (.int .u64 (wd s 3).toNat) :=
  ⟨h.cell 0, h.cell 1, h.cell 2, h.cell 3⟩

/-- One byte more. -/
def withB (s : BS) (c : Nat) : BS := s ||| BitVec.twoPow 256 c
theorem withB_bit (s : BS) {c d : Nat} (hc : c < 256) : (withB s c).getLsbD d = (s.getLsbD d || (d == c)) := by
  unfold withB
  rw [BitVec.getLsbD_or, BitVec.getLsbD_twoPow]
  simp only [hc, decide_true, Bool.true_and]
  congr 1
  rw [Bool.eq_iff_iff]; simp; exact eq_comm
theorem wd_withB (s : BS) {c i : Nat} (hc : c < 256) (hi : i < 4) : wd (withB s c) i = if i = c / 64 then wd s i ||| BitVec.twoPow 64 (c % 64) else wd s i := by
  have hm : c % 64 < 64 := Nat.mod_lt _ (by decide)
  split
  · rename_i h
    subst h
    apply BitVec.eq_of_getLsbD_eq
    intro k hk
    have h2 : ∀ d, (withB s c).getLsbD d = (s.getLsbD d || (d == c)) := fun d => withB_bit s hc
    simp only [wd, BitVec.getLsbD_extractLsb', hk, decide_true, Bool.true_and, h2, BitVec.getLsbD_or, BitVec.getLsbD_twoPow, hm]
    congr 1
    rw [Bool.eq_iff_iff]; simp; omega
  · rename_i h
    apply BitVec.eq_of_getLsbD_eq
    intro k hk
    simp only [wd, BitVec.getLsbD_extractLsb', hk, decide_true, Bool.true_and, withB_bit s hc]
    rw [show (64 * i + k == c) = false from by simp; omega, Bool.or_false]
theorem or_bit (x : BitVec 64) {m : Nat} (hm : m < 64) : bits .or .u64 x.toNat (IntKind.u64.wrap (2 ^ m)) = ((x ||| BitVec.twoPow 64 m).toNat : Int) := by
  have h : IntKind.u64.wrap (2 ^ m) = ((BitVec.twoPow 64 m).toNat : Int) := by
    have h1 : (2 : Nat) ^ m < 2 ^ 64 := Nat.pow_lt_pow_right (by decide) hm
    have h2 : ((2 : Int) ^ m) = ((2 ^ m : Nat) : Int) := by simp
    rw [BitVec.toNat_twoPow, Nat.mod_eq_of_lt h1, h2]
    simp only [IntKind.wrap, IntKind.bits, IntKind.signed, Bool.false_and, Bool.false_eq_true, if_false]
    exact Int.emod_eq_of_lt (Int.natCast_nonneg _) (by exact_mod_cast h1)
  rw [h, bits_or]
theorem encS_withB (s : BS) {c : Nat} (hc : c < 256) : (encS s).setIfInBounds (c / 64) (.int .u64 (bits .or .u64 (wd s (c / 64)).toNat (IntKind.u64.wrap (2 ^ (c % 64))))) = encS (withB s c) := by
  rw [or_bit _ (Nat.mod_lt _ (by decide))]
  apply Array.ext_getElem?
  intro i
  rw [Array.getElem?_setIfInBounds]
  by_cases hi : i < 4
  · rw [encS_get _ hi, encS_get _ hi, wd_withB s hc hi]
    split
    · rename_i h; subst h; simp [encS_size, hi]
    · rename_i h; rw [if_neg (fun e => h e.symm)]
  · have h1 : (encS s)[i]? = none := by simp [encS_size]; omega
    have h2 : (encS (withB s c))[i]? = none := by simp [encS_size]; omega
    rw [h1, h2]
    split
    · rw [if_neg (by rw [encS_size]; omega)]
    · rfl
/-- The set of the bytes that p takes. -/
def bsOf (p : Nat → Bool) : BS := (List.range 256).foldl (fun s c => if p c then withB s c else s) 0
theorem bsOf_aux (p : Nat → Bool) : ∀ n, n ≤ 256 → ∀ d, ((List.range n).foldl (fun s c => if p c then withB s c else s) (0 : BS)).getLsbD d = (decide (d < n) && p d) := by
  intro n
  induction n with
  | zero => intro _ d; simp
  | succ n ih =>
    intro hn d
    rw [List.range_succ, List.foldl_append, List.foldl_cons, List.foldl_nil]
    have h := ih (by omega) d
    by_cases hp : p n = true
    · rw [if_pos hp, withB_bit _ (by omega), h]
      by_cases hd : d = n
      · subst hd; simp [hp]
      · rw [Bool.eq_iff_iff]; simp [hd]; intro _; omega
    · rw [if_neg hp, h]
      by_cases hd : d = n
      · subst hd; simp [hp]
      · rw [Bool.eq_iff_iff]; simp; intro _; omega
theorem bsOf_bit (p : Nat → Bool) {d : Nat} (hd : d < 256) : (bsOf p).getLsbD d = p d := by
  have := bsOf_aux p 256 (Nat.le_refl _) d
  rw [bsOf, this]; simp [hd]
theorem BS.ext {s t : BS} (h : ∀ c, c < 256 → s.getLsbD c = t.getLsbD c) : s = t := BitVec.eq_of_getLsbD_eq h
theorem BS.eq_bsOf {s : BS} {p : Nat → Bool} (h : ∀ c, c < 256 → s.getLsbD c = p c) : s = bsOf p := BS.ext fun c hc => by rw [h c hc, bsOf_bit p hc]

/-- A slice with one cell an element: nil, or a row of cells. -/
def IsSl {α : Type} (enc : α → Value) (w : World) (v : Value) (l : List α) : Prop :=
  (v = .slice none 0 0 ∧ l = []) ∨ ∃ b off cap, v = .slice (some ⟨b, off, none⟩) l.length cap ∧ b < w.heap.size ∧ l.length ≤ cap ∧ ∀ i x, l[i]? = some x → w.cell? ⟨b, off + i, none⟩ = some (enc x)
theorem IsSl.ext {α : Type} {enc : α → Value} {w w' : World} {v : Value} {l : List α} (h : IsSl enc w v l) (hx : Ext w w') : IsSl enc w' v l := by
  rcases h with h | ⟨b, off, cap, hv, hb, hc, h⟩
  · exact .inl h
  · exact .inr ⟨b, off, cap, hv, Nat.lt_of_lt_of_le hb hx.size, hc, fun i x hi => (hx.cell (p := ⟨b, off + i, none⟩) hb).trans (h i x hi)⟩
end Go.Proofs.Ytokkgbcjjaiaeaa
