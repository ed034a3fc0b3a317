/-
  dfa.key: the key of a row of state sets, by strings.Builder and strconv.Itoa.
  Parts in memory; what a step of the maker leads to.
  (*maker).step: what a row of state sets leads to by a byte.
-/
import Derived.Test.YtbiboekhakbnpaaGreatDoorOB17
import Derived.Test.YtbiboekhakbnpaaGreatDoorOB09
import Derived.Lib.ItoaLen
import Derived.Test.YtbiboekhakbnpaaGreatDoorOB16
import Derived.Test.YtbiboekhakbnpaaGreatDoorOB06
import Derived.Test.YtbiboekhakbnpaaGreatDoorOB11
set_option maxRecDepth 100000
set_option maxHeartbeats 16000000
open Go.Lib (hid)
namespace Go.Proofs.YtbiboekhakbnpaaGreatDoor
open Go Go.RowKit Go.Shelf Go.Maps

def TabW (W : World) : Prop := Lib.TabIs Tryz.prog W "internal/strconv.uint64pow10" .u64 Lib.pow10Tab
theorem var_keeps {P : Program} {w w' : World} {name : String} (hk : ∀ b, b < w.heap.size -> w'.heap[b]? = w.heap[b]?) {x : Array Value} (h : w.var? P name = some x) : w'.var? P name = some x := by
 unfold World.var? at *
 cases hg : P.globalNamed name with
 | none => rw [hg] at h; cases h
 | some g =>
  rw [hg] at h
  simp only [Option.bind_some] at h ⊢
  rcases Nat.lt_or_ge g w.heap.size with h1 | h1
  ·rw [hk g h1]; exact h
  ·rw [Array.getElem?_eq_none h1] at h; cases h
theorem TabW.below {w w' : World} (h : TabW w) (hk : Below w.heap.size w w') : TabW w' := var_keeps (fun b hb => hk.block b hb) h
theorem numK_len (x : Int) (h0 : -9223372036854775808 <= x) (h1 : x <= 9223372036854775807) : (numK x).length <= 22 := by
 unfold numK
 rw [List.length_append]
 have := Lib.itoa_length_le x h0 h1
 simp; omega
def RowK (row : List (List Int)) : Prop := row.length <= 64 /\ ∀ l ∈ row, l.length <= 401 /\ ∀ x ∈ l, -1 <= x /\ x <= 400
theorem numsK_len {l : List Int} (h : ∀ x ∈ l, -1 <= x /\ x <= 400) : (numsK l).length <= 22 * l.length := by
 induction l with
 | nil => simp [numsK]
 | cons p l ih =>
  rw [numsK_cons, List.length_append, List.length_cons]
  have h1 := numK_len p (by have := (h p (List.mem_cons_self ..)).1; omega) (by have := (h p (List.mem_cons_self ..)).2; omega)
  have h2 := ih fun x hx => h x (List.mem_cons_of_mem _ hx)
  omega
theorem keyK_len {row : List (List Int)} {N : Nat} (h : ∀ l ∈ row, l.length <= N /\ ∀ x ∈ l, -1 <= x /\ x <= 400) : (keyK row).length <= (22 * N + 1) * row.length := by
 induction row with
 | nil => simp [keyK]
 | cons l row ih =>
  rw [keyK_cons, List.length_append, List.length_cons]
  have h1 := h l (List.mem_cons_self ..)
  have h2 := numsK_len h1.2
  have h3 := ih fun x hx => h x (List.mem_cons_of_mem _ hx)
  have h4 : (listK l).length = (numsK l).length + 1 := by unfold listK; simp
  have h5 : 22 * l.length <= 22 * N := Nat.mul_le_mul_left _ h1.1
  rw [Nat.mul_add, Nat.mul_one]
  omega
theorem RowK.len {row : List (List Int)} (h : RowK row) : (keyK row).length <= 564672 := by
 have h1 := keyK_len h.2
 have h2 : (22 * 401 + 1) * row.length <= (22 * 401 + 1) * 64 := Nat.mul_le_mul_left _ h.1
 omega
theorem RowK.in {row : List (List Int)} (h : RowK row) : KeyIn row := by
 have := h.len
 unfold KeyIn maxLen
 omega
theorem keyK_take_le (row : List (List Int)) (k : Nat) : (keyK (row.take k)).length <= (keyK row).length := by
 conv => rhs; rw [<- List.take_append_drop k row]
 unfold keyK
 rw [List.flatMap_append, List.length_append]
 omega
theorem keyK_snoc (row : List (List Int)) (l : List Int) : keyK (row ++ [l]) = keyK row ++ numsK l ++ [59] := by
 unfold keyK
 rw [List.flatMap_append]
 simp [listK]
theorem numsK_snoc (l : List Int) (p : Int) : numsK (l ++ [p]) = numsK l ++ numK p := by unfold numsK; rw [List.flatMap_append]; simp
theorem below_grow (n : Nat) (w : World) (k : Nat) (os : Array Obj) (hn : n <= w.heap.size) : Below n w (Sort.grow (w.drewN k) os) where
 os := rfl
 tape := rfl
 output := rfl
 size := by unfold Sort.grow; simp [World.drewN]
 block := fun b hb => by unfold Sort.grow; show ((w.drewN k).heap ++ os)[b]? = _; rw [Array.getElem?_append_left (by show b < w.heap.size; omega)]; rfl
theorem isBuilder_below {T e : TypeId} {B b : Nat} {bs : List Value} {w w' : World} (h : Lib.IsBuilderF T e B b bs w) (hk : Below w.heap.size w w') : Lib.IsBuilderF T e B b bs w' := by
 have key : ∀ p, Lib.BuilderAtF T e B b p bs w -> Lib.BuilderAtF T e B b p bs w' := fun p h => by
  have hlt := h.lt
  obtain ⟨h1, v, h2, ⟨h3, h4⟩, h5⟩ := h
  refine ⟨h1, v, (hk.block b hlt).trans h2, ⟨h3, ?_⟩, h5⟩
  rcases h4 with h4 | ⟨g, cap, cur, fz, e1, e2, e3, rest⟩
  ·exact .inl h4
  ·exact .inr ⟨g, cap, cur, fz, e1, e2, (hk.block g (Array.getElem?_eq_some_iff.1 e3).1).trans e3, rest⟩
 exact h.imp (key _) (key _)
theorem byteCells_str (l m : List UInt8) : Lib.byteCells l ++ Lib.strCells ⟨m.toArray⟩ = Lib.byteCells (l ++ m) := by
 unfold Lib.byteCells Lib.strCells
 simp
theorem byteCells_one (l : List UInt8) (c : UInt8) : Lib.byteCells l ++ [.int .u8 c.toNat] = Lib.byteCells (l ++ [c]) := by
 unfold Lib.byteCells
 simp
theorem key_any (v : Value) (row : List (List Int)) (rk : RowK row) (w : World) (h : IsLL w v row) (htab : ∀ W, Below w.heap.size w W → TabW W) :
    Calls Tryz.prog 118 #[v] w fun e w' => e = .returned (rowK row) ∧ Below w.heap.size w w' := by
  obtain ⟨a, c, rfl⟩ := h.form
  obtain ⟨n, hn⟩ : ∃ n, n = row.length := ⟨_, rfl⟩
  obtain ⟨R, hR⟩ : ∃ R, R = rowK row := ⟨_, rfl⟩
  rw [← hn] at h ⊢
  rw [← hR]
  have hn64 : n ≤ 64 := by rw [hn]; exact rk.1
  have KL := hid rk.len
  have H := hid h
  have HN := hid hn
  have HR := hid hR
  have HT := hid htab
  have RK := hid rk.2
  have CI : Hid (∀ (x : Int) (W : World), -1 ≤ x → x ≤ 400 → Below w.heap.size w W → Calls Tryz.prog 154 #[.int .i64 x] W fun e w' => e = .returned (.string ⟨(Lib.itoa x).toArray⟩) ∧ Below W.heap.size W w') := hid fun x W h0 h1 hW => (Any.strconv_Itoa Tryz.li171 x (by omega) (by omega) W (htab W hW)).mono fun e w' ⟨he, k, os, hw⟩ => ⟨he, by rw [hw]; exact below_grow _ _ _ _ (Nat.le_refl _)⟩
  have CW : Hid (∀ (B b : Nat) (bs : List Value) (s : ByteArray) (W : World), Lib.IsBuilderF 213 5 B b bs W → bs.length + s.size ≤ 140737488355328 → B ≤ W.heap.size → Calls Tryz.prog 153 #[.pointer (some ⟨b, 0, none⟩), .string s] W fun e w' => e = .returned (.tuple #[.int .i64 s.size, .nilIface]) ∧ (Lib.BuilderAtF 213 5 B b (.pointer (some ⟨b, 0, none⟩)) (bs ++ Lib.strCells s) w' ∧ Below B W w')) := hid fun B b bs s W h1 h2 h3 => (Any.Builder_WriteString_k Tryz.lb166 Tryz.bx166 B b bs s W h1 h2 h3).mono fun e w' ⟨he, h4, h5, _⟩ => ⟨he, h4, h5⟩
  have CB : Hid (∀ (B b : Nat) (bs : List Value) (x : Int) (W : World), Lib.IsBuilderF 213 5 B b bs W → bs.length + 1 ≤ 140737488355328 → B ≤ W.heap.size → Calls Tryz.prog 155 #[.pointer (some ⟨b, 0, none⟩), .int .u8 x] W fun e w' => e = .returned .nilIface ∧ (Lib.BuilderAtF 213 5 B b (.pointer (some ⟨b, 0, none⟩)) (bs ++ [.int .u8 x]) w' ∧ Below B W w')) := hid fun B b bs x W h1 h2 h3 => (Any.Builder_WriteByte_k Tryz.lb167 Tryz.bx167 B b bs x W h1 h2 h3).mono fun e w' ⟨he, h4, h5, _⟩ => ⟨he, h4, h5⟩
  have CS : Hid (∀ (B b : Nat) (l : List UInt8) (W : World), Lib.IsBuilderF 213 5 B b (Lib.byteCells l) W → B ≤ W.heap.size → Calls Tryz.prog 156 #[.pointer (some ⟨b, 0, none⟩)] W fun e w' => e = .returned (.string ⟨l.toArray⟩) ∧ Below B W w') := hid fun B b l W h1 h3 => (Any.Builder_String_any_k Tryz.lb169 Tryz.bx169 B b l W h1 h3).mono fun e w' ⟨he, _, h5, _⟩ => ⟨he, h5⟩
  clear h hn hR htab rk
  go_enter Tryz.func118, Tryz.ntmps118
  go_wp2
  go_loopw [10] (fun iv wr => ∃ k : Nat, k ≤ n ∧ iv = .int .i64 k ∧ Lib.IsBuilderF 213 5 w.heap.size w.heap.size (Lib.byteCells (keyK (row.take k))) wr ∧ Below w.heap.size w wr) (fun iv _ => n - (intOf iv).toNat)
  case atStart =>
    exact ⟨0, by omega, rfl, Lib.IsBuilderF.of (Lib.fresh_isBuilder 213 5 w), ((Ext.refl w).alloc _).below⟩
  case round =>
    obtain ⟨k, hk, rfl, hb, hx⟩ := hrel
    have HB := hid hb
    have HX := hid hx
    have hle := keyK_take_le row k
    have HLE := hid hle
    clear hb hx hle
    obtain ⟨wo, rfl⟩ : ∃ wo : World, wo = wr := ⟨_, rfl⟩
    by_cases hlt : k < n
    · have hki : (k : Int) < n := by omega
      obtain ⟨l, hl⟩ : ∃ l, row[k]? = some l := ⟨_, List.getElem?_eq_getElem (by have := HN.out; omega)⟩
      obtain ⟨b, off, a', c', rfl, hbl, cl, hsl⟩ := H.out.elem hl
      have cl2 : wo.cell? ⟨b, off + k, none⟩ = some (.slice a' l.length c') := ((Keeps.of_below HX.out fun _ h => h : Keeps (· < w.heap.size) w wo).cell (p := ⟨b, off + k, none⟩) hbl).trans cl
      have HSL := hid hsl
      have RL := hid (RK.out l (List.mem_of_getElem? hl))
      have HTK : Hid (keyK (row.take (k + 1)) = keyK (row.take k) ++ numsK l ++ [59]) := hid (by rw [List.take_add_one, hl]; exact keyK_snoc _ _)
      have LEN : Hid ((keyK (row.take (k + 1))).length ≤ 564672) := hid (Nat.le_trans (keyK_take_le row (k + 1)) KL.out)
      obtain ⟨m, hm⟩ : ∃ m, m = l.length := ⟨_, rfl⟩
      have hm401 : m ≤ 401 := by rw [hm]; exact RL.out.1
      have HM := hid hm
      rw [← hm] at cl2 HSL
      clear hsl hl hm cl
      go_wp2
      clear cl2
      go_loopw [16] (fun iv wi => ∃ j : Nat, j ≤ m ∧ iv = .int .i64 j ∧ Lib.IsBuilderF 213 5 w.heap.size w.heap.size (Lib.byteCells (keyK (row.take k) ++ numsK (l.take j))) wi ∧ Below w.heap.size w wi) (fun iv _ => m - (intOf iv).toNat)
      case atStart =>
        exact ⟨0, by omega, rfl, by rw [List.take_zero]; show Lib.IsBuilderF _ _ _ _ (Lib.byteCells (keyK (row.take k) ++ [])) _; rw [List.append_nil]; exact HB.out, HX.out⟩
      case round =>
        obtain ⟨j, hj, rfl, hb, hx⟩ := hrel
        have HB2 := hid hb
        have HX2 := hid hx
        clear hb hx
        have hnl : (numsK (l.take j)).length ≤ (numsK l).length := by
          conv => rhs; rw [← List.take_append_drop j l]
          unfold numsK
          rw [List.flatMap_append, List.length_append]
          omega
        have LEN2 : Hid ((keyK (row.take k) ++ numsK (l.take j)).length ≤ 564672) := hid (by have h5 := LEN.out; rw [HTK.out, List.length_append, List.length_append] at h5; rw [List.length_append]; omega)
        clear hnl
        by_cases hj2 : j < m
        · have hji : (j : Int) < m := by omega
          obtain ⟨x, hxl⟩ : ∃ x, l[j]? = some x := ⟨_, List.getElem?_eq_getElem (by have := HM.out; omega)⟩
          obtain ⟨g2, o2, rfl, _, q2⟩ := (HSL.out.below HX2.out).elem hxl
          replace q2 : wr.cell? ⟨g2, o2 + j, none⟩ = some (.int .i64 x) := q2
          have hxr := RL.out.2 x (List.mem_of_getElem? hxl)
          have HTJ : Hid (keyK (row.take k) ++ numsK (l.take (j + 1)) = keyK (row.take k) ++ numsK (l.take j) ++ numK x) := hid (by rw [List.take_add_one, hxl]; show keyK (row.take k) ++ numsK (l.take j ++ [x]) = _; rw [numsK_snoc, List.append_assoc])
          clear hxl
          go_wp2_with fail
          clear q2
          refine (CI.out x wr hxr.1 hxr.2 HX2.out).mono ?_
          rintro e w1 ⟨rfl, hx⟩
          have HB3 := hid (isBuilder_below HB2.out hx)
          have HX3 := hid (HX2.out.trans (hx.mono HX2.out.size))
          clear hx
          have hlen := Lib.itoa_length_le x (by have := hxr.1; omega) (by have := hxr.2; omega)
          have hl1 : (Lib.itoa x).length + 1 ≤ 9223372036854775807 := by omega
          have hadd : ∀ W, (Op.stringOp .add ⟨(Lib.itoa x).toArray⟩ ⟨#[44]⟩).run Tryz.prog W = .ok (.string ⟨(numK x).toArray⟩) W := fun W => by
            rw [run_string_add_lists (P := Tryz.prog) W (Lib.itoa x) [44] (by omega) (by decide)]
            rfl
          have hnk : (numK x).length ≤ 22 := numK_len x (by have := hxr.1; omega) (by have := hxr.2; omega)
          go_wp2_with fail
          clear hadd
          refine (CW.out _ _ _ _ _ HB3.out (by rw [Lib.byteCells_length]; have h6 := LEN2.out; have : (⟨(numK x).toArray⟩ : ByteArray).size = (numK x).length := by simp [ByteArray.size]
                                               omega) HX3.out.size).mono ?_
          rintro e w2 ⟨rfl, hb, hx⟩
          rw [byteCells_str, ← HTJ.out] at hb
          have HB4 := hid hb
          have HX4 := hid (HX3.out.trans hx)
          clear hb hx
          go_wp2
          exact ⟨⟨j + 1, by omega, by go_num, .inr HB4.out, HX4.out⟩, by simp [intOf]; omega⟩
        · obtain rfl : j = m := by omega
          have hji : ¬ ((j : Int) < j) := by omega
          have htk : l.take j = l := by rw [HM.out, List.take_length]
          rw [htk] at HB2 LEN2
          go_wp2_with fail
          refine (CB.out _ _ _ _ _ HB2.out (by rw [Lib.byteCells_length]; have h6 := LEN2.out; omega) HX2.out.size).mono ?_
          rintro e w2 ⟨rfl, hb, hx⟩
          have hb2 : Lib.BuilderAtF 213 5 w.heap.size w.heap.size (.pointer (some ⟨w.heap.size, 0, none⟩)) (Lib.byteCells (keyK (row.take (k + 1)))) w2 := by
            rw [HTK.out, ← byteCells_one]; exact hb
          have HB4 := hid hb2
          have HX4 := hid (HX2.out.trans hx)
          clear hb hb2 hx
          go_wp2
          exact ⟨⟨k + 1, by omega, by go_num, .inr HB4.out, HX4.out⟩, by simp [intOf]; omega⟩
    · obtain rfl : k = n := by omega
      have hji : ¬ ((k : Int) < k) := by omega
      have htk : row.take k = row := by rw [HN.out, List.take_length]
      rw [htk] at HB
      go_wp2_with fail
      refine (CS.out _ _ _ _ HB.out HX.out.size).mono ?_
      rintro e w2 ⟨rfl, hx⟩
      have HX4 := hid (HX.out.trans hx)
      clear hx
      go_wp2
      go_ret
      exact ⟨by rw [HR.out]; rfl, HX4.out⟩
theorem IsNf.form4 {w : World} {v0 v1 v2 v3 e : Value} {a : NF} (h : IsNf w (.agg #[v0, v1, v2, v3, e]) a) : ∃ a0 n0 c0 a1 n1 c1 a2 n2 c2 a3 n3 c3, v0 = .slice a0 n0 c0 /\ v1 = .slice a1 n1 c1 /\ v2 = .slice a2 n2 c2 /\ v3 = .slice a3 n3 c3 := by
 obtain ⟨u0, u1, u2, u3, e, h0, h1, h2, h3⟩ := h
 obtain ⟨a0, c0, rfl⟩ := h0.1.form
 obtain ⟨a1, c1, rfl⟩ := h1.form
 obtain ⟨a2, c2, rfl⟩ := h2.form
 obtain ⟨a3, c3, rfl⟩ := h3.form
 cases e
 exact ⟨_, _, _, _, _, _, _, _, _, _, _, _, rfl, rfl, rfl, rfl⟩
def IsPts (w : World) (v : Value) (ps : List PT) : Prop := (v = .slice none 0 0 /\ ps = []) \/ ∃ b off cap, v = .slice (some ⟨b, off, none⟩) ps.length cap /\ b < w.heap.size /\ ∀ (i : Nat) (x : PT), ps[i]? = some x ->
 ∃ v0 v1 v2 v3, IsNf w (.agg #[v0, v1, v2, v3, .bool x.nf.emp]) x.nf /\ w.cell? ⟨b, off + i * 7, none⟩ = some v0 /\ w.cell? ⟨b, off + i * 7 + 1, none⟩ = some v1 /\ w.cell? ⟨b, off + i * 7 + 2, none⟩ = some v2 /\ w.cell? ⟨b, off + i * 7 + 3, none⟩ = some v3 /\
  w.cell? ⟨b, off + i * 7 + 4, none⟩ = some (.bool x.nf.emp) /\ w.cell? ⟨b, off + i * 7 + 5, none⟩ = some (.bool x.beg) /\ w.cell? ⟨b, off + i * 7 + 6, none⟩ = some (.int .i64 x.mark)
theorem IsPts.below {w w' : World} {v : Value} {ps : List PT} (h : IsPts w v ps) (hk : Below w.heap.size w w') : IsPts w' v ps := by
 rcases h with h | ⟨b, off, cap, hv, hb, h⟩
 ·exact .inl h
 ·have hc : ∀ j, w'.cell? ⟨b, j, none⟩ = w.cell? ⟨b, j, none⟩ := fun j => (Keeps.of_below hk fun _ h => h : Keeps (· < w.heap.size) w w').cell (p := ⟨b, j, none⟩) hb
  refine .inr ⟨b, off, cap, hv, Nat.lt_of_lt_of_le hb hk.size, fun i x hx => ?_⟩
  obtain ⟨v0, v1, v2, v3, h0, h1, h2, h3, h4, h5, h6, h7⟩ := h i x hx
  exact ⟨v0, v1, v2, v3, h0.below hk, (hc _).trans h1, (hc _).trans h2, (hc _).trans h3, (hc _).trans h4, (hc _).trans h5, (hc _).trans h6, (hc _).trans h7⟩
theorem IsPts.form {w : World} {v : Value} {ps : List PT} (h : IsPts w v ps) : ∃ a cap, v = .slice a ps.length cap := by
 rcases h with ⟨rfl, rfl⟩ | ⟨b, off, cap, rfl, _⟩
 ·exact ⟨_, _, rfl⟩
 ·exact ⟨_, _, rfl⟩
theorem IsPts.elem {w : World} {a : Option Addr} {n cap : Nat} {ps : List PT} (h : IsPts w (.slice a n cap) ps) {i : Nat} {x : PT} (hi : ps[i]? = some x) :
  ∃ b off v0 v1 v2 v3, a = some ⟨b, off, none⟩ /\ b < w.heap.size /\ IsNf w (.agg #[v0, v1, v2, v3, .bool x.nf.emp]) x.nf /\ w.cell? ⟨b, off + i * 7, none⟩ = some v0 /\ w.cell? ⟨b, off + i * 7 + 1, none⟩ = some v1 /\ w.cell? ⟨b, off + i * 7 + 2, none⟩ = some v2 /\ w.cell? ⟨b, off + i * 7 + 3, none⟩ = some v3 /\
  w.cell? ⟨b, off + i * 7 + 4, none⟩ = some (.bool x.nf.emp) /\ w.cell? ⟨b, off + i * 7 + 5, none⟩ = some (.bool x.beg) /\ w.cell? ⟨b, off + i * 7 + 6, none⟩ = some (.int .i64 x.mark) := by
 rcases h with ⟨_, rfl⟩ | ⟨b, off, c, hv, hb, h⟩
 ·simp at hi
 ·cases hv
  obtain ⟨v0, v1, v2, v3, h0, rest⟩ := h i x hi
  exact ⟨b, off, v0, v1, v2, v3, rfl, hb, h0, rest⟩
def PsOk (ps : List PT) : Prop := ps.length <= 64 /\ ∀ x ∈ ps, Nt x.nf /\ SmN x.nf /\ 0 <= x.mark /\ x.mark <= 255
theorem Blk.seven {w : World} {b : Nat} {x y z u t p q : Value} {ty : TypeId} (h : Blk w b #[x, y, z, u, t, p, q] ty) : w.cell? ⟨b, 0, none⟩ = some x /\ w.cell? ⟨b, 1, none⟩ = some y /\ w.cell? ⟨b, 2, none⟩ = some z /\ w.cell? ⟨b, 3, none⟩ = some u /\ w.cell? ⟨b, 4, none⟩ = some t /\ w.cell? ⟨b, 5, none⟩ = some p /\ w.cell? ⟨b, 6, none⟩ = some q :=
 ⟨h.cell 0, h.cell 1, h.cell 2, h.cell 3, h.cell 4, h.cell 5, h.cell 6⟩
def Eff.rowT (base : Nat) (e : TypeId) (size n : Nat) (xs : List Value) (x : Value) : Eff (Move false (fun _ => False)) where
 P := fun v => ∃ a c, v = .tuple #[.slice a n c, x]
 H := fun v W => ∀ u, v = .tuple #[u, x] -> W.ownsRow base e size u n xs
 wit := .tuple #[.slice none n 0, x]
 pw := ⟨none, 0, rfl⟩
 st := fun _ _ _ hm _ h u hu => ownsRow_below (h u hu) hm.below
theorem rowT_form {base : Nat} {e : TypeId} {size n : Nat} {xs : List Value} {x u : Value} {W : World} (h : W.ownsRow base e size u n xs) : ∃ a c, (Value.tuple #[u, x]) = .tuple #[.slice a n c, x] := by
 obtain ⟨a, c, rfl⟩ := ownsRow_form h; exact ⟨a, c, rfl⟩
theorem rowT_keep {base : Nat} {e : TypeId} {size n : Nat} {xs : List Value} {x u : Value} {W : World} (h : W.ownsRow base e size u n xs) : ∀ u', (Value.tuple #[u, x]) = .tuple #[u', x] -> W.ownsRow base e size u' n xs := fun u' e => by cases e; exact h
theorem stepR_get {ps : List PT} {row : List (List Int)} {c i : Nat} {x : PT} {l : List Int} (hx : ps[i]? = some x) (hl : row[i]? = some l) : (stepR ps row c)[i]? = some (x.step l c) := by
 unfold stepR
 rw [List.getElem?_zipWith, hx, hl]
theorem stepR_len {ps : List PT} {row : List (List Int)} (h : row.length = ps.length) (c : Nat) : (stepR ps row c).length = ps.length := by simp [stepR, h]
theorem st_len {a : NF} (rt : Nt a) {l : List Int} (h : a.st l = true) : l.length <= 401 := by
 obtain ⟨h1, h2⟩ := risG_pair h
 have hle := rt.le
 have hn : (l.map fun x => (x + 1).toNat).Nodup := by
  rw [List.nodup_iff_pairwise_ne, List.pairwise_map]
  exact h1.imp_of_mem fun {a b} ha hb hab => by have := h2 a ha; have := h2 b hb; omega
 have := List.Nodup.length_le_of_subset hn (l₂ := List.range 401) fun x hx => by
  obtain ⟨y, hy, rfl⟩ := List.mem_map.1 hx
  have := h2 y hy
  exact List.mem_range.2 (by omega)
 simpa using this
theorem rowIn_K {ps : List PT} (ok : PsOk ps) {row : List (List Int)} (h : RowIn ps row) : RowK row := by
 refine ⟨by rw [h.1]; exact ok.1, fun l hl => ?_⟩
 obtain ⟨i, hi⟩ := List.getElem?_of_mem hl
 have hil := (List.getElem?_eq_some_iff.1 hi).1
 have hx : ps[i]? = some (ps[i]'(by rw [<- h.1]; exact hil)) := List.getElem?_eq_getElem _
 have rt := (ok.2 _ (List.mem_of_getElem? hx)).1
 have hst := h.2 i _ l hx hi
 refine ⟨st_len rt hst, fun x hx => ?_⟩
 have := (risG_pair hst).2 x hx
 have := rt.le
 omega
theorem mstep_any (mb : Nat) (pv lv : Value) (ps : List PT) (ok : PsOk ps) (row : List (List Int)) (hr : RowIn ps row) (c : Nat) (hc : c < 256) (w : World) (hm : w.cell? ⟨mb, 0, none⟩ = some pv) (h : IsPts w pv ps) (hl : IsLL w lv row) :
  Calls Tryz.prog 83 #[.pointer (some ⟨mb, 0, none⟩), lv, .int .u8 c] w fun e w' => ∃ u, e = .returned u /\ OwnLL w.heap.size w' u (stepR ps row c) /\ Below w.heap.size w w' := by
 obtain ⟨iL, hiL, hzL0, hzL1, hzL2⟩ := info_parts Tryz.infoL
 obtain ⟨iI, hiI, hzI0, hzI1, hzI2⟩ := info_parts Tryz.infoI
 obtain ⟨pa, pc, rfl⟩ := h.form
 obtain ⟨la, lc, rfl⟩ := hl.form
 obtain ⟨n, hn⟩ : ∃ n, n = ps.length := ⟨_, rfl⟩
 have hrl := hr.1
 rw [<- hn] at h hm hrl
 rw [hrl] at hl ⊢
 have hn64 : n <= 64 := by rw [hn]; exact ok.1
 have CS : Hid (∀ (i : Nat) (x : PT) (l : List Int) (v u : Value) (W : World), ps[i]? = some x -> row[i]? = some l -> IsNf W v x.nf -> IsSl encZ W u l -> Calls Tryz.prog 121 #[v, u, .int .u8 c] W fun e w' => ∃ r, e = .returned (.tuple #[r, .int .i64 0]) /\ w'.ownsRow W.heap.size 3 1 r (x.nf.step l c).length ((x.nf.step l c).map encZ) /\ Below W.heap.size W w') := hid fun i x l v u W hx hl hv hu => by
  have h2 := ok.2 x (List.mem_of_getElem? hx)
  have hst := hr.2 i x l hx hl
  exact nStep_any v u x.nf h2.1 l hst c hc W hv h2.2.1 hu (Nat.le_trans (st_len h2.1 hst) (by decide))
 have SL : Hid (∀ (i : Nat) (x : PT) (l : List Int), ps[i]? = some x -> (x.nf.step l c).length <= 400) := hid fun i x l hx => by
  have h2 := (ok.2 x (List.mem_of_getElem? hx)).1.le
  unfold NF.step
  rw [List.length_map]
  exact Nat.le_trans (List.length_filter_le _ _) (by simpa using h2)
 have H := hid h
 have HL := hid hl
 have HN := hid hn
 have HRL := hid hrl
 have SLn : Hid ((stepR ps row c).length = n) := hid (by rw [stepR_len hr.1, <- hn])
 have hmb : mb < w.heap.size := World.block_lt_of_cell? _ _ hm
 clear h hl hr hn hrl ok
 go_enter Tryz.func83, Tryz.ntmps83
 go_wp2
 clear hm
 go_loopw [7, 17] (fun ov iv wr => ∃ k : Nat, k <= n /\ iv = .int .i64 k /\ OwnLL w.heap.size wr ov ((stepR ps row c).take k) /\ Below w.heap.size w wr) (fun _ iv _ => n - (intOf iv).toNat)
 case atStart => exact ⟨0, by omega, rfl, OwnLL.nil _ _, Below.refl _ _⟩
 case round =>
  obtain ⟨k, hk, rfl, ho, hx⟩ := hrel
  obtain ⟨wo, rfl⟩ : ∃ wo : World, wo = wr := ⟨_, rfl⟩
  have HO := hid ho
  have HX := hid hx
  clear ho hx
  by_cases hlt : k < n
  ·have hki : (k : Int) < n := by omega
   obtain ⟨x, hx⟩ : ∃ x, ps[k]? = some x := ⟨_, List.getElem?_eq_getElem (by have := HN.out; omega)⟩
   obtain ⟨l, hl⟩ : ∃ l, row[k]? = some l := ⟨_, List.getElem?_eq_getElem (by have := HRL.out; omega)⟩
   obtain ⟨b, off, v0, v1, v2, v3, rfl, hb, hnf, q0, q1, q2, q3, q4, q5, q6⟩ := (H.out.below HX.out).elem hx
   obtain ⟨b2, off2, a', c', rfl, hb2, cl, hsl⟩ := (HL.out.below HX.out).elem hl
   have HXX := hid hx
   have HLL := hid hl
   obtain ⟨x0, n0, c0, x1, n1, c1, x2, n2, c2, x3, n3, c3, rfl, rfl, rfl, rfl⟩ := hnf.form4
   have HNF := hid hnf
   have HSL := hid hsl
   have HTK : Hid ((stepR ps row c).take (k + 1) = (stepR ps row c).take k ++ [x.step l c]) := hid (by rw [List.take_add_one, stepR_get hx hl]; rfl)
   clear hx hl hnf hsl
   obtain ⟨sn, hsn⟩ : ∃ z, z = (x.nf.step l c).length := ⟨_, rfl⟩
   obtain ⟨sx, hsx⟩ : ∃ z, z = (x.nf.step l c).map encZ := ⟨_, rfl⟩
   have CS1 : Hid (∀ (v u : Value) (W : World), IsNf W v x.nf -> IsSl encZ W u l -> Calls Tryz.prog 121 #[v, u, .int .u8 c] W fun e w' => ∃ r, e = .returned (.tuple #[r, .int .i64 0]) /\ w'.ownsRow W.heap.size 3 1 r sn sx /\ Below W.heap.size W w') := hid fun v u W hv hu => by rw [hsn, hsx]; exact CS.out k x l v u W HXX.out HLL.out hv hu
   have hs400 : sn <= 400 := by rw [hsn]; exact SL.out k x l HXX.out
   have HSN := hid hsn
   have HSX := hid hsx
   obtain ⟨ln, hln⟩ : ∃ z, z = l.length := ⟨_, rfl⟩
   rw [<- hln] at cl HSL
   clear hsn hsx hln
   go_wp2
   refine wp_named ?_
   intro V hV
   have BX : Hid (Blk V wo.heap.size #[.slice x0 n0 c0, .slice x1 n1 c1, .slice x2 n2 c2, .slice x3 n3 c3, .bool x.nf.emp, .bool x.beg, .int .i64 x.mark] 46) := hid (by rw [hV]; exact Blk.new wo _ _)
   have XV : Hid (Below wo.heap.size wo V) := hid (by rw [hV]; exact ((Ext.refl wo).alloc _).below)
   have cl2 : V.cell? ⟨b2, off2 + k, none⟩ = some (.slice a' ln c') := ((Keeps.of_below XV.out fun _ h => h : Keeps (· < wo.heap.size) wo V).cell (p := ⟨b2, off2 + k, none⟩) hb2).trans cl
   clear hV q0 q1 q2 q3 q4 q5 q6 cl
   refine wp_region_reg false (fun _ => False) (by kernel_rfl) 12 [0, 1, 0, 0, 12, 28, 0, 127, 255, 511, 511, 1023, 4095] (fun i => i == 7) (by kernel_rfl) (fun i => if i = 7 then Eff.rowT V.heap.size 3 1 sn sx (.int .i64 0) else Eff.any _) ?_
   intro C hC hne
   have HC := hid hC
   have f0 := regCell hC (p := ⟨wo.heap.size, 0, none⟩) BX.out.lt (fun h => h) (BX.out.cell 0)
   have f1 := regCell hC (p := ⟨wo.heap.size, 1, none⟩) BX.out.lt (fun h => h) (BX.out.cell 1)
   have f2 := regCell hC (p := ⟨wo.heap.size, 2, none⟩) BX.out.lt (fun h => h) (BX.out.cell 2)
   have f3 := regCell hC (p := ⟨wo.heap.size, 3, none⟩) BX.out.lt (fun h => h) (BX.out.cell 3)
   have f4 := regCell hC (p := ⟨wo.heap.size, 4, none⟩) BX.out.lt (fun h => h) (BX.out.cell 4)
   have f5 := regCell hC (p := ⟨b2, off2 + k, none⟩) (World.block_lt_of_cell? _ _ cl2) (fun h => h) cl2
   clear hC cl2
   repeat (refine regStep (fun K hK => ?_); first | (refine regN rfl ?_; try go_simp; refine hK _ _ ?_; clear hK K) | (refine regF rfl rfl ?_; unfold floatAt; go_simp; refine hK _ _ ?_; clear hK K))
   refine regStep (fun K hK => ?_)
   refine regE rfl rfl (Eff.rowT V.heap.size 3 1 sn sx (.int .i64 0)) rfl (fun W hW hN => ?_) (fun v hv => ?_)
   ·have hM := (HC.out W).1 hW
    clear hW
    go_simp
    refine effT_call ((CS1.out _ _ _ ((HNF.out.below XV.out).below hM.below) ((HSL.out.below XV.out).below hM.below)).mono ?_)
    rintro e w2 ⟨vp, rfl, ho, hx⟩
    exact ⟨_, rfl, Move.of_below hx, rowT_form ho, rowT_keep (ownsRow_base ho hM.size)⟩
   obtain ⟨ra, rc, rfl⟩ := hv
   go_simp
   refine hK _ _ ?_
   clear hK K
   repeat (refine regStep (fun K hK => ?_); first | (refine regN rfl ?_; try go_simp; refine hK _ _ ?_; clear hK K) | (refine regF rfl rfl ?_; unfold floatAt; go_simp; refine hK _ _ ?_; clear hK K))
   refine regNil (fun W hW hH => ?_)
   have hM := (HC.out W).1 hW
   have R0 : Hid (W.ownsRow V.heap.size 3 1 (.slice ra sn rc) sn sx) := hid ((hH _ (List.mem_of_getElem? (show _ = some _ from rfl : _[0]? = some _))) _ rfl)
   have BW := hid (BX.out.below hM.below BX.out.lt)
   have XW := hid (XV.out.trans (hM.below.mono XV.out.size))
   have hVW := hM.size
   clear hM hW hH HC hne f0 f1 f2 f3 f4 f5
   obtain ⟨i0, i1, i2, i3, i4, i5, i6⟩ := BW.out.seven
   have hszo : w.heap.size <= wo.heap.size := HX.out.size
   have hszW : wo.heap.size < W.heap.size := BW.out.lt
   obtain ⟨us, u1, u2, u3⟩ := HO.out
   obtain ⟨m, hm⟩ : ∃ m, m = us.length := ⟨_, rfl⟩
   have hm64 : m <= 64 := by rw [hm, u1, List.length_take, SLn.out]; omega
   rw [<- hm] at u2
   have HM := hid hm
   obtain ⟨a5, c5, rfl⟩ := ownsRow_form u2
   have U1 := hid u1
   have V2 := hid (ownsRow_below u2 XW.out)
   have V3 := hid fun i u l hu hl => ownsRow_below (u3 i u l hu hl) XW.out
   clear u1 u2 u3 hm
   cases hbg : x.beg with
   | true =>
    rw [hbg] at i5
    have HE : Hid (x.step l c = x.nf.step l c) := hid (by unfold PT.step; rw [hbg]; rfl)
    clear hbg
    have RN : Hid (W.ownsRow w.heap.size 3 1 (.slice ra sn rc) (x.step l c).length ((x.step l c).map encZ)) := hid (by
     rw [HE.out, <- HSN.out, <- HSX.out]
     exact ownsRow_base R0.out (Nat.le_trans hszo XV.out.size))
    go_wp2_with (at_builtin; refine wpList_append_own_at _ rfl (.tmp 39) (.tmp 41) 29 rfl w.heap.size 37 iL (.slice none 0 0) 1 24 Tryz.underlying29 hiL hzL0 hzL1 hzL2 rfl (by decide) _ _ _ rfl (V2.out.alloc _) ⟨W.heap.size, 0, none⟩ 1 1 [.slice ra sn rc] rfl rfl (cell_one _ _ _) (by simp [Value.oneCell']) (by unfold maxLen; omega) (by omega) (by simp; omega) ?_; intro v' w2 hown' hgrow hh hat; have HO2 := hid hown'; have HG := hid hgrow; clear hown' hgrow hh hat)
    go_roundw
    case rel =>
     refine ⟨k + 1, by omega, by go_num, ?_, ?_⟩
     ·rw [HTK.out]
      refine OwnLL.snoc (w := W.alloc (.cells #[.slice ra sn rc] 37)) (v := .slice a5 m c5) (by rw [<- HM.out]; exact HM.out.trans U1.out) (by rw [<- HM.out]; exact V2.out.alloc _) (fun i u l hu hl => (V3.out i u l hu hl).alloc _) (RN.out.alloc _) HG.out (by rw [<- HM.out]; exact HO2.out)
     ·have XX := HX.out.trans (XW.out.mono HX.out.size)
      exact (XX.alloc XX.size _).grown HG.out (by have := XX.size; simp; omega) (fun c e => (V2.out.lt c e).1)
    case measure => simp [intOf]; omega
   | false =>
    rw [hbg] at i5
    have HE : Hid (x.step l c = -1 :: x.nf.step l c) := hid (by unfold PT.step; rw [hbg]; rfl)
    clear hbg
    have O1 : Hid ((W.alloc (.cells #[.int .i64 (-1)] 3)).ownsRow W.heap.size 3 1 (.slice (some ⟨W.heap.size, 0, none⟩) 1 1) 1 [.int .i64 (-1)]) := hid ⟨rfl, .inr ⟨W.heap.size, 1, #[.int .i64 (-1)], rfl, Nat.le_refl _, World.alloc_heap_new _ _, Nat.le_refl _, by unfold maxLen; omega, rfl, rfl⟩⟩
    go_wp2_with (at_builtin; refine Hid.out ?_)
    refine hid ?_
    refine wpList_appendS rfl (.tmp 36) (.tmp 37) 37 rfl W.heap.size 3 iI (.int .i64 0) 1 8 Tryz.underlying37 hiI hzI0 hzI1 hzI2 rfl (by decide) _ 1 _ rfl O1.out _ sn sx rfl (SrcOf.own (R0.out.alloc _)) (by rw [HSX.out, List.length_map, Nat.mul_one]; exact HSN.out.symm) (fun u hu => by rw [HSX.out] at hu; obtain ⟨y, _, rfl⟩ := List.mem_map.1 hu; rfl) (by unfold maxLen; omega) (by omega) (by simp) ?_
    intro v1 w1 hown1 hgrow1
    have XB : Hid (Below W.heap.size W w1) := hid (((Below.refl _ W).alloc (Nat.le_refl _) _).grown hgrow1 (by simp) (fun c e => by have e2 : some W.heap.size = some c := e; injection e2 with e2; omega))
    have hN : 1 + sn = (x.step l c).length := by rw [HE.out, List.length_cons, <- HSN.out]; omega
    have hX : [.int .i64 (-1)] ++ sx = (x.step l c).map encZ := by rw [HE.out, HSX.out]; rfl
    rw [hN, hX] at hown1
    obtain ⟨sm, hsm⟩ : ∃ z, z = (x.step l c).length := ⟨_, rfl⟩
    rw [<- hsm] at hown1
    obtain ⟨a6, c6, rfl⟩ := ownsRow_form hown1
    have RN : Hid (w1.ownsRow w.heap.size 3 1 (.slice a6 sm c6) (x.step l c).length ((x.step l c).map encZ)) := hid (by rw [<- hsm]; exact ownsRow_base hown1 (by omega))
    have Z2 := hid (ownsRow_below V2.out XB.out)
    have Z3 := hid fun i u l hu hl => ownsRow_below (V3.out i u l hu hl) XB.out
    have hw1 := XB.out.size
    clear hown1 hgrow1 hN hX hsm V2 V3 O1
    go_wp2_with (at_builtin; refine wpList_append_own_at _ rfl (.tmp 39) (.tmp 41) 29 rfl w.heap.size 37 iL (.slice none 0 0) 1 24 Tryz.underlying29 hiL hzL0 hzL1 hzL2 rfl (by decide) _ _ _ rfl (Z2.out.alloc _) ⟨w1.heap.size, 0, none⟩ 1 1 [.slice a6 sm c6] rfl rfl (cell_one _ _ _) (by simp [Value.oneCell']) (by unfold maxLen; omega) (by omega) (by simp; omega) ?_; intro v' w2 hown' hgrow hh hat; have HO2 := hid hown'; have HG := hid hgrow; clear hown' hgrow hh hat)
    go_roundw
    case rel =>
     refine ⟨k + 1, by omega, by go_num, ?_, ?_⟩
     ·rw [HTK.out]
      refine OwnLL.snoc (w := w1.alloc (.cells #[.slice a6 sm c6] 37)) (v := .slice a5 m c5) (by rw [<- HM.out]; exact HM.out.trans U1.out) (by rw [<- HM.out]; exact Z2.out.alloc _) (fun i u l hu hl => (Z3.out i u l hu hl).alloc _) (RN.out.alloc _) HG.out (by rw [<- HM.out]; exact HO2.out)
     ·have XX := (HX.out.trans (XW.out.mono HX.out.size)).trans (XB.out.mono (Nat.le_trans HX.out.size XW.out.size))
      exact (XX.alloc XX.size _).grown HG.out (by have := XX.size; simp; omega) (fun c e => (Z2.out.lt c e).1)
    case measure => simp [intOf]; omega
  ·obtain rfl : k = n := by omega
   have hkn : ¬ ((k : Int) < k) := by omega
   have htk : (stepR ps row c).take k = stepR ps row c := by rw [<- SLn.out]; exact List.take_length
   rw [htk] at HO
   go_wp2
   go_ret
   exact ⟨_, rfl, HO.out, HX.out⟩
end Go.Proofs.YtbiboekhakbnpaaGreatDoor
