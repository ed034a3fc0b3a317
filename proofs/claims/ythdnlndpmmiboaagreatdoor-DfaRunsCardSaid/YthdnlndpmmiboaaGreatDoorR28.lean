/-
  dfa.key: the key of a row of state sets, by strings.Builder and strconv.Itoa.
-/
import Derived.Test.YthdnlndpmmiboaaGreatDoorR27
import Derived.Test.YthdnlndpmmiboaaGreatDoorR13
import Derived.Lib.ItoaLen
namespace Go.Proofs.YthdnlndpmmiboaaGreatDoor
open Go Go.RowKit Go.Shelf Go.Maps

/-- The table of strconv. -/
def TabW (W : World) : Prop := Lib.TabIs Tryz.prog W "internal/strconv.uint64pow10" .u64 Lib.pow10Tab
theorem var_keeps {P : Program} {w w' : World} {name : String} (hk : ∀ b, b < w.heap.size → w'.heap[b]? = w.heap[b]?) {x : Array Value} (h : w.var? P name = some x) : w'.var? P name = some x := by
  unfold World.var? at *
  cases hg : P.globalNamed name with
  | none => rw [hg] at h; cases h
  | some g =>
    rw [hg] at h
    simp only [Option.bind_some] at h ⊢
    rcases Nat.lt_or_ge g w.heap.size with h1 | h1
    · rw [hk g h1]; exact h
    · rw [Array.getElem?_eq_none h1] at h; cases h
theorem TabW.below {w w' : World} (h : TabW w) (hk : Below w.heap.size w w') : TabW w' := var_keeps (fun b hb => hk.block b hb) h
theorem numK_len (x : Int) (h0 : -9223372036854775808 ≤ x) (h1 : x ≤ 9223372036854775807) : (numK x).length ≤ 22 := by
  unfold numK
  rw [List.length_append]
  have := Lib.itoa_length_le x h0 h1
  simp; omega
def RowK (row : List (List Int)) : Prop := row.length ≤ 64 ∧ ∀ l ∈ row, l.length ≤ 401 ∧ ∀ x ∈ l, -1 ≤ x ∧ x ≤ 400
theorem numsK_len {l : List Int} (h : ∀ x ∈ l, -1 ≤ x ∧ x ≤ 400) : (numsK l).length ≤ 22 * l.length := by
  induction l with
  | nil => simp [numsK]
  | cons p l ih =>
    rw [numsK_cons, List.length_append, List.length_cons]
    have h1 := numK_len p (by have := (h p (List.mem_cons_self ..)).1; omega) (by have := (h p (List.mem_cons_self ..)).2; omega)
    have h2 := ih fun x hx => h x (List.mem_cons_of_mem _ hx)
    omega
theorem keyK_len {row : List (List Int)} {N : Nat} (h : ∀ l ∈ row, l.length ≤ N ∧ ∀ x ∈ l, -1 ≤ x ∧ x ≤ 400) : (keyK row).length ≤ (22 * N + 1) * row.length := by
  induction row with
  | nil => simp [keyK]
  | cons l row ih =>
    rw [keyK_cons, List.length_append, List.length_cons]
    have h1 := h l (List.mem_cons_self ..)
    have h2 := numsK_len h1.2
    have h3 := ih fun x hx => h x (List.mem_cons_of_mem _ hx)
    have h4 : (listK l).length = (numsK l).length + 1 := by unfold listK; simp
    have h5 : 22 * l.length ≤ 22 * N := Nat.mul_le_mul_left _ h1.1
    rw [Nat.mul_add, Nat.mul_one]
    omega
theorem RowK.len {row : List (List Int)} (h : RowK row) : (keyK row).length ≤ 564672 := by
  have h1 := keyK_len h.2
  have h2 : (22 * 401 + 1) * row.length ≤ (22 * 401 + 1) * 64 := Nat.mul_le_mul_left _ h.1
  omega
theorem RowK.in {row : List (List Int)} (h : RowK row) : KeyIn row := by
  have := h.len
  unfold KeyIn maxLen
  omega
theorem keyK_take_le (row : List (List Int)) (k : Nat) : (keyK (row.take k)).length ≤ (keyK row).length := by
  conv => rhs; rw [← List.take_append_drop k row]
  unfold keyK
  rw [List.flatMap_append, List.length_append]
  omega
theorem keyK_snoc (row : List (List Int)) (l : List Int) : keyK (row ++ [l]) = keyK row ++ numsK l ++ [59] := by
  unfold keyK
  rw [List.flatMap_append]
  simp [listK]
theorem numsK_snoc (l : List Int) (p : Int) : numsK (l ++ [p]) = numsK l ++ numK p := by unfold numsK; rw [List.flatMap_append]; simp
theorem below_grow (n : Nat) (w : World) (k : Nat) (os : Array Obj) (hn : n ≤ w.heap.size) : Below n w (Sort.grow (w.drewN k) os) where
  os := rfl
  tape := rfl
  output := rfl
  size := by unfold Sort.grow; simp [World.drewN]
  block := fun b hb => by unfold Sort.grow; show ((w.drewN k).heap ++ os)[b]? = _; rw [Array.getElem?_append_left (by show b < w.heap.size; omega)]; rfl
theorem isBuilder_below {T e : TypeId} {B b : Nat} {bs : List Value} {w w' : World} (h : Lib.IsBuilderF T e B b bs w) (hk : Below w.heap.size w w') : Lib.IsBuilderF T e B b bs w' := by
  have key : ∀ p, Lib.BuilderAtF T e B b p bs w → Lib.BuilderAtF T e B b p bs w' := fun p h => by
    have hlt := h.lt
    obtain ⟨h1, v, h2, ⟨h3, h4⟩, h5⟩ := h
    refine ⟨h1, v, (hk.block b hlt).trans h2, ⟨h3, ?_⟩, h5⟩
    rcases h4 with h4 | ⟨g, cap, cur, fz, e1, e2, e3, rest⟩
    · exact .inl h4
    · exact .inr ⟨g, cap, cur, fz, e1, e2, (hk.block g (Array.getElem?_eq_some_iff.1 e3).1).trans e3, rest⟩
  exact h.imp (key _) (key _)
theorem byteCells_str (l m : List UInt8) : Lib.byteCells l ++ Lib.strCells ⟨m.toArray⟩ = Lib.byteCells (l ++ m) := by
  unfold Lib.byteCells Lib.strCells
  simp
theorem byteCells_one (l : List UInt8) (c : UInt8) : Lib.byteCells l ++ [.int .u8 c.toNat] = Lib.byteCells (l ++ [c]) := by
  unfold Lib.byteCells
  simp
set_option maxRecDepth 100000 in
set_option maxHeartbeats 4000000 in
theorem key_any (v : Value) (row : List (List Int)) (rk : RowK row) (w : World) (h : IsLL w v row) (htab : ∀ W, Below w.heap.size w W → TabW W) :
    Calls Tryz.prog 93 #[v] w fun e w' => e = .returned (rowK row) ∧ Below w.heap.size w w' := by
  obtain ⟨a, c, rfl⟩ := h.form
  obtain ⟨n, hn⟩ : ∃ n, n = row.length := ⟨_, rfl⟩
  obtain ⟨R, hR⟩ : ∃ R, R = rowK row := ⟨_, rfl⟩
  rw [← hn] at h ⊢
  rw [← hR]
  have hn64 : n ≤ 64 := by rw [hn]; exact rk.1
  have KL := Lib.hid rk.len
  have H := Lib.hid h
  have HN := Lib.hid hn
  have HR := Lib.hid hR
  have HT := Lib.hid htab
  have RK := Lib.hid rk.2
  have CI : Hid (∀ (x : Int) (W : World), -1 ≤ x → x ≤ 400 → Below w.heap.size w W → Calls Tryz.prog 111 #[.int .i64 x] W fun e w' => e = .returned (.string ⟨(Lib.itoa x).toArray⟩) ∧ Below W.heap.size W w') := Lib.hid fun x W h0 h1 hW => (Any.strconv_Itoa Tryz.li171 x (by omega) (by omega) W (htab W hW)).mono fun e w' ⟨he, k, os, hw⟩ => ⟨he, by rw [hw]; exact below_grow _ _ _ _ (Nat.le_refl _)⟩
  have CW : Hid (∀ (B b : Nat) (bs : List Value) (s : ByteArray) (W : World), Lib.IsBuilderF 171 5 B b bs W → bs.length + s.size ≤ 140737488355328 → B ≤ W.heap.size → Calls Tryz.prog 110 #[.pointer (some ⟨b, 0, none⟩), .string s] W fun e w' => e = .returned (.tuple #[.int .i64 s.size, .nilIface]) ∧ (Lib.BuilderAtF 171 5 B b (.pointer (some ⟨b, 0, none⟩)) (bs ++ Lib.strCells s) w' ∧ Below B W w')) := Lib.hid fun B b bs s W h1 h2 h3 => (Any.Builder_WriteString_k Tryz.lb166 Tryz.bx166 B b bs s W h1 h2 h3).mono fun e w' ⟨he, h4, h5, _⟩ => ⟨he, h4, h5⟩
  have CB : Hid (∀ (B b : Nat) (bs : List Value) (x : Int) (W : World), Lib.IsBuilderF 171 5 B b bs W → bs.length + 1 ≤ 140737488355328 → B ≤ W.heap.size → Calls Tryz.prog 112 #[.pointer (some ⟨b, 0, none⟩), .int .u8 x] W fun e w' => e = .returned .nilIface ∧ (Lib.BuilderAtF 171 5 B b (.pointer (some ⟨b, 0, none⟩)) (bs ++ [.int .u8 x]) w' ∧ Below B W w')) := Lib.hid fun B b bs x W h1 h2 h3 => (Any.Builder_WriteByte_k Tryz.lb167 Tryz.bx167 B b bs x W h1 h2 h3).mono fun e w' ⟨he, h4, h5, _⟩ => ⟨he, h4, h5⟩
  have CS : Hid (∀ (B b : Nat) (l : List UInt8) (W : World), Lib.IsBuilderF 171 5 B b (Lib.byteCells l) W → B ≤ W.heap.size → Calls Tryz.prog 113 #[.pointer (some ⟨b, 0, none⟩)] W fun e w' => e = .returned (.string ⟨l.toArray⟩) ∧ Below B W w') := Lib.hid fun B b l W h1 h3 => (Any.Builder_String_any_k Tryz.lb169 Tryz.bx169 B b l W h1 h3).mono fun e w' ⟨he, _, h5, _⟩ => ⟨he, h5⟩
  clear h hn hR htab rk
  go_enter Tryz.func93, Tryz.ntmps93
  go_wp2
  go_loopw [10] (fun iv wr => ∃ k : Nat, k ≤ n ∧ iv = .int .i64 k ∧ Lib.IsBuilderF 171 5 w.heap.size w.heap.size (Lib.byteCells (keyK (row.take k))) wr ∧ Below w.heap.size w wr) (fun iv _ => n - (intOf iv).toNat)
  case atStart =>
    exact ⟨0, by omega, rfl, Lib.IsBuilderF.of (Lib.fresh_isBuilder 171 5 w), ((Ext.refl w).alloc _).below⟩
  case round =>
    obtain ⟨k, hk, rfl, hb, hx⟩ := hrel
    have HB := Lib.hid hb
    have HX := Lib.hid hx
    have hle := keyK_take_le row k
    have HLE := Lib.hid hle
    clear hb hx hle
    obtain ⟨wo, rfl⟩ : ∃ wo : World, wo = wr := ⟨_, rfl⟩
    by_cases hlt : k < n
    · have hki : (k : Int) < n := by omega
      obtain ⟨l, hl⟩ : ∃ l, row[k]? = some l := ⟨_, List.getElem?_eq_getElem (by have := HN.out; omega)⟩
      obtain ⟨b, off, a', c', rfl, hbl, cl, hsl⟩ := H.out.elem hl
      have cl2 : wo.cell? ⟨b, off + k, none⟩ = some (.slice a' l.length c') := ((Keeps.of_below HX.out fun _ h => h : Keeps (· < w.heap.size) w wo).cell (p := ⟨b, off + k, none⟩) hbl).trans cl
      have HSL := Lib.hid hsl
      have RL := Lib.hid (RK.out l (List.mem_of_getElem? hl))
      have HTK : Hid (keyK (row.take (k + 1)) = keyK (row.take k) ++ numsK l ++ [59]) := Lib.hid (by rw [List.take_add_one, hl]; exact keyK_snoc _ _)
      have LEN : Hid ((keyK (row.take (k + 1))).length ≤ 564672) := Lib.hid (Nat.le_trans (keyK_take_le row (k + 1)) KL.out)
      obtain ⟨m, hm⟩ : ∃ m, m = l.length := ⟨_, rfl⟩
      have hm401 : m ≤ 401 := by rw [hm]; exact RL.out.1
      have HM := Lib.hid hm
      rw [← hm] at cl2 HSL
      clear hsl hl hm cl
      go_wp2
      clear cl2
      go_loopw [16] (fun iv wi => ∃ j : Nat, j ≤ m ∧ iv = .int .i64 j ∧ Lib.IsBuilderF 171 5 w.heap.size w.heap.size (Lib.byteCells (keyK (row.take k) ++ numsK (l.take j))) wi ∧ Below w.heap.size w wi) (fun iv _ => m - (intOf iv).toNat)
      case atStart =>
        exact ⟨0, by omega, rfl, by rw [List.take_zero]; show Lib.IsBuilderF _ _ _ _ (Lib.byteCells (keyK (row.take k) ++ [])) _; rw [List.append_nil]; exact HB.out, HX.out⟩
      case round =>
        obtain ⟨j, hj, rfl, hb, hx⟩ := hrel
        have HB2 := Lib.hid hb
        have HX2 := Lib.hid hx
        clear hb hx
        have hnl : (numsK (l.take j)).length ≤ (numsK l).length := by
          conv => rhs; rw [← List.take_append_drop j l]
          unfold numsK
          rw [List.flatMap_append, List.length_append]
          omega
        have LEN2 : Hid ((keyK (row.take k) ++ numsK (l.take j)).length ≤ 564672) := Lib.hid (by have h5 := LEN.out; rw [HTK.out, List.length_append, List.length_append] at h5; rw [List.length_append]; omega)
        clear hnl
        by_cases hj2 : j < m
        · have hji : (j : Int) < m := by omega
          obtain ⟨x, hxl⟩ : ∃ x, l[j]? = some x := ⟨_, List.getElem?_eq_getElem (by have := HM.out; omega)⟩
          obtain ⟨g2, o2, rfl, _, q2⟩ := (HSL.out.below HX2.out).elem hxl
          replace q2 : wr.cell? ⟨g2, o2 + j, none⟩ = some (.int .i64 x) := q2
          have hxr := RL.out.2 x (List.mem_of_getElem? hxl)
          have HTJ : Hid (keyK (row.take k) ++ numsK (l.take (j + 1)) = keyK (row.take k) ++ numsK (l.take j) ++ numK x) := Lib.hid (by rw [List.take_add_one, hxl]; show keyK (row.take k) ++ numsK (l.take j ++ [x]) = _; rw [numsK_snoc, List.append_assoc])
          clear hxl
          go_wp2_with fail
          clear q2
          refine (CI.out x wr hxr.1 hxr.2 HX2.out).mono ?_
          rintro e w1 ⟨rfl, hx⟩
          have HB3 := Lib.hid (isBuilder_below HB2.out hx)
          have HX3 := Lib.hid (HX2.out.trans (hx.mono HX2.out.size))
          clear hx
          have hlen := Lib.itoa_length_le x (by have := hxr.1; omega) (by have := hxr.2; omega)
          have hl1 : (Lib.itoa x).length + 1 ≤ 9223372036854775807 := by omega
          have hadd : ∀ W, (Op.stringOp .add ⟨(Lib.itoa x).toArray⟩ ⟨#[44]⟩).run Tryz.prog W = .ok (.string ⟨(numK x).toArray⟩) W := fun W => by
            rw [run_string_add_lists (P := Tryz.prog) W (Lib.itoa x) [44] (by omega) (by decide)]
            rfl
          have hnk : (numK x).length ≤ 22 := numK_len x (by have := hxr.1; omega) (by have := hxr.2; omega)
          go_wp2_with fail
          clear hadd
          refine (CW.out _ _ _ _ _ HB3.out (by rw [Lib.byteCells_length]; have h6 := LEN2.out; have : (⟨(numK x).toArray⟩ : ByteArray).size = (numK x).length := by simp [ByteArray.size]
                                               omega) HX3.out.size).mono ?_
          rintro e w2 ⟨rfl, hb, hx⟩
          rw [byteCells_str, ← HTJ.out] at hb
          have HB4 := Lib.hid hb
          have HX4 := Lib.hid (HX3.out.trans hx)
          clear hb hx
          go_wp2
          exact ⟨⟨j + 1, by omega, by go_num, .inr HB4.out, HX4.out⟩, by simp [intOf]; omega⟩
        · obtain rfl : j = m := by omega
          have hji : ¬ ((j : Int) < j) := by omega
          have htk : l.take j = l := by rw [HM.out, List.take_length]
          rw [htk] at HB2 LEN2
          go_wp2_with fail
          refine (CB.out _ _ _ _ _ HB2.out (by rw [Lib.byteCells_length]; have h6 := LEN2.out; omega) HX2.out.size).mono ?_
          rintro e w2 ⟨rfl, hb, hx⟩
          have hb2 : Lib.BuilderAtF 171 5 w.heap.size w.heap.size (.pointer (some ⟨w.heap.size, 0, none⟩)) (Lib.byteCells (keyK (row.take (k + 1)))) w2 := by
            rw [HTK.out, ← byteCells_one]; exact hb
          have HB4 := Lib.hid hb2
          have HX4 := Lib.hid (HX2.out.trans hx)
          clear hb hb2 hx
          go_wp2
          exact ⟨⟨k + 1, by omega, by go_num, .inr HB4.out, HX4.out⟩, by simp [intOf]; omega⟩
    · obtain rfl : k = n := by omega
      have hji : ¬ ((k : Int) < k) := by omega
      have htk : row.take k = row := by rw [HN.out, List.take_length]
      rw [htk] at HB
      go_wp2_with fail
      refine (CS.out _ _ _ _ HB.out HX.out.size).mono ?_
      rintro e w2 ⟨rfl, hx⟩
      have HX4 := Lib.hid (HX.out.trans hx)
      clear hx
      go_wp2
      go_ret
      exact ⟨by rw [HR.out]; rfl, HX4.out⟩
end Go.Proofs.YthdnlndpmmiboaaGreatDoor
