/-
  dfa.key: the key of a row of state sets, by strings.Builder and strconv.Itoa.
  Parts in memory; what a step of the maker leads to.
  The reference's step of an automaton of positions, as it is reckoned; no program.
-/
import Derived.Test.YthdnlndpmmiboaaGreatDoorM26
import Derived.Test.YthdnlndpmmiboaaGreatDoorM12
import Derived.Lib.ItoaLen
import Derived.Test.YthdnlndpmmiboaaGreatDoorM25
import Derived.Test.YthdnlndpmmiboaaGreatDoorM19
import Derived.Test.YthdnlndpmmiboaaGreatDoorM23
namespace Go.Proofs.YthdnlndpmmiboaaGreatDoor
open Go Go.RowKit Go.Shelf Go.Maps

/-- The table of strconv. -/
def TabW (W : World) : Prop := Lib.TabIs Tryz.prog W "internal/strconv.uint64pow10" .u64 Lib.pow10Tab
theorem var_keeps {P : Program} {w w' : World} {name : String} (hk : ∀ b, b < w.heap.size → w'.heap[b]? = w.heap[b]?) {x : Array Value} (h : w.var? P name = some x) : w'.var? P name = some x := by
  unfold World.var? at *
  cases hg : P.globalNamed name with
  | none => rw [hg] at h; cases h
  | some g =>
    rw [hg] at h
    simp only [Option.bind_some] at h ⊢
    rcases Nat.lt_or_ge g w.heap.size with h1 | h1
    · rw [hk g h1]; exact h
    · rw [Array.getElem?_eq_none h1] at h; cases h
theorem TabW.below {w w' : World} (h : TabW w) (hk : Below w.heap.size w w') : TabW w' := var_keeps (fun b hb => hk.block b hb) h
theorem numK_len (x : Int) (h0 : -9223372036854775808 ≤ x) (h1 : x ≤ 9223372036854775807) : (numK x).length ≤ 22 := by
  unfold numK
  rw [List.length_append]
  have := Lib.itoa_length_le x h0 h1
  simp; omega
def RowK (row : List (List Int)) : Prop := row.length ≤ 64 ∧ ∀ l ∈ row, l.length ≤ 401 ∧ ∀ x ∈ l, -1 ≤ x ∧ x ≤ 400
theorem numsK_len {l : List Int} (h : ∀ x ∈ l, -1 ≤ x ∧ x ≤ 400) : (numsK l).length ≤ 22 * l.length := by
  induction l with
  | nil => simp [numsK]
  | cons p l ih =>
    rw [numsK_cons, List.length_append, List.length_cons]
    have h1 := numK_len p (by have := (h p (List.mem_cons_self ..)).1; omega) (by have := (h p (List.mem_cons_self ..)).2; omega)
    have h2 := ih fun x hx => h x (List.mem_cons_of_mem _ hx)
    omega
theorem keyK_len {row : List (List Int)} {N : Nat} (h : ∀ l ∈ row, l.length ≤ N ∧ ∀ x ∈ l, -1 ≤ x ∧ x ≤ 400) : (keyK row).length ≤ (22 * N + 1) * row.length := by
  induction row with
  | nil => simp [keyK]
  | cons l row ih =>
    rw [keyK_cons, List.length_append, List.length_cons]
    have h1 := h l (List.mem_cons_self ..)
    have h2 := numsK_len h1.2
    have h3 := ih fun x hx => h x (List.mem_cons_of_mem _ hx)
    have h4 : (listK l).length = (numsK l).length + 1 := by unfold listK; simp
    have h5 : 22 * l.length ≤ 22 * N := Nat.mul_le_mul_left _ h1.1
    rw [Nat.mul_add, Nat.mul_one]
    omega
theorem RowK.len {row : List (List Int)} (h : RowK row) : (keyK row).length ≤ 564672 := by
  have h1 := keyK_len h.2
  have h2 : (22 * 401 + 1) * row.length ≤ (22 * 401 + 1) * 64 := Nat.mul_le_mul_left _ h.1
  omega
theorem RowK.in {row : List (List Int)} (h : RowK row) : KeyIn row := by
  have := h.len
  unfold KeyIn maxLen
  omega
theorem keyK_take_le (row : List (List Int)) (k : Nat) : (keyK (row.take k)).length ≤ (keyK row).length := by
  conv => rhs; rw [← List.take_append_drop k row]
  unfold keyK
  rw [List.flatMap_append, List.length_append]
  omega
theorem keyK_snoc (row : List (List Int)) (l : List Int) : keyK (row ++ [l]) = keyK row ++ numsK l ++ [59] := by
  unfold keyK
  rw [List.flatMap_append]
  simp [listK]
theorem numsK_snoc (l : List Int) (p : Int) : numsK (l ++ [p]) = numsK l ++ numK p := by unfold numsK; rw [List.flatMap_append]; simp
theorem below_grow (n : Nat) (w : World) (k : Nat) (os : Array Obj) (hn : n ≤ w.heap.size) : Below n w (Sort.grow (w.drewN k) os) where
  os := rfl
  tape := rfl
  output := rfl
  size := by unfold Sort.grow; simp [World.drewN]
  block := fun b hb => by unfold Sort.grow; show ((w.drewN k).heap ++ os)[b]? = _; rw [Array.getElem?_append_left (by show b < w.heap.size; omega)]; rfl
theorem isBuilder_below {T e : TypeId} {B b : Nat} {bs : List Value} {w w' : World} (h : Lib.IsBuilderF T e B b bs w) (hk : Below w.heap.size w w') : Lib.IsBuilderF T e B b bs w' := by
  have key : ∀ p, Lib.BuilderAtF T e B b p bs w → Lib.BuilderAtF T e B b p bs w' := fun p h => by
    have hlt := h.lt
    obtain ⟨h1, v, h2, ⟨h3, h4⟩, h5⟩ := h
    refine ⟨h1, v, (hk.block b hlt).trans h2, ⟨h3, ?_⟩, h5⟩
    rcases h4 with h4 | ⟨g, cap, cur, fz, e1, e2, e3, rest⟩
    · exact .inl h4
    · exact .inr ⟨g, cap, cur, fz, e1, e2, (hk.block g (Array.getElem?_eq_some_iff.1 e3).1).trans e3, rest⟩
  exact h.imp (key _) (key _)
theorem byteCells_str (l m : List UInt8) : Lib.byteCells l ++ Lib.strCells ⟨m.toArray⟩ = Lib.byteCells (l ++ m) := by
  unfold Lib.byteCells Lib.strCells
  simp
theorem byteCells_one (l : List UInt8) (c : UInt8) : Lib.byteCells l ++ [.int .u8 c.toNat] = Lib.byteCells (l ++ [c]) := by
  unfold Lib.byteCells
  simp
set_option maxRecDepth 100000 in
set_option maxHeartbeats 4000000 in
theorem key_any (v : Value) (row : List (List Int)) (rk : RowK row) (w : World) (h : IsLL w v row) (htab : ∀ W, Below w.heap.size w W → TabW W) :
    Calls Tryz.prog 93 #[v] w fun e w' => e = .returned (rowK row) ∧ Below w.heap.size w w' := by
  obtain ⟨a, c, rfl⟩ := h.form
  obtain ⟨n, hn⟩ : ∃ n, n = row.length := ⟨_, rfl⟩
  obtain ⟨R, hR⟩ : ∃ R, R = rowK row := ⟨_, rfl⟩
  rw [← hn] at h ⊢
  rw [← hR]
  have hn64 : n ≤ 64 := by rw [hn]; exact rk.1
  have KL := Lib.hid rk.len
  have H := Lib.hid h
  have HN := Lib.hid hn
  have HR := Lib.hid hR
  have HT := Lib.hid htab
  have RK := Lib.hid rk.2
  have CI : Hid (∀ (x : Int) (W : World), -1 ≤ x → x ≤ 400 → Below w.heap.size w W → Calls Tryz.prog 111 #[.int .i64 x] W fun e w' => e = .returned (.string ⟨(Lib.itoa x).toArray⟩) ∧ Below W.heap.size W w') := Lib.hid fun x W h0 h1 hW => (Any.strconv_Itoa Tryz.li171 x (by omega) (by omega) W (htab W hW)).mono fun e w' ⟨he, k, os, hw⟩ => ⟨he, by rw [hw]; exact below_grow _ _ _ _ (Nat.le_refl _)⟩
  have CW : Hid (∀ (B b : Nat) (bs : List Value) (s : ByteArray) (W : World), Lib.IsBuilderF 171 5 B b bs W → bs.length + s.size ≤ 140737488355328 → B ≤ W.heap.size → Calls Tryz.prog 110 #[.pointer (some ⟨b, 0, none⟩), .string s] W fun e w' => e = .returned (.tuple #[.int .i64 s.size, .nilIface]) ∧ (Lib.BuilderAtF 171 5 B b (.pointer (some ⟨b, 0, none⟩)) (bs ++ Lib.strCells s) w' ∧ Below B W w')) := Lib.hid fun B b bs s W h1 h2 h3 => (Any.Builder_WriteString_k Tryz.lb166 Tryz.bx166 B b bs s W h1 h2 h3).mono fun e w' ⟨he, h4, h5, _⟩ => ⟨he, h4, h5⟩
  have CB : Hid (∀ (B b : Nat) (bs : List Value) (x : Int) (W : World), Lib.IsBuilderF 171 5 B b bs W → bs.length + 1 ≤ 140737488355328 → B ≤ W.heap.size → Calls Tryz.prog 112 #[.pointer (some ⟨b, 0, none⟩), .int .u8 x] W fun e w' => e = .returned .nilIface ∧ (Lib.BuilderAtF 171 5 B b (.pointer (some ⟨b, 0, none⟩)) (bs ++ [.int .u8 x]) w' ∧ Below B W w')) := Lib.hid fun B b bs x W h1 h2 h3 => (Any.Builder_WriteByte_k Tryz.lb167 Tryz.bx167 B b bs x W h1 h2 h3).mono fun e w' ⟨he, h4, h5, _⟩ => ⟨he, h4, h5⟩
  have CS : Hid (∀ (B b : Nat) (l : List UInt8) (W : World), Lib.IsBuilderF 171 5 B b (Lib.byteCells l) W → B ≤ W.heap.size → Calls Tryz.prog 113 #[.pointer (some ⟨b, 0, none⟩)] W fun e w' => e = .returned (.string ⟨l.toArray⟩) ∧ Below B W w') := Lib.hid fun B b l W h1 h3 => (Any.Builder_String_any_k Tryz.lb169 Tryz.bx169 B b l W h1 h3).mono fun e w' ⟨he, _, h5, _⟩ => ⟨he, h5⟩
  clear h hn hR htab rk
  go_enter Tryz.func93, Tryz.ntmps93
  go_wp2
  go_loopw [10] (fun iv wr => ∃ k : Nat, k ≤ n ∧ iv = .int .i64 k ∧ Lib.IsBuilderF 171 5 w.heap.size w.heap.size (Lib.byteCells (keyK (row.take k))) wr ∧ Below w.heap.size w wr) (fun iv _ => n - (intOf iv).toNat)
  case atStart =>
    exact ⟨0, by omega, rfl, Lib.IsBuilderF.of (Lib.fresh_isBuilder 171 5 w), ((Ext.refl w).alloc _).below⟩
  case round =>
    obtain ⟨k, hk, rfl, hb, hx⟩ := hrel
    have HB := Lib.hid hb
    have HX := Lib.hid hx
    have hle := keyK_take_le row k
    have HLE := Lib.hid hle
    clear hb hx hle
    obtain ⟨wo, rfl⟩ : ∃ wo : World, wo = wr := ⟨_, rfl⟩
    by_cases hlt : k < n
    · have hki : (k : Int) < n := by omega
      obtain ⟨l, hl⟩ : ∃ l, row[k]? = some l := ⟨_, List.getElem?_eq_getElem (by have := HN.out; omega)⟩
      obtain ⟨b, off, a', c', rfl, hbl, cl, hsl⟩ := H.out.elem hl
      have cl2 : wo.cell? ⟨b, off + k, none⟩ = some (.slice a' l.length c') := ((Keeps.of_below HX.out fun _ h => h : Keeps (· < w.heap.size) w wo).cell (p := ⟨b, off + k, none⟩) hbl).trans cl
      have HSL := Lib.hid hsl
      have RL := Lib.hid (RK.out l (List.mem_of_getElem? hl))
      have HTK : Hid (keyK (row.take (k + 1)) = keyK (row.take k) ++ numsK l ++ [59]) := Lib.hid (by rw [List.take_add_one, hl]; exact keyK_snoc _ _)
      have LEN : Hid ((keyK (row.take (k + 1))).length ≤ 564672) := Lib.hid (Nat.le_trans (keyK_take_le row (k + 1)) KL.out)
      obtain ⟨m, hm⟩ : ∃ m, m = l.length := ⟨_, rfl⟩
      have hm401 : m ≤ 401 := by rw [hm]; exact RL.out.1
      have HM := Lib.hid hm
      rw [← hm] at cl2 HSL
      clear hsl hl hm cl
      go_wp2
      clear cl2
      go_loopw [16] (fun iv wi => ∃ j : Nat, j ≤ m ∧ iv = .int .i64 j ∧ Lib.IsBuilderF 171 5 w.heap.size w.heap.size (Lib.byteCells (keyK (row.take k) ++ numsK (l.take j))) wi ∧ Below w.heap.size w wi) (fun iv _ => m - (intOf iv).toNat)
      case atStart =>
        exact ⟨0, by omega, rfl, by rw [List.take_zero]; show Lib.IsBuilderF _ _ _ _ (Lib.byteCells (keyK (row.take k) ++ [])) _; rw [List.append_nil]; exact HB.out, HX.out⟩
      case round =>
        obtain ⟨j, hj, rfl, hb, hx⟩ := hrel
        have HB2 := Lib.hid hb
        have HX2 := Lib.hid hx
        clear hb hx
        have hnl : (numsK (l.take j)).length ≤ (numsK l).length := by
          conv => rhs; rw [← List.take_append_drop j l]
          unfold numsK
          rw [List.flatMap_append, List.length_append]
          omega
        have LEN2 : Hid ((keyK (row.take k) ++ numsK (l.take j)).length ≤ 564672) := Lib.hid (by have h5 := LEN.out; rw [HTK.out, List.length_append, List.length_append] at h5; rw [List.length_append]; omega)
        clear hnl
        by_cases hj2 : j < m
        · have hji : (j : Int) < m := by omega
          obtain ⟨x, hxl⟩ : ∃ x, l[j]? = some x := ⟨_, List.getElem?_eq_getElem (by have := HM.out; omega)⟩
          obtain ⟨g2, o2, rfl, _, q2⟩ := (HSL.out.below HX2.out).elem hxl
          replace q2 : wr.cell? ⟨g2, o2 + j, none⟩ = some (.int .i64 x) := q2
          have hxr := RL.out.2 x (List.mem_of_getElem? hxl)
          have HTJ : Hid (keyK (row.take k) ++ numsK (l.take (j + 1)) = keyK (row.take k) ++ numsK (l.take j) ++ numK x) := Lib.hid (by rw [List.take_add_one, hxl]; show keyK (row.take k) ++ numsK (l.take j ++ [x]) = _; rw [numsK_snoc, List.append_assoc])
          clear hxl
          go_wp2_with fail
          clear q2
          refine (CI.out x wr hxr.1 hxr.2 HX2.out).mono ?_
          rintro e w1 ⟨rfl, hx⟩
          have HB3 := Lib.hid (isBuilder_below HB2.out hx)
          have HX3 := Lib.hid (HX2.out.trans (hx.mono HX2.out.size))
          clear hx
          have hlen := Lib.itoa_length_le x (by have := hxr.1; omega) (by have := hxr.2; omega)
          have hl1 : (Lib.itoa x).length + 1 ≤ 9223372036854775807 := by omega
          have hadd : ∀ W, (Op.stringOp .add ⟨(Lib.itoa x).toArray⟩ ⟨#[44]⟩).run Tryz.prog W = .ok (.string ⟨(numK x).toArray⟩) W := fun W => by
            rw [run_string_add_lists (P := Tryz.prog) W (Lib.itoa x) [44] (by omega) (by decide)]
            rfl
          have hnk : (numK x).length ≤ 22 := numK_len x (by have := hxr.1; omega) (by have := hxr.2; omega)
          go_wp2_with fail
          clear hadd
          refine (CW.out _ _ _ _ _ HB3.out (by rw [Lib.byteCells_length]; have h6 := LEN2.out; have : (⟨(numK x).toArray⟩ : ByteArray).size = (numK x).length := by simp [ByteArray.size]
                                               omega) HX3.out.size).mono ?_
          rintro e w2 ⟨rfl, hb, hx⟩
          rw [byteCells_str, ← HTJ.out] at hb
          have HB4 := Lib.hid hb
          have HX4 := Lib.hid (HX3.out.trans hx)
          clear hb hx
          go_wp2
          exact ⟨⟨j + 1, by omega, by go_num, .inr HB4.out, HX4.out⟩, by simp [intOf]; omega⟩
        · obtain rfl : j = m := by omega
          have hji : ¬ ((j : Int) < j) := by omega
          have htk : l.take j = l := by rw [HM.out, List.take_length]
          rw [htk] at HB2 LEN2
          go_wp2_with fail
          refine (CB.out _ _ _ _ _ HB2.out (by rw [Lib.byteCells_length]; have h6 := LEN2.out; omega) HX2.out.size).mono ?_
          rintro e w2 ⟨rfl, hb, hx⟩
          have hb2 : Lib.BuilderAtF 171 5 w.heap.size w.heap.size (.pointer (some ⟨w.heap.size, 0, none⟩)) (Lib.byteCells (keyK (row.take (k + 1)))) w2 := by
            rw [HTK.out, ← byteCells_one]; exact hb
          have HB4 := Lib.hid hb2
          have HX4 := Lib.hid (HX2.out.trans hx)
          clear hb hb2 hx
          go_wp2
          exact ⟨⟨k + 1, by omega, by go_num, .inr HB4.out, HX4.out⟩, by simp [intOf]; omega⟩
    · obtain rfl : k = n := by omega
      have hji : ¬ ((k : Int) < k) := by omega
      have htk : row.take k = row := by rw [HN.out, List.take_length]
      rw [htk] at HB
      go_wp2_with fail
      refine (CS.out _ _ _ _ HB.out HX.out.size).mono ?_
      rintro e w2 ⟨rfl, hx⟩
      have HX4 := Lib.hid (HX.out.trans hx)
      clear hx
      go_wp2
      go_ret
      exact ⟨by rw [HR.out]; rfl, HX4.out⟩
end Go.Proofs.YthdnlndpmmiboaaGreatDoor
namespace Go.Proofs.YthdnlndpmmiboaaGreatDoor
open Go Go.RowKit Go.Shelf Go.Maps

theorem IsNf.form4 {w : World} {v0 v1 v2 v3 e : Value} {a : NF} (h : IsNf w (.agg #[v0, v1, v2, v3, e]) a) : ∃ a0 n0 c0 a1 n1 c1 a2 n2 c2 a3 n3 c3, v0 = .slice a0 n0 c0 ∧ v1 = .slice a1 n1 c1 ∧ v2 = .slice a2 n2 c2 ∧ v3 = .slice a3 n3 c3 := by
  obtain ⟨u0, u1, u2, u3, e, h0, h1, h2, h3⟩ := h
  obtain ⟨a0, c0, rfl⟩ := h0.1.form
  obtain ⟨a1, c1, rfl⟩ := h1.form
  obtain ⟨a2, c2, rfl⟩ := h2.form
  obtain ⟨a3, c3, rfl⟩ := h3.form
  cases e
  exact ⟨_, _, _, _, _, _, _, _, _, _, _, _, rfl, rfl, rfl, rfl⟩
/-- A slice of parts, to be read. -/
def IsPts (w : World) (v : Value) (ps : List PT) : Prop := (v = .slice none 0 0 ∧ ps = []) ∨ ∃ b off cap, v = .slice (some ⟨b, off, none⟩) ps.length cap ∧ b < w.heap.size ∧ ∀ (i : Nat) (x : PT), ps[i]? = some x →
  ∃ v0 v1 v2 v3, IsNf w (.agg #[v0, v1, v2, v3, .bool x.nf.emp]) x.nf ∧ w.cell? ⟨b, off + i * 7, none⟩ = some v0 ∧ w.cell? ⟨b, off + i * 7 + 1, none⟩ = some v1 ∧ w.cell? ⟨b, off + i * 7 + 2, none⟩ = some v2 ∧ w.cell? ⟨b, off + i * 7 + 3, none⟩ = some v3 ∧
    w.cell? ⟨b, off + i * 7 + 4, none⟩ = some (.bool x.nf.emp) ∧ w.cell? ⟨b, off + i * 7 + 5, none⟩ = some (.bool x.beg) ∧ w.cell? ⟨b, off + i * 7 + 6, none⟩ = some (.int .i64 x.mark)
theorem IsPts.below {w w' : World} {v : Value} {ps : List PT} (h : IsPts w v ps) (hk : Below w.heap.size w w') : IsPts w' v ps := by
  rcases h with h | ⟨b, off, cap, hv, hb, h⟩
  · exact .inl h
  · have hc : ∀ j, w'.cell? ⟨b, j, none⟩ = w.cell? ⟨b, j, none⟩ := fun j => (Keeps.of_below hk fun _ h => h : Keeps (· < w.heap.size) w w').cell (p := ⟨b, j, none⟩) hb
    refine .inr ⟨b, off, cap, hv, Nat.lt_of_lt_of_le hb hk.size, fun i x hx => ?_⟩
    obtain ⟨v0, v1, v2, v3, h0, h1, h2, h3, h4, h5, h6, h7⟩ := h i x hx
    exact ⟨v0, v1, v2, v3, h0.below hk, (hc _).trans h1, (hc _).trans h2, (hc _).trans h3, (hc _).trans h4, (hc _).trans h5, (hc _).trans h6, (hc _).trans h7⟩
theorem IsPts.form {w : World} {v : Value} {ps : List PT} (h : IsPts w v ps) : ∃ a cap, v = .slice a ps.length cap := by
  rcases h with ⟨rfl, rfl⟩ | ⟨b, off, cap, rfl, _⟩
  · exact ⟨_, _, rfl⟩
  · exact ⟨_, _, rfl⟩
theorem IsPts.elem {w : World} {a : Option Addr} {n cap : Nat} {ps : List PT} (h : IsPts w (.slice a n cap) ps) {i : Nat} {x : PT} (hi : ps[i]? = some x) :
    ∃ b off v0 v1 v2 v3, a = some ⟨b, off, none⟩ ∧ b < w.heap.size ∧ IsNf w (.agg #[v0, v1, v2, v3, .bool x.nf.emp]) x.nf ∧ w.cell? ⟨b, off + i * 7, none⟩ = some v0 ∧ w.cell? ⟨b, off + i * 7 + 1, none⟩ = some v1 ∧ w.cell? ⟨b, off + i * 7 + 2, none⟩ = some v2 ∧ w.cell? ⟨b, off + i * 7 + 3, none⟩ = some v3 ∧
    w.cell? ⟨b, off + i * 7 + 4, none⟩ = some (.bool x.nf.emp) ∧ w.cell? ⟨b, off + i * 7 + 5, none⟩ = some (.bool x.beg) ∧ w.cell? ⟨b, off + i * 7 + 6, none⟩ = some (.int .i64 x.mark) := by
  rcases h with ⟨_, rfl⟩ | ⟨b, off, c, hv, hb, h⟩
  · simp at hi
  · cases hv
    obtain ⟨v0, v1, v2, v3, h0, rest⟩ := h i x hi
    exact ⟨b, off, v0, v1, v2, v3, rfl, hb, h0, rest⟩
/-- All parts are right, and not too large. -/
def PsOk (ps : List PT) : Prop := ps.length ≤ 64 ∧ ∀ x ∈ ps, Nt x.nf ∧ SmN x.nf ∧ 0 ≤ x.mark ∧ x.mark ≤ 255
theorem Blk.seven {w : World} {b : Nat} {x y z u t p q : Value} {ty : TypeId} (h : Blk w b #[x, y, z, u, t, p, q] ty) : w.cell? ⟨b, 0, none⟩ = some x ∧ w.cell? ⟨b, 1, none⟩ = some y ∧ w.cell? ⟨b, 2, none⟩ = some z ∧ w.cell? ⟨b, 3, none⟩ = some u ∧ w.cell? ⟨b, 4, none⟩ = some t ∧ w.cell? ⟨b, 5, none⟩ = some p ∧ w.cell? ⟨b, 6, none⟩ = some q :=
  ⟨h.cell 0, h.cell 1, h.cell 2, h.cell 3, h.cell 4, h.cell 5, h.cell 6⟩
/-- A row, in a tuple with something else. -/
def Eff.rowT (base : Nat) (e : TypeId) (size n : Nat) (xs : List Value) (x : Value) : Eff (Move false (fun _ => False)) where
  P := fun v => ∃ a c, v = .tuple #[.slice a n c, x]
  H := fun v W => ∀ u, v = .tuple #[u, x] → W.ownsRow base e size u n xs
  wit := .tuple #[.slice none n 0, x]
  pw := ⟨none, 0, rfl⟩
  st := fun _ _ _ hm _ h u hu => ownsRow_below (h u hu) hm.below
theorem rowT_form {base : Nat} {e : TypeId} {size n : Nat} {xs : List Value} {x u : Value} {W : World} (h : W.ownsRow base e size u n xs) : ∃ a c, (Value.tuple #[u, x]) = .tuple #[.slice a n c, x] := by
  obtain ⟨a, c, rfl⟩ := ownsRow_form h; exact ⟨a, c, rfl⟩
theorem rowT_keep {base : Nat} {e : TypeId} {size n : Nat} {xs : List Value} {x u : Value} {W : World} (h : W.ownsRow base e size u n xs) : ∀ u', (Value.tuple #[u, x]) = .tuple #[u', x] → W.ownsRow base e size u' n xs := fun u' e => by cases e; exact h
theorem stepR_get {ps : List PT} {row : List (List Int)} {c i : Nat} {x : PT} {l : List Int} (hx : ps[i]? = some x) (hl : row[i]? = some l) : (stepR ps row c)[i]? = some (x.step l c) := by
  unfold stepR
  rw [List.getElem?_zipWith, hx, hl]
theorem stepR_len {ps : List PT} {row : List (List Int)} (h : row.length = ps.length) (c : Nat) : (stepR ps row c).length = ps.length := by simp [stepR, h]
theorem st_len {a : NF} (rt : Nt a) {l : List Int} (h : a.st l = true) : l.length ≤ 401 := by
  obtain ⟨h1, h2⟩ := risG_pair h
  have hle := rt.le
  have hn : (l.map fun x => (x + 1).toNat).Nodup := by
    rw [List.nodup_iff_pairwise_ne, List.pairwise_map]
    exact h1.imp_of_mem fun {a b} ha hb hab => by have := h2 a ha; have := h2 b hb; omega
  have := List.Nodup.length_le_of_subset hn (l₂ := List.range 401) fun x hx => by
    obtain ⟨y, hy, rfl⟩ := List.mem_map.1 hx
    have := h2 y hy
    exact List.mem_range.2 (by omega)
  simpa using this
theorem rowIn_K {ps : List PT} (ok : PsOk ps) {row : List (List Int)} (h : RowIn ps row) : RowK row := by
  refine ⟨by rw [h.1]; exact ok.1, fun l hl => ?_⟩
  obtain ⟨i, hi⟩ := List.getElem?_of_mem hl
  have hil := (List.getElem?_eq_some_iff.1 hi).1
  have hx : ps[i]? = some (ps[i]'(by rw [← h.1]; exact hil)) := List.getElem?_eq_getElem _
  have rt := (ok.2 _ (List.mem_of_getElem? hx)).1
  have hst := h.2 i _ l hx hi
  refine ⟨st_len rt hst, fun x hx => ?_⟩
  have := (risG_pair hst).2 x hx
  have := rt.le
  omega
end Go.Proofs.YthdnlndpmmiboaaGreatDoor
namespace Go.Proofs.YthdnlndpmmiboaaGreatDoor
open Go Go.RowKit

def mkOne (a : NF) (c : Nat) (nl : List Int) (q : Int) : List Int := if (a.sets.getD q.toNat 0).getLsbD c then nl.set q.toNat 1 else nl
def mkRow (a : NF) (c : Nat) (fl nl : List Int) : List Int := fl.foldl (mkOne a c) nl
def mkAll (a : NF) (c : Nat) (l : List Int) : List Int := l.foldl (fun nl p => mkRow a c (a.frm p) nl) (List.replicate a.sets.length 0)
theorem mkOne_len (a : NF) (c : Nat) (nl : List Int) (q : Int) : (mkOne a c nl q).length = nl.length := by unfold mkOne; split <;> simp
theorem mkRow_len (a : NF) (c : Nat) : ∀ (fl nl : List Int), (mkRow a c fl nl).length = nl.length
  | [], _ => rfl
  | q :: fl, nl => (mkRow_len a c fl (mkOne a c nl q)).trans (mkOne_len a c nl q)
theorem mkAll_len (a : NF) (c : Nat) (l : List Int) : (mkAll a c l).length = a.sets.length := by
  unfold mkAll
  have : ∀ (l nl : List Int), (l.foldl (fun nl p => mkRow a c (a.frm p) nl) nl).length = nl.length := fun l => by
    induction l with
    | nil => intro nl; rfl
    | cons p l ih => intro nl; rw [List.foldl_cons, ih, mkRow_len]
  rw [this, List.length_replicate]
theorem mkRow_snoc {a : NF} {c : Nat} {fl nl : List Int} {j : Nat} {q : Int} (h : fl[j]? = some q) : mkRow a c (fl.take (j + 1)) nl = mkOne a c (mkRow a c (fl.take j) nl) q := by
  unfold mkRow
  rw [List.take_add_one, h, Option.toList_some, List.foldl_append]
  rfl
theorem mkAll_snoc {a : NF} {c : Nat} {l : List Int} {k : Nat} {p : Int} (h : l[k]? = some p) : mkAll a c (l.take (k + 1)) = mkRow a c (a.frm p) (mkAll a c (l.take k)) := by
  unfold mkAll
  rw [List.take_add_one, h, Option.toList_some, List.foldl_append]
  rfl
theorem mkOne_get {a : NF} {c : Nat} {nl : List Int} {q : Int} (hq : 0 ≤ q) {t : Nat} (ht : t < nl.length) : (mkOne a c nl q).getD t 0 = if q = (t : Int) ∧ (a.sets.getD t 0).getLsbD c = true then 1 else nl.getD t 0 := by
  unfold mkOne
  by_cases e : q = (t : Int)
  · subst e
    rw [Int.toNat_natCast]
    cases hb : (a.sets.getD t 0).getLsbD c with
    | true => simp [ht]
    | false => simp
  · have e2 : (if q = (t : Int) ∧ (a.sets.getD t 0).getLsbD c = true then 1 else nl.getD t 0) = nl.getD t 0 := if_neg fun h => e h.1
    rw [e2]
    split
    · rw [List.getD_eq_getElem?_getD, List.getElem?_set, if_neg (by omega), ← List.getD_eq_getElem?_getD]
    · rfl
theorem mkRow_get {a : NF} {c : Nat} : ∀ (fl nl : List Int), (∀ q ∈ fl, 0 ≤ q) → ∀ t, t < nl.length → (mkRow a c fl nl).getD t 0 = if (t : Int) ∈ fl ∧ (a.sets.getD t 0).getLsbD c = true then 1 else nl.getD t 0
  | [], nl, _, t, _ => by simp [mkRow]
  | q :: fl, nl, h, t, ht => by
    have h1 := mkRow_get (a := a) (c := c) fl (mkOne a c nl q) (fun x hx => h x (List.mem_cons_of_mem _ hx)) t (by rw [mkOne_len]; exact ht)
    show (mkRow a c fl (mkOne a c nl q)).getD t 0 = _
    rw [h1, mkOne_get (h q List.mem_cons_self) ht]
    by_cases hb : (a.sets.getD t 0).getLsbD c = true
    · by_cases hm : (t : Int) ∈ fl
      · rw [if_pos ⟨hm, hb⟩, if_pos ⟨List.mem_cons_of_mem _ hm, hb⟩]
      · rw [if_neg (fun h => hm h.1)]
        by_cases hq : q = (t : Int)
        · rw [if_pos ⟨hq, hb⟩, if_pos ⟨by rw [hq]; exact List.mem_cons_self, hb⟩]
        · rw [if_neg (fun h => hq h.1), if_neg (fun h => (List.mem_cons.1 h.1).elim (fun h => hq h.symm) hm)]
    · rw [if_neg (fun h => hb h.2), if_neg (fun h => hb h.2), if_neg (fun h => hb h.2)]
theorem mkAll_get {a : NF} {c : Nat} : ∀ (l nl : List Int), (∀ p ∈ l, ∀ q ∈ a.frm p, 0 ≤ q) → ∀ t, t < nl.length → (l.foldl (fun nl p => mkRow a c (a.frm p) nl) nl).getD t 0 = if a.hit l c t = true then 1 else nl.getD t 0
  | [], nl, _, t, _ => by simp [NF.hit]
  | p :: l, nl, h, t, ht => by
    rw [List.foldl_cons, mkAll_get l _ (fun x hx => h x (List.mem_cons_of_mem _ hx)) t (by rw [mkRow_len]; exact ht), mkRow_get _ _ (h p List.mem_cons_self) t ht]
    have : a.hit (p :: l) c t = (((a.frm p).contains (t : Int) && (a.sets.getD t 0).getLsbD c) || a.hit l c t) := rfl
    rw [this]
    cases h1 : a.hit l c t with
    | true => simp
    | false =>
      cases hb : (a.sets.getD t 0).getLsbD c with
      | true => by_cases h2 : (t : Int) ∈ a.frm p <;> simp [h2]
      | false => simp
theorem mkAll_step {a : NF} (rt : Nt a) {l : List Int} (hst : a.st l = true) (c : Nat) : onesTo (mkAll a c l) (mkAll a c l).length = a.step l c := by
  rw [mkAll_len]
  unfold onesTo NF.step
  congr 1
  apply List.filter_congr
  intro t ht
  have ht := List.mem_range.1 ht
  unfold mkAll
  rw [mkAll_get l _ (fun p hp q hq => by have := (risG_pair (rt.frm_in hst hp)).2 q hq; omega) t (by simpa using ht)]
  cases h : a.hit l c t with
  | true => rfl
  | false => simp [ht]
end Go.Proofs.YthdnlndpmmiboaaGreatDoor
