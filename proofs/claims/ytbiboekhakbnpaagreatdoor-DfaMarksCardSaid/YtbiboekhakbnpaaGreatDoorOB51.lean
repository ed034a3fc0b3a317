/-
  Automata that are written out: lists of lists in blocks of their own; a row of automata in one block.
  The examples of the laws of automata of parts: each call, as the law makes it. Printed by wip/gen/awk18.py.
-/
import Derived.Test.YtbiboekhakbnpaaGreatDoorOB09
import Derived.Test.YtbiboekhakbnpaaGreatDoorOB06
import Derived.Test.YtbiboekhakbnpaaGreatDoorOB45
import Derived.Test.YtbiboekhakbnpaaGreatDoorOB19
import Derived.Test.YtbiboekhakbnpaaGreatDoorOB50
import Derived.Test.YtbiboekhakbnpaaGreatDoorOB43
import Derived.Test.YtbiboekhakbnpaaGreatDoorOB12
import Derived.Test.YtbiboekhakbnpaaGreatDoorOB01
set_option maxRecDepth 100000
set_option maxHeartbeats 16000000
open Go.Lib (hid)
namespace Go.Proofs.YtbiboekhakbnpaaGreatDoor
open Go Go.RowKit Go.Shelf Go.Maps

def RowsAre (w : World) : List Value -> List (List Int) -> Prop
 | [], [] => True
 | u :: us, l :: ll => IsSl encZ w u l /\ RowsAre w us ll
 | _, _ => False
theorem RowsAre.len {w : World} : ∀ {us : List Value} {ll : List (List Int)}, RowsAre w us ll -> us.length = ll.length
 | [], [], _ => rfl
 | u :: us, l :: ll, h => by simp only [List.length_cons]; rw [RowsAre.len h.2]
 | [], _ :: _, h => h.elim
 | _ :: _, [], h => h.elim
theorem RowsAre.at {w : World} : ∀ {us : List Value} {ll : List (List Int)}, RowsAre w us ll -> ∀ (i : Nat) (u : Value) (l : List Int), us[i]? = some u -> ll[i]? = some l -> IsSl encZ w u l
 | [], [], _, i, u, l, hu, _ => by simp at hu
 | x :: us, y :: ll, h, i, u, l, hu, hl => by
  cases i with
  | zero =>
   simp at hu hl
   subst hu hl
   exact h.1
  | succ i => exact RowsAre.at h.2 i u l (by simpa using hu) (by simpa using hl)
 | [], _ :: _, h, _, _, _, _, _ => h.elim
 | _ :: _, [], h, _, _, _, _, _ => h.elim
theorem isLL_of {w : World} {B n : Nat} {c : Array Value} {t : TypeId} (us : List Value) {ll : List (List Int)} (h : Blk w B c t) (hc : c.toList = us) (hn : n = us.length) (hr : RowsAre w us ll) : IsLL w (.slice (some ⟨B, 0, none⟩) n n) ll := by
 subst hn
 exact ⟨us, hr.len, blk_isSl us h (by rw [hc]; simp) rfl (Nat.le_refl _), hr.at⟩
theorem isSetsC_of {w : World} {B n : Nat} {c : Array Value} {t : TypeId} (l : List BS) (h : Blk w B c t) (hc : c.toList = flatS l) (hn : n = l.length) : IsSetsC w (.slice (some ⟨B, 0, none⟩) n n) l := ⟨blk_isSets l h hc hn, fun a n cap e => by cases e; exact Nat.le_refl _⟩
theorem row_of {w : World} {B n : Nat} {c : Array Value} {t : TypeId} (l : List Int) (h : Blk w B c t) (hc : c.toList = l.map encZ) (hn : n = l.length) : IsSl encZ w (.slice (some ⟨B, 0, none⟩) n n) l := by
 subst hn
 exact blk_isSl l h hc rfl (Nat.le_refl _)
theorem row_nil {w : World} : IsSl encZ w (.slice none 0 0) [] := .inl ⟨rfl, rfl⟩
attribute [local go_sem] encS

def DfT (n0 n1 n2 : Nat) (code : Int) (d : DF) (e : Ending) (w' : World) : Prop := ∃ a0 c0 a1 c1 a2 c2, e = .returned (.tuple #[.agg #[.slice a0 n0 c0, .slice a1 n1 c1, .slice a2 n2 c2], .int .i64 code]) /\ IsDf w' (.agg #[.slice a0 n0 c0, .slice a1 n1 c1, .slice a2 n2 c2]) d
def NfT (base : Nat) (a : NF) (e : Ending) (w' : World) : Prop := ∃ a0 n0 c0 a1 n1 c1 a2 n2 c2 a3 n3 c3, e = .returned (.agg #[.slice a0 n0 c0, .slice a1 n1 c1, .slice a2 n2 c2, .slice a3 n3 c3, .bool false]) /\ OwnNf base w' (.agg #[.slice a0 n0 c0, .slice a1 n1 c1, .slice a2 n2 c2, .slice a3 n3 c3, .bool false]) a
theorem wordN_sm (l : List Nat) (h : l.length <= 1000) : SmN (wordN l) := by
 refine ⟨by simp [wordN]; omega, by simp [wordN]; omega, by simp [wordN], by simp [wordN], fun r hr => ?_⟩
 obtain ⟨i, _, rfl⟩ := List.mem_map.1 hr
 by_cases e : i + 1 < l.length <;> simp [e]
def anyN : NF := ⟨[letW [97, 98]], [[]], [0], [0], false⟩
theorem anyN_sm : SmN anyN := ⟨by decide, by decide, by decide, by decide, fun l hl => by
 have : l = [] := by simpa [anyN] using hl
 subst this; decide⟩
theorem pts_one {w : World} {b : Nat} {v0 v1 v2 v3 : Value} {x : PT} {t : TypeId} (h : Blk w b #[v0, v1, v2, v3, .bool x.nf.emp, .bool x.beg, .int .i64 x.mark] t) (hn : IsNf w (.agg #[v0, v1, v2, v3, .bool x.nf.emp]) x.nf) : IsPts w (.slice (some ⟨b, 0, none⟩) 1 1) [x] := by
 obtain ⟨h0, h1, h2, h3, h4, h5, h6⟩ := h.seven
 refine .inr ⟨b, 0, 1, rfl, h.lt, fun i y hy => ?_⟩
 cases i with
 | zero => cases hy; exact ⟨v0, v1, v2, v3, hn, h0, h1, h2, h3, h4, h5, h6⟩
 | succ i => simp at hy
theorem pts_two {w : World} {b : Nat} {v0 v1 v2 v3 u0 u1 u2 u3 : Value} {x y : PT} {t : TypeId} (h : Blk w b #[v0, v1, v2, v3, .bool x.nf.emp, .bool x.beg, .int .i64 x.mark, u0, u1, u2, u3, .bool y.nf.emp, .bool y.beg, .int .i64 y.mark] t) (hn : IsNf w (.agg #[v0, v1, v2, v3, .bool x.nf.emp]) x.nf) (hm : IsNf w (.agg #[u0, u1, u2, u3, .bool y.nf.emp]) y.nf) : IsPts w (.slice (some ⟨b, 0, none⟩) 2 2) [x, y] := by
 refine .inr ⟨b, 0, 2, rfl, h.lt, fun i z hz => ?_⟩
 match i, hz with
 | 0, hz => cases hz; exact ⟨v0, v1, v2, v3, hn, h.cell 0, h.cell 1, h.cell 2, h.cell 3, h.cell 4, h.cell 5, h.cell 6⟩
 | 1, hz => cases hz; exact ⟨u0, u1, u2, u3, hm, h.cell 7, h.cell 8, h.cell 9, h.cell 10, h.cell 11, h.cell 12, h.cell 13⟩
 | i + 2, hz => simp at hz
theorem word_ab (W : World) : Calls Tryz.prog 36 #[.string ⟨#[97, 98]⟩] W fun e w' => NfT W.heap.size (wordN [97, 98]) e w' /\ Below W.heap.size W w' := (word18_any ⟨#[97, 98]⟩ [97, 98] rfl (by decide) (by decide) (by decide) W).mono fun e w' ⟨u, he, hd, hx⟩ => by
 obtain ⟨a0, n0, c0, a1, n1, c1, a2, n2, c2, a3, n3, c3, rfl⟩ := hd.form
 exact ⟨⟨_, _, _, _, _, _, _, _, _, _, _, _, he, hd⟩, hx⟩
theorem word_a (W : World) : Calls Tryz.prog 36 #[.string ⟨#[97]⟩] W fun e w' => NfT W.heap.size (wordN [97]) e w' /\ Below W.heap.size W w' := (word18_any ⟨#[97]⟩ [97] rfl (by decide) (by decide) (by decide) W).mono fun e w' ⟨u, he, hd, hx⟩ => by
 obtain ⟨a0, n0, c0, a1, n1, c1, a2, n2, c2, a3, n3, c3, rfl⟩ := hd.form
 exact ⟨⟨_, _, _, _, _, _, _, _, _, _, _, _, he, hd⟩, hx⟩
theorem of_at {ps : List PT} {f : Int} {d : DF} (he : ofE ps f = (d, 0)) (sm : ∀ x ∈ ps, SmN x.nf) {n0 n1 n2 : Nat} (h0 : d.cl.length = n0) (h1 : d.nx.length = n1) (h2 : d.mr.length = n2) (W : World) (v : Value) (h : IsPts W v ps) (hT : ∀ V, Below W.heap.size W V -> TabW V) :
  Calls Tryz.prog 11 #[v, .int .i64 f] W fun e w' => (DfT n0 n1 n2 0 d e w' /\ ∃ u, e = .returned (.tuple #[u, .int .i64 0]) /\ OwnDf W.heap.size w' u d) /\ Below W.heap.size W w' := (dfaOf_any v ps f W h sm hT).mono fun e w' ⟨u, hr, hd, hx⟩ => by
 rw [he] at hr hd
 have hd' := hd
 obtain ⟨a0, c0, a1, c1, a2, c2, rfl⟩ := hd.form
 replace hd : OwnDf W.heap.size w' (.agg #[.slice a0 d.cl.length c0, .slice a1 d.nx.length c1, .slice a2 d.mr.length c2]) d := hd
 replace hr : e = .returned (.tuple #[.agg #[.slice a0 d.cl.length c0, .slice a1 d.nx.length c1, .slice a2 d.mr.length c2], .int .i64 0]) := hr
 refine ⟨⟨?_, _, hr, hd⟩, hx⟩
 rw [h0, h1, h2] at hr hd
 exact ⟨_, _, _, _, _, _, hr, hd.df⟩
theorem pAB_sm : ∀ x ∈ pAB, SmN x.nf := fun x hx => by
 have : x = ⟨wordN [97, 98], false, 5⟩ := by simpa [pAB] using hx
 subst this; exact wordN_sm _ (by decide)
theorem pBeg_sm : ∀ x ∈ pBeg, SmN x.nf := fun x hx => by
 have : x = ⟨wordN [97, 98], true, 0⟩ := by simpa [pBeg] using hx
 subst this; exact wordN_sm _ (by decide)
theorem pTwo_sm : ∀ x ∈ pTwo, SmN x.nf := fun x hx => by
 have h : x = ⟨wordN [97], false, 0⟩ \/ x = ⟨anyN, false, 7⟩ := by simpa [pTwo, anyN] using hx
 rcases h with rfl | rfl
 ·exact wordN_sm _ (by decide)
 ·exact anyN_sm
theorem of_ab2 (W : World) (v : Value) (h : IsPts W v pAB) (hT : ∀ V, Below W.heap.size W V -> TabW V) : Calls Tryz.prog 11 #[v, .int .i64 2] W fun e w' => (∃ a0 n0 c0 a1 n1 c1 a2 n2 c2, e = .returned (.tuple #[.agg #[.slice a0 n0 c0, .slice a1 n1 c1, .slice a2 n2 c2], .int .i64 181])) /\ Below W.heap.size W w' := (dfaOf_any v pAB 2 W h pAB_sm hT).mono fun e w' ⟨u, hr, hd, hx⟩ => by
 obtain ⟨a0, c0, a1, c1, a2, c2, rfl⟩ := hd.form
 rw [mk_ab2] at hr
 exact ⟨⟨_, _, _, _, _, _, _, _, _, hr⟩, hx⟩
theorem dAB_rt : Rt dAB := ofE_right mk_ab
theorem dTwo_rt : Rt dTwo := ofE_right mk_two
theorem marks_at {d : DF} (rt : Rt d) {b : List Nat} {l : List Int} (hl : d.mr.getD (runD d 0 b) [] = l) (hb : ∀ c ∈ b, c < 256) (hn : b.length <= 1000000) (W : World) (v bv : Value) (h : IsDf W v d) (h' : IsSl encB W bv b) : Calls Tryz.prog 13 #[v, bv] W fun e w' => (∃ a c, e = .returned (.tuple #[.slice a l.length c, .int .i64 0]) /\ IsSl encZ w' (.slice a l.length c) l) /\ Below W.heap.size W w' := (dfaMarks_any v bv d rt rt.sm8 b hb hn W h h').mono fun e w' ⟨u, he, ho, hx⟩ => by
 rw [hl] at ho
 obtain ⟨a, c, rfl⟩ := ownsRow_form ho
 exact ⟨⟨a, c, he, ownsRow_sl ho rfl⟩, hx⟩
theorem first_at {d : DF} (rt : Rt d) {b : List Nat} {n m : Int} (hf : FirstIs d b (n, m, true)) (hb : ∀ c ∈ b, c < 256) (hn : b.length <= 1000000) (W : World) (v bv : Value) (h : IsDf W v d) (h' : IsSl encB W bv b) : Calls Tryz.prog 12 #[v, bv] W fun e w' => e = .returned (.tuple #[.int .i64 n, .int .i64 m, .bool true, .int .i64 0]) /\ Below W.heap.size W w' := (dfaFirst_any v bv d rt rt.sm8 b hb hn W h h').mono fun e w' ⟨r, h1, he, hx⟩ => by
 rw [FirstIs.uniq h1 hf] at he
 exact ⟨he, hx⟩
theorem equal_at {l : List Int} (hn : l.length <= 1000000) (W : World) (u v : Value) (h : IsSl encZ W u l) (h' : IsSl encZ W v l) : Calls Tryz.prog 16 #[u, v] W fun e w' => e = .returned (.bool true) /\ Below W.heap.size W w' := (slEqual_any u v l l W h h' hn).mono fun e w' ⟨he, hx⟩ => by
 rw [beq_self_eq_true] at he
 exact ⟨he, hx.below⟩
theorem kc_one8 (w : World) (o : Obj) (C : Array Value) (n c : Nat) : (convert 23 23 (.slice (some ⟨w.heap.size + 1, 0, none⟩) n c)).run Tryz.prog ((w.alloc o).alloc (.cells C 5)) = .ok (.slice (some ⟨w.heap.size + 1, 0, none⟩) n c) ((w.alloc o).alloc (.cells C 5 (C.size, C.size + 1))) := by
 have h := Lib.run_convert_bytes_const (P := Tryz.prog) (w.alloc o) 23 5 C n c Tryz.underlying23 Tryz.underlying5
 have e : (w.alloc o).heap.size = w.heap.size + 1 := by simp
 rw [e] at h
 exact h

def DfBox (base : Nat) (d : DF) (W : World) (b : Nat) : Prop := ∃ a0 c0 a1 c1 a2 c2, Blk W b #[.slice a0 d.cl.length c0, .slice a1 d.nx.length c1, .slice a2 d.mr.length c2] 31 /\ OwnDf base W (.agg #[.slice a0 d.cl.length c0, .slice a1 d.nx.length c1, .slice a2 d.mr.length c2]) d
structure MoveS (w0 : World) (d : DF) (A B : World) : Prop where
 keeps : Keeps (· < w0.heap.size) A B
 other : ∀ b, b < A.heap.size -> (∀ c, ¬ Blk A b c 31) -> B.heap[b]? = A.heap[b]?
 old : ∀ b, w0.heap.size <= b -> (∃ c, Blk A b c 31 /\ c.size = 3) -> ∃ c, Blk B b c 31 /\ c.size = 3
 new : ∀ b, w0.heap.size <= b -> DfBox w0.heap.size d A b -> DfBox w0.heap.size d B b
section
variable {w0 : World} {d : DF} {A B C : World}
theorem MoveS.far (h : MoveS w0 d A B) : Keeps (fun b => b < A.heap.size /\ ∀ c, ¬ Blk A b c 31) A B := ⟨h.keeps.os, h.keeps.tape, h.keeps.output, h.keeps.size, fun b hb => h.other b hb.1 hb.2⟩
theorem MoveS.size (h : MoveS w0 d A B) : A.heap.size <= B.heap.size := h.keeps.size
theorem MoveS.trans (h : MoveS w0 d A B) (k : MoveS w0 d B C) : MoveS w0 d A C :=
 ⟨h.keeps.tr k.keeps, fun b hb hc => (k.other b (Nat.lt_of_lt_of_le hb h.size) fun c hB => hc c ((h.other b hb hc).symm.trans hB)).trans (h.other b hb hc), fun b hb hx => k.old b hb (h.old b hb hx), fun b hb hx => k.new b hb (h.new b hb hx)⟩
theorem MoveS.below (h : Below A.heap.size A B) (hs : w0.heap.size <= A.heap.size) : MoveS w0 d A B :=
 ⟨Keeps.of_below h fun _ hk => Nat.lt_of_lt_of_le hk hs, fun b hb _ => h.block b hb, fun _ _ ⟨c, hc, he⟩ => ⟨c, hc.below h hc.lt, he⟩, fun _ _ ⟨a0, c0, a1, c1, a2, c2, h1, h2⟩ => ⟨a0, c0, a1, c1, a2, c2, h1.below h h1.lt, h2.below h⟩⟩
theorem MoveS.drew : MoveS w0 d w0 w0.drew := .below (Ext.refl w0).drew.below (Nat.le_refl _)
theorem MoveS.row (h : MoveS w0 d A B) {base size n : Nat} {e : TypeId} {v : Value} {xs : List Value} (ho : A.ownsRow base e size v n xs) (he : 31 ≠ e) : B.ownsRow base e size v n xs :=
 ownsRow_keeps ho h.far fun x hx => ⟨(ho.lt x hx).2, fun _ hc => row_ne hc ho he x hx rfl⟩
theorem MoveS.ll (h : MoveS w0 d A B) {base : Nat} {v : Value} {ll : List (List Int)} (ho : OwnLL base A v ll) : OwnLL base B v ll := by
 obtain ⟨us, e, o1, o2⟩ := ho
 exact ⟨us, e, h.row o1 (by decide), fun i u l hu hl => h.row (o2 i u l hu hl) (by decide)⟩
theorem MoveS.nf (h : MoveS w0 d A B) {base : Nat} {v : Value} {a : NF} (ho : OwnNf base A v a) : OwnNf base B v a := by
 obtain ⟨v0, v1, v2, v3, e, o0, o1, o2, o3⟩ := ho
 exact ⟨v0, v1, v2, v3, e, h.row o0 (by decide), h.ll o1, h.row o2 (by decide), h.row o3 (by decide)⟩
theorem MoveS.df (h : MoveS w0 d A B) {base : Nat} {v : Value} {a : DF} (ho : OwnDf base A v a) : OwnDf base B v a := by
 obtain ⟨v0, v1, v2, e, o0, o1, o2⟩ := ho
 exact ⟨v0, v1, v2, e, h.row o0 (by decide), h.ll o1, h.ll o2⟩
theorem MoveS.blk (h : MoveS w0 d A B) {b : Nat} {c : Array Value} {t : TypeId} (hb : Blk A b c t) (ht : t ≠ 31) : Blk B b c t :=
 hb.keeps h.far ⟨hb.lt, fun _ hc' => blk_ne hb hc' ht rfl⟩
theorem MoveS.store {b : Nat} {c : Array Value} (hb : w0.heap.size <= b) (hB : Blk A b c 31) (hk : Keeps (· ≠ b) A B) (hn : DfBox w0.heap.size d B b) : MoveS w0 d A B := by
 have hn' := hn
 refine ⟨hk.mono fun x (hx : x < w0.heap.size) => by show x ≠ b; omega, fun x _ hc => hk.keep x fun e => hc c (e ▸ hB), fun x _ ⟨c', hc', he⟩ => ?_, fun x _ hx => ?_⟩
 ·by_cases e : x = b
  ·subst e
   obtain ⟨a0, c0, a1, c1, a2, c2, h1, h2⟩ := hn
   exact ⟨_, h1, rfl⟩
  ·exact ⟨c', hc'.keeps hk e, he⟩
 ·by_cases e : x = b
  ·subst e; exact hn
  ·obtain ⟨a0, c0, a1, c1, a2, c2, h1, h2⟩ := hx
   exact ⟨a0, c0, a1, c1, a2, c2, h1.keeps hk e, h2.past hB (by decide) (by decide) (by decide) hk⟩
end
namespace EffS
def nf (w0 : World) (d : DF) (a : NF) : RegG.Eff (MoveS w0 d) where
 P := fun v => ∃ a0 n0 c0 a1 n1 c1 a2 n2 c2 a3 n3 c3, v = .agg #[.slice a0 n0 c0, .slice a1 n1 c1, .slice a2 n2 c2, .slice a3 n3 c3, .bool false]
 H := fun _ v W => OwnNf w0.heap.size W v a
 wit := .agg #[.slice none 0 0, .slice none 0 0, .slice none 0 0, .slice none 0 0, .bool false]
 pw := ⟨none, 0, 0, none, 0, 0, none, 0, 0, none, 0, 0, rfl⟩
 st := fun _ _ _ _ hm _ h => hm.nf h
def lit (w0 : World) (d : DF) (a : NF) (z0 z1 z2 z3 : Value) : RegG.Eff (MoveS w0 d) where
 P := fun v => ∃ b, v = .slice (some ⟨b, 0, none⟩) 2 2
 H := fun _ v W => ∀ b, v = .slice (some ⟨b, 0, none⟩) 2 2 -> ∃ y0 y1 y2 y3, Blk W b #[y0, y1, y2, y3, .bool false, .bool false, .int .i64 0, z0, z1, z2, z3, .bool false, .bool false, .int .i64 7] 46 /\ OwnNf w0.heap.size W (.agg #[y0, y1, y2, y3, .bool false]) a
 wit := .slice (some ⟨0, 0, none⟩) 2 2
 pw := ⟨_, rfl⟩
 st := fun _ _ _ _ hm _ h b e => by
  obtain ⟨y0, y1, y2, y3, h1, h2⟩ := h b e
  exact ⟨y0, y1, y2, y3, hm.blk h1 (by decide), hm.nf h2⟩
def ofD (w0 : World) (d : DF) (n0 n1 n2 : Nat) : RegG.Eff (MoveS w0 d) where
 P := fun v => ∃ a0 c0 a1 c1 a2 c2, v = .tuple #[.agg #[.slice a0 n0 c0, .slice a1 n1 c1, .slice a2 n2 c2], .int .i64 0]
 H := fun _ v W => ∀ u, v = .tuple #[u, .int .i64 0] -> OwnDf w0.heap.size W u d
 wit := .tuple #[.agg #[.slice none n0 0, .slice none n1 0, .slice none n2 0], .int .i64 0]
 pw := ⟨none, 0, none, 0, none, 0, rfl⟩
 st := fun _ _ _ _ hm _ h u e => hm.df (h u e)
def alloc (w0 : World) (d : DF) : RegG.Eff (MoveS w0 d) where
 P := fun v => ∃ b, w0.heap.size <= b /\ v = .pointer (some ⟨b, 0, none⟩)
 H := fun _ v W => ∀ b, v = .pointer (some ⟨b, 0, none⟩) -> w0.heap.size <= b /\ ∃ c, Blk W b c 31 /\ c.size = 3
 wit := .pointer (some ⟨w0.heap.size, 0, none⟩)
 pw := ⟨_, Nat.le_refl _, rfl⟩
 st := fun _ _ _ _ hm _ h b e => ⟨(h b e).1, hm.old b (h b e).1 (h b e).2⟩
def store (w0 : World) (d : DF) : RegG.Eff (MoveS w0 d) where
 P := fun _ => True
 H := fun y _ W => ∀ b, y = .pointer (some ⟨b, 0, none⟩) -> w0.heap.size <= b -> DfBox w0.heap.size d W b
 wit := undef
 pw := trivial
 st := fun _ _ _ _ hm _ h b e hb => hm.new b hb (h b e hb)
end EffS
end Go.Proofs.YtbiboekhakbnpaaGreatDoor
