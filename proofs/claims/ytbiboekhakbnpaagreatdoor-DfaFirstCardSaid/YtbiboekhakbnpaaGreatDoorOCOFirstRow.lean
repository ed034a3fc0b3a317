/-
  The law DfaFirst. Printed by wip/gen/o18.py.
  DfaFirst returns true for any small parts, any bytes; the arguments read behind the call as they did. No condition. A tied card: the three listed tables hold at the call what the program's text lays. Printed by wip/gen/drow.py.
-/
import Derived.WalkKit
import Derived.OrdersIn
import Derived.RangeFuncIn
import Derived.RangeFuncLeaves
import Derived.RangeFuncNested
import Derived.RangeFuncSeq
import Derived.Lib.Hide
import Derived.Sort.Grow
import Derived.Deep.Draws
import Derived.Deep.MidRow
import Derived.Maps.AppendAt
import Derived.Laws.StructEq
import Derived.IntWalk
import Derived.Test.YtbiboekhakbnpaaGreatDoorProg
import Derived.WalkSpells
import Derived.WalkLawsBesides
import Derived.Deep.QuietTactic
import Derived.BigQuiet
import Derived.Shelf.Abstract
import Derived.OwnWalkIn
import Derived.TacticsInMore
import Derived.LoopNIn
import Derived.LoopIn
import Derived.Shelf.AbstractIn
import Derived.RegionTactic
import Derived.BigRegion
import Derived.Maps.OwnIn
import Derived.RangeFuncBox
import Derived.Shelf.SlSortCmp.NoneTotal
import Derived.Shelf.SlGeneric
import Derived.Ground.SlsfProg
import Derived.Laws.Rows
import Derived.Deep.WholeRow
import Derived.Shelf.Bytes.SlEqualAll
import Derived.Lib.SmallJoins
import Derived.Laws.Tables
import Derived.Lib.SliceRun
import Derived.Great.BuildSlice
import Derived.ProofKit
import Derived.Deep.Slices
import Derived.Laws.OwnMore
import Derived.Laws.EntriesVeiled
import Derived.DeepKeys4
import Derived.Maps.Own
import Derived.WalkMore
import Derived.Laws.IdiomCopy
import Derived.Laws.AppendOwnNone
import Derived.Shelf.Sort.Plain
import Derived.Shelf.Slices.In.SortNone
import Derived.Shelf.Slices.Turned
import Derived.Shelf.Slices.Cells
import Derived.Lib.ItoaNum
import Derived.Maps.Keyed
import Derived.Shelf.Strings.BuilderK
import Derived.Shelf.Strconv.Itoa3
import Derived.Lib.ItoaLen
import Derived.Lib.ConvBytes
import Derived.Deep.CutRange
import Derived.Lib.OthersKept
import Derived.Defers
import Derived.Recover
import Derived.Lib.SlBuf
import Derived.Lib.SlBytesConst
import Derived.Lib.SlBytesRow
import Derived.Test.YtbiboekhakbnpaaGreatDoorCards
import Derived.Test.YtbiboekhakbnpaaGreatDoorTie
import Derived.Test.YtbiboekhakbnpaaGreatDoorRows
import Derived.Deep.Strs
import Derived.OpenShut
import Derived.JoinedCond
import Derived.SizedLaws
import Derived.Deep.DeepHandedRow
import Derived.Lib.LaidTab
import Derived.Stop.LaidErr
import Derived.Test.YtbiboekhakbnpaaGreatDoorOB01
import Derived.Test.YtbiboekhakbnpaaGreatDoorOB02
import Derived.Test.YtbiboekhakbnpaaGreatDoorOB03
import Derived.Test.YtbiboekhakbnpaaGreatDoorOB04
import Derived.Test.YtbiboekhakbnpaaGreatDoorOB05
import Derived.Test.YtbiboekhakbnpaaGreatDoorOB06
import Derived.Test.YtbiboekhakbnpaaGreatDoorOB07
import Derived.Test.YtbiboekhakbnpaaGreatDoorOB08
import Derived.Test.YtbiboekhakbnpaaGreatDoorOB09
import Derived.Test.YtbiboekhakbnpaaGreatDoorOB10
import Derived.Test.YtbiboekhakbnpaaGreatDoorOB11
import Derived.Test.YtbiboekhakbnpaaGreatDoorOB12
import Derived.Test.YtbiboekhakbnpaaGreatDoorOB13
import Derived.Test.YtbiboekhakbnpaaGreatDoorOB14
import Derived.Test.YtbiboekhakbnpaaGreatDoorOB15
import Derived.Test.YtbiboekhakbnpaaGreatDoorOB16
import Derived.Test.YtbiboekhakbnpaaGreatDoorOB17
import Derived.Test.YtbiboekhakbnpaaGreatDoorOB18
import Derived.Test.YtbiboekhakbnpaaGreatDoorOB19
import Derived.Test.YtbiboekhakbnpaaGreatDoorOB20
import Derived.Test.YtbiboekhakbnpaaGreatDoorOB21
import Derived.Test.YtbiboekhakbnpaaGreatDoorOB22
import Derived.Test.YtbiboekhakbnpaaGreatDoorOB23
import Derived.Test.YtbiboekhakbnpaaGreatDoorOB24
import Derived.Test.YtbiboekhakbnpaaGreatDoorOB25
import Derived.Test.YtbiboekhakbnpaaGreatDoorOB26
import Derived.Test.YtbiboekhakbnpaaGreatDoorOB27
import Derived.Test.YtbiboekhakbnpaaGreatDoorOB28
import Derived.Test.YtbiboekhakbnpaaGreatDoorOB29
import Derived.Test.YtbiboekhakbnpaaGreatDoorOB30
import Derived.Test.YtbiboekhakbnpaaGreatDoorOB31
import Derived.Test.YtbiboekhakbnpaaGreatDoorOB32
import Derived.Test.YtbiboekhakbnpaaGreatDoorOB33
import Derived.Test.YtbiboekhakbnpaaGreatDoorOB34
import Derived.Test.YtbiboekhakbnpaaGreatDoorOB35
import Derived.Test.YtbiboekhakbnpaaGreatDoorOB36
import Derived.Test.YtbiboekhakbnpaaGreatDoorOB37
import Derived.Test.YtbiboekhakbnpaaGreatDoorOB38
import Derived.Test.YtbiboekhakbnpaaGreatDoorOB39
import Derived.Test.YtbiboekhakbnpaaGreatDoorOB40
import Derived.Test.YtbiboekhakbnpaaGreatDoorOB41
import Derived.Test.YtbiboekhakbnpaaGreatDoorOB42
import Derived.Test.YtbiboekhakbnpaaGreatDoorOB43
import Derived.Test.YtbiboekhakbnpaaGreatDoorOB44
import Derived.Test.YtbiboekhakbnpaaGreatDoorOB45
import Derived.Test.YtbiboekhakbnpaaGreatDoorOB46
import Derived.Test.YtbiboekhakbnpaaGreatDoorOB47
import Derived.Test.YtbiboekhakbnpaaGreatDoorOB48
import Derived.Test.YtbiboekhakbnpaaGreatDoorOB49
import Derived.Test.YtbiboekhakbnpaaGreatDoorOB50
import Derived.Test.YtbiboekhakbnpaaGreatDoorOB51
import Derived.Test.YtbiboekhakbnpaaGreatDoorOB52
import Derived.Test.YtbiboekhakbnpaaGreatDoorOB53
set_option maxRecDepth 100000
set_option maxHeartbeats 16000000
open Go.Lib (hid)
namespace Go.Proofs.YtbiboekhakbnpaaGreatDoor
open Go Go.RowKit Go.Shelf Go.Maps

theorem dfaFirstLaw_any (v bv : Value) (l : List (List (Nat × Nat × Nat) × Bool × Nat)) (hl9 : l.length <= 1000000000000000) (b : List Nat) (hb : ∀ c ∈ b, c < 256) (w : World) (h : IsS18 w v l) (hbv : IsSl encB w bv b) (hT : ∀ W, Below w.heap.size w W -> TabW W) :
  Calls Tryz.prog 3 #[v, bv] w fun e w' => e = .returned (.bool true) /\ Below w.heap.size w w' := by
 have HT := hid hT
 have PK := parts18_ps h
 have CM : Hid (∀ W, Below w.heap.size w W -> Calls Tryz.prog 10 #[v] W fun e w' => ∃ u, e = .returned (.tuple #[u, .bool true]) /\ OwnPts W.heap.size w' u (parts18 l) /\ Below W.heap.size W w') := hid fun W hW => made18_any v l hl9 W (h.below hW)
 obtain ⟨sa, sc, rfl⟩ := h.form
 have PL4 : (parts18 l).length <= 4 := by rw [parts18_len]; omega
 obtain ⟨P, hP⟩ : ∃ P, P = parts18 l := ⟨_, rfl⟩
 rw [<- hP] at PK CM PL4
 generalize l.length = sn at *
 clear h hP hT
 obtain ⟨d, code, hdc⟩ : ∃ d code, ofE P 300 = (d, code) := ⟨_, _, rfl⟩
 have two := ofE_two PK (f := 300) (by decide) (by decide)
 rw [hdc] at two
 obtain ⟨n0, hn0⟩ : ∃ n, n = d.cl.length := ⟨_, rfl⟩
 obtain ⟨n1, hn1⟩ : ∃ n, n = d.nx.length := ⟨_, rfl⟩
 obtain ⟨n2, hn2⟩ : ∃ n, n = d.mr.length := ⟨_, rfl⟩
 have TT : Hid (∀ A, Below w.heap.size w A -> ∀ V, Below A.heap.size A V -> TabW V) := hid fun A hA V hV => HT.out V (hA.trans (hV.mono hA.size))
 have CO : Hid (∀ W u, Below w.heap.size w W -> IsPts W u P -> Calls Tryz.prog 11 #[u, .int .i64 300] W (OfAt n0 n1 n2 code d W)) := hid fun W u hW hu => of_named PK hdc hn0 hn1 hn2 W u hu (TT.out W hW)
 have HPK := hid PK
 have HDC := hid hdc
 have HN0 := hid hn0
 have HN1 := hid hn1
 have HN2 := hid hn2
 obtain ⟨pm, hpm⟩ : ∃ m, m = P.length := ⟨_, rfl⟩
 have hpm4 : pm <= 4 := by rw [hpm]; exact PL4
 have HPM := hid hpm
 have HBB := hid hb
 have HBV := hid hbv
 obtain ⟨ba, bc, rfl⟩ := hbv.form
 obtain ⟨bn, hbn⟩ : ∃ n, n = b.length := ⟨_, rfl⟩
 obtain ⟨bm, hbm⟩ : ∃ m, m = min bn 40 := ⟨_, rfl⟩
 have hmin : min (bn : Int) 40 = (bm : Int) := by omega
 have hbmn : bm <= bn := by omega
 have hbm40 : bm <= 40 := by omega
 rw [<- hbn] at HBV hbv ⊢
 have hbmc : bm <= bc := Nat.le_trans hbmn hbv.cap
 obtain ⟨bb, hbb⟩ : ∃ x, x = b.take bm := ⟨_, rfl⟩
 have HTK : Hid (∀ W, Below w.heap.size w W -> IsSl encB W (.slice ba bm bc) bb) := hid fun W hW => by rw [hbb]; exact ((HBV.out.below hW).take bm hbmn)
 have HB2 : Hid (∀ c ∈ bb, c < 256) := hid fun c hc => by rw [hbb] at hc; exact HBB.out c (List.mem_of_mem_take hc)
 have HBM : Hid (bm = bb.length) := hid (by rw [hbb, List.length_take]; omega)
 clear PK hdc hn0 hn1 hn2 hpm PL4 hb hbv hbn hbm hbb HBB HBV
 go_enter Tryz.func3, Tryz.ntmps3
 go_wp2_with fail
 refine (awake18_any w HT.out).mono ?_
 rintro e w1 ⟨rfl, hx⟩
 have X1 := hid hx
 clear hx
 go_wp2_with fail
 refine (CM.out w1 X1.out).mono ?_
 rintro e w2 ⟨u, rfl, ho, hx⟩
 obtain ⟨pa, pc, rfl⟩ := ho.form
 have OP := hid (show OwnPts w1.heap.size w2 (.slice pa pm pc) P by rw [HPM.out]; exact ho)
 have X2 := hid (X1.out.trans (hx.mono X1.out.size))
 rw [<- HPM.out]
 clear ho hx CM
 go_wp2_with fail
 refine (CO.out w2 _ X2.out OP.out.pts).mono ?_
 rintro e w3 ⟨a0, c0, a1, c1, a2, c2, rfl, hd, hx⟩
 have X3 := hid (X2.out.trans (hx.mono X2.out.size))
 have OD := hid hd
 have OP3 := hid (OP.out.below hx)
 have hs12 := X1.out.size
 have hs23 := hx.size
 clear hd hx CO
 rcases two with h0 | h0
 case inr =>
  replace h0 : code = 181 := h0
  subst h0
  go_wp2
  go_ret
  exact ⟨rfl, X3.out.trans ((((Ext.refl _).alloc _).below).mono X3.out.size)⟩
 case inl =>
 replace h0 : code = 0 := h0
 subst h0
 have RT : Hid (Rt d) := hid (ofE_right HDC.out)
 have SD : Hid (Sm d) := hid RT.out.sm8
 go_upto_region 5 with fail
 refine wp_named ?_
 intro V hV
 have BD : Hid (Blk V w3.heap.size #[.slice a0 n0 c0, .slice a1 n1 c1, .slice a2 n2 c2] 31) := hid (by rw [hV]; exact Blk.new w3 _ _)
 have XV : Hid (Below w3.heap.size w3 V) := hid (by rw [hV]; exact ((Ext.refl w3).alloc _).below)
 clear hV
 have ODV := hid (OD.out.below XV.out)
 have OPV := hid (OP3.out.below XV.out)
 have X4 := hid (X3.out.trans (XV.out.mono X3.out.size))
 clear OD OP OP3 XV X3
 obtain ⟨b0, b1, b2⟩ := OwnDf.mk3 BD.out

 go_wp2_with fail
 refine (dfaFirst_any _ _ d RT.out SD.out bb HB2.out (by rw [<- HBM.out]; omega) V ODV.out.df (HTK.out V X4.out)).mono ?_
 rintro e w4 ⟨⟨rn, rm, ri⟩, hF, rfl, hx⟩
 have FI := hid hF
 have X5 := hid (X4.out.trans (hx.mono X4.out.size))
 have OD5 := hid (ODV.out.below hx)
 have B5 := hid (BD.out.below hx BD.out.lt)
 clear hF hx b0 b1 b2 BD OPV
 dsimp only
 go_wp2
 go_loopw [56] (fun iv wr => ∃ k : Nat, k <= bm + 1 /\ iv = .int .i64 k /\ (∀ m, m < k -> marksAt d bb m = []) /\ Below w4.heap.size w4 wr) (fun iv _ => bm + 1 - (intOf iv).toNat)
 case atStart => exact ⟨0, by omega, rfl, fun m hm => absurd hm (Nat.not_lt_zero _), Below.refl _ _⟩
 case round =>
  obtain ⟨k, hk, rfl, hq, hx⟩ := hrel
  obtain ⟨wo, rfl⟩ : ∃ wo : World, wo = wr := ⟨_, rfl⟩
  have HQ := hid hq
  have HX := hid hx
  have B6 := hid (B5.out.below hx B5.out.lt)
  have OD6 := hid (OD5.out.below hx)
  have X6 := hid (X5.out.trans (hx.mono X5.out.size))
  clear hq hx
  by_cases hlt : k < bm + 1
  ·have hki : (k : Int) < (bm : Int) + 1 := by omega
   have hkm : k <= bm := by omega
   have hkc : k <= bc := by omega
   obtain ⟨b0, b1, b2⟩ := OwnDf.mk3 B6.out
   obtain ⟨mk, hmk⟩ : ∃ m, m = marksAt d bb k := ⟨_, rfl⟩
   obtain ⟨mkn, hmkn⟩ : ∃ m, m = mk.length := ⟨_, rfl⟩
   have CK : Hid (∀ W, Below wo.heap.size wo W -> Calls Tryz.prog 13 #[.agg #[.slice a0 n0 c0, .slice a1 n1 c1, .slice a2 n2 c2], .slice ba k bc] W fun e w' => ∃ u, e = .returned (.tuple #[u, .int .i64 0]) /\ w'.ownsRow W.heap.size 3 1 u mkn (mk.map encZ) /\ Below W.heap.size W w') := hid fun W hW => by
    have := dfaMarks_any _ (.slice ba k bc) d RT.out SD.out (bb.take k) (fun c hc => HB2.out c (List.mem_of_mem_take hc)) (by rw [List.length_take]; have := HBM.out; omega) W (OD6.out.below hW).df ((HTK.out W (X6.out.trans (hW.mono X6.out.size))).take k hkm)
    rw [hmkn, hmk]
    exact this
   have HMK := hid hmk
   have HMKN := hid hmkn
   clear hmk hmkn
   go_upto_region 14 with fail
   refine wp_region_reg false (fun _ => False) (by kernel_rfl) 10 [0, 0, 0, 6, 15, 31, 63, 63, 127, 511] (fun i => i == 4) (by kernel_rfl) (fun i => if i = 4 then Eff.rowT wo.heap.size 3 1 mkn (mk.map encZ) (.int .i64 0) else Eff.any _) ?_
   intro C hC hne
   have HC := hid hC
   have f0 := regCell hC (p := ⟨w3.heap.size, 0, none⟩) B6.out.lt (fun h => h) b0
   have f1 := regCell hC (p := ⟨w3.heap.size, 1, none⟩) B6.out.lt (fun h => h) b1
   have f2 := regCell hC (p := ⟨w3.heap.size, 2, none⟩) B6.out.lt (fun h => h) b2
   clear hC b0 b1 b2
   repeat (refine regStep (fun K hK => ?_); first | (refine regN rfl ?_; try go_simp; refine hK _ _ ?_; clear hK K) | (refine regF rfl rfl ?_; unfold floatAt; go_simp; refine hK _ _ ?_; clear hK K))
   refine regStep (fun K hK => ?_)
   refine regE rfl rfl (Eff.rowT wo.heap.size 3 1 mkn (mk.map encZ) (.int .i64 0)) rfl (fun W hW hN => ?_) (fun v hv => ?_)
   ·have hM := (HC.out W).1 hW
    clear hW
    go_simp
    refine effT_call ((CK.out W hM.below).mono ?_)
    rintro e w2 ⟨u, rfl, ho, hx⟩
    exact ⟨_, rfl, Move.of_below hx, rowT_form ho, rowT_keep (ownsRow_base ho hM.size)⟩
   obtain ⟨ma, mc, rfl⟩ := hv
   go_simp
   refine hK _ _ ?_
   clear hK K
   repeat (refine regStep (fun K hK => ?_); first | (refine regN rfl ?_; try go_simp; refine hK _ _ ?_; clear hK K) | (refine regF rfl rfl ?_; unfold floatAt; go_simp; refine hK _ _ ?_; clear hK K))
   refine regNil (fun W hW hH => ?_)
   have hM := (HC.out W).1 hW
   have hrow : W.ownsRow wo.heap.size 3 1 (.slice ma mkn mc) mkn (mk.map encZ) := hH _ (List.mem_of_getElem? (show _ = some _ from rfl : _[0]? = some _)) (.slice ma mkn mc) rfl
   have HR := hid hrow
   have X7 := hid hM.below
   clear hM hW hH HC hne f0 f1 f2 hrow CK
   match mk, HMK, HMKN, HR with
   | [], HMK, HMKN, HR =>
    obtain rfl : mkn = 0 := HMKN.out
    go_wp2
    go_roundw
    case rel =>
     refine ⟨k + 1, by omega, by go_num, fun m hm => ?_, HX.out.trans (X7.out.mono HX.out.size)⟩
     by_cases e : m < k
     ·exact HQ.out m e
     ·obtain rfl : m = k := by omega
      exact HMK.out.symm
    case measure => simp [intOf]; omega
   | x :: r, HMK, HMKN, HR =>
    have hpos : 0 < mkn := by rw [HMKN.out]; exact Nat.succ_pos _
    have hposi : (0 : Int) < mkn := by omega
    obtain ⟨g, gc, e1, d0⟩ : ∃ g gc, Value.slice ma mkn mc = .slice (some ⟨g, 0, none⟩) mkn gc /\ W.cell? ⟨g, 0, none⟩ = some (.int .i64 x) := by
     obtain ⟨g, u, e1, _, hg, _, hc, hf⟩ := rowCell HR.out hpos
     refine ⟨g, mc, by rw [e1], ?_⟩
     subst e1
     exact HR.out.cells (g := g) rfl 0 _ rfl
    cases e1
    have hri := FirstIs.uniq FI.out (.inl ⟨k, x, r, by rw [<- HBM.out]; exact hkm, HQ.out, HMK.out.symm, rfl⟩)
    injection hri with e2 e3
    injection e3 with e3 e4
    subst e2 e3 e4
    go_wp2
    go_ret
    exact ⟨rfl, X6.out.trans (X7.out.mono X6.out.size)⟩
  ·obtain rfl : k = bm + 1 := by omega
   have hki : ¬ (((bm + 1 : Nat) : Int) < (bm : Int) + 1) := by omega
   have hri := FirstIs.uniq FI.out (.inr ⟨fun m hm => HQ.out m (by rw [<- HBM.out] at hm; omega), rfl⟩)
   injection hri with e2 e3
   injection e3 with e3 e4
   subst e2 e3 e4
   go_wp2
   go_ret
   exact ⟨rfl, X6.out⟩
end Go.Proofs.YtbiboekhakbnpaaGreatDoor
namespace Go.Proofs.YtbiboekhakbnpaaGreatDoor
open Go Go.ChangeShapes Go.WideShapes Go.ChangeAt Go.RowKit

theorem ofirst_gTab : Tryz.prog.globalNamed "internal/strconv.uint64pow10" = some 0 := by kernel_rfl
theorem ofirst_gTabType : (Tryz.prog.globals[0]?).map (·.type) = some 251 := by kernel_rfl
theorem ofirst_cellsT : Tryz.prog.cellsOf 251 = 20 := by kernel_rfl
theorem ofirst_cellsE : Tryz.prog.cellsOf 68 = 1 := by kernel_rfl
theorem ofirst_table {W : World} (h : laidMetH Tryz.prog Rows.dfaFirstRow.laid W) : TabW W := by
 have h1 : laidMet Tryz.prog [("math/bits.deBruijn32tab", Rows.laid_math_bits_deBruijn32tab), ("math/bits.deBruijn64tab", Rows.laid_math_bits_deBruijn64tab), ("internal/strconv.uint64pow10", Lib.tabData .u64 Lib.pow10Tab)] W := h
 exact Lib.tabIs_of_head (rest := []) ofirst_gTab ofirst_gTabType Tryz.underlying251 Tryz.underlying68 ofirst_cellsE ofirst_cellsT h1.tail.tail
noncomputable def ofirst_fill (cs : Array Value) : Obj -> Obj
 | .cells _ t frozen => .cells cs t frozen
 | o => o
noncomputable def ofirst_world (os : Os) : World :=
 { World.holding Tryz.prog os ⟨#[], #[], []⟩ with heap := (((World.holding Tryz.prog os ⟨#[], #[], []⟩).heap.modify 0 (ofirst_fill #[.int .u64 1, .int .u64 10, .int .u64 100, .int .u64 1000, .int .u64 10000, .int .u64 100000, .int .u64 1000000, .int .u64 10000000, .int .u64 100000000, .int .u64 1000000000, .int .u64 10000000000, .int .u64 100000000000, .int .u64 1000000000000, .int .u64 10000000000000, .int .u64 100000000000000, .int .u64 1000000000000000, .int .u64 10000000000000000, .int .u64 100000000000000000, .int .u64 1000000000000000000, .int .u64 10000000000000000000])).modify 1 (ofirst_fill #[.int .u8 0, .int .u8 1, .int .u8 28, .int .u8 2, .int .u8 29, .int .u8 14, .int .u8 24, .int .u8 3, .int .u8 30, .int .u8 22, .int .u8 20, .int .u8 15, .int .u8 25, .int .u8 17, .int .u8 4, .int .u8 8, .int .u8 31, .int .u8 27, .int .u8 13, .int .u8 23, .int .u8 21, .int .u8 19, .int .u8 16, .int .u8 7, .int .u8 26, .int .u8 12, .int .u8 18, .int .u8 6, .int .u8 11, .int .u8 5, .int .u8 10, .int .u8 9])).modify 2 (ofirst_fill #[.int .u8 0, .int .u8 1, .int .u8 56, .int .u8 2, .int .u8 57, .int .u8 49, .int .u8 28, .int .u8 3, .int .u8 61, .int .u8 58, .int .u8 42, .int .u8 50, .int .u8 38, .int .u8 29, .int .u8 17, .int .u8 4, .int .u8 62, .int .u8 47, .int .u8 59, .int .u8 36, .int .u8 45, .int .u8 43, .int .u8 51, .int .u8 22, .int .u8 53, .int .u8 39, .int .u8 33, .int .u8 30, .int .u8 24, .int .u8 18, .int .u8 12, .int .u8 5, .int .u8 63, .int .u8 55, .int .u8 48, .int .u8 27, .int .u8 60, .int .u8 41, .int .u8 37, .int .u8 16, .int .u8 46, .int .u8 35, .int .u8 44, .int .u8 21, .int .u8 52, .int .u8 32, .int .u8 23, .int .u8 11, .int .u8 54, .int .u8 26, .int .u8 40, .int .u8 15, .int .u8 34, .int .u8 20, .int .u8 31, .int .u8 10, .int .u8 25, .int .u8 14, .int .u8 19, .int .u8 9, .int .u8 13, .int .u8 8, .int .u8 7, .int .u8 6]) }
theorem ofirst_met (os : Os) : laidMet Tryz.prog Rows.dfaFirstRow.laid ((ofirst_world os).forCall (fun _ _ => 0) ⟨#[], #[.slice none 0 0, .slice none 0 0], []⟩).memory :=
 laidMet_of_run' 8 (by kernel_rfl) (by kernel_rfl)
theorem ofirst_reads (os : Os) {H : Type} (enc : TypeId × Value -> H) : ∃ places, DataW.whole enc Tryz.prog ((ofirst_world os).forCall (fun _ _ => 0) ⟨#[], #[.slice none 0 0, .slice none 0 0], []⟩).memory Tryz.f3.params.toList Rows.dfaFirstSpec.vars false (#[.slice none 0 0, .slice none 0 0] : Array Value).toList 8 = some ([.nil, .nil], [], places) :=
 ⟨[], by kernel_rfl⟩

theorem ofirst_lifted (os : Os) (started : os.Started) (H : Type) (enc : TypeId × Value -> H) (F : Stop.Interp) :
  ReturnsInHanded {} Tryz.checked os 3 .any ((OpenSpec.ofChange Rows.dfaFirstSpec).preRow enc Tryz.prog Tryz.f3 Rows.dfaFirstRow.domain false Rows.dfaFirstRow.laid) (((OpenSpec.ofChange Rows.dfaFirstSpec).at F).post enc Tryz.prog Tryz.f3 false true false false) := by
 obtain ⟨places, hx⟩ := ofirst_reads os enc
 refine returnsInHanded_of_row (C := Tryz.checked) (s := OpenSpec.ofChange Rows.dfaFirstSpec) Tryz.own started (by kernel_rfl) Tryz.func3
  (witness_row_at (enc := enc) (C := Tryz.checked) false (ofirst_world os) #[.slice none 0 0, .slice none 0 0] rfl (by kernel_rfl) (by kernel_rfl) (by kernel_rfl)
   (OpenSpec.preRow_of_cond 8 hx (by kernel_rfl) (fun k hk => by cases hk) (by kernel_rfl) (ofirst_met os))) ?_
 intro W base args ds gs before hval0 hW _ _ hsz0 hL _ _
 have hval : ∀ (j : Nat) t v, Tryz.f3.params[j]? = some t -> args[j]? = some v -> Value.okWide Tryz.prog W .any base t v := hval0
 have hT : ∀ V, Below W.heap.size W V -> TabW V := fun V hV => (ofirst_table hL).below hV
 have hW1 : DataW.Whole enc Tryz.prog Tryz.f3.params.toList Rows.dfaFirstSpec.vars false W args.toList ds gs before := hW
 have hW' := hW1
 obtain ⟨p, q, hA0, hV, rfl, hfz, hnd⟩ := hW1
 have hA : DataW.TrodAll enc Tryz.prog W 0 (fun _ => true) true Tryz.f3.params.toList args.toList ds p := hA0
 have hsz : (DataW.weightsEach Tryz.prog (Tryz.f3.params.toList ++ Rows.dfaFirstSpec.plain.varTypes Tryz.prog) (ds ++ gs)).all (· <= reachBytes) = true := hsz0
 rw [Tryz.params3] at hA hval hsz
 obtain ⟨v0, v1, d0, d1, p0, p1, rfl, rfl, rfl, h0, h1⟩ := trodAll_two hA
 obtain ⟨l0, s0, g0⟩ := open_s18 (hval 0 _ v0 rfl rfl) h0 (sized_arg hsz (j := 0) rfl rfl)
 obtain ⟨l1, _, r1, s1⟩ := open_bytesB (hval 1 _ v1 rfl rfl) h1
 refine (dfaFirstLaw_any v0 v1 l0 g0 l1 r1 W s0 s1 hT).mono fun e W' ⟨he, hw⟩ => ⟨_, he, ?_⟩
 exact law_post (s := Rows.dfaFirstSpec) Tryz.laidOut rfl (by rw [Tryz.params3]; exact of_decide_eq_true (by kernel_rfl)) rfl Tryz.underlying4 rfl hW' hw
theorem ofirst_said : Rows.DfaFirstSaid :=
 OpenClaim.holds_of_cond 3 Tryz.f3 rfl rfl rfl rfl rfl rfl rfl ⟨rfl, rfl, rfl, rfl, rfl⟩ rfl rfl rfl rfl rfl (by kernel_rfl) Tryz.func3 (by kernel_rfl)
  (of_decide_eq_true (by kernel_rfl)) (by unfold Func.isWrapper; first | (rw [if_pos (by decide +kernel)]; kernel_rfl) | (rw [if_neg (by decide +kernel)]; exact ⟨rfl, rfl⟩))
  (fun os started H enc _ F => by rw [OpenClaim.pre_eq_preRow]; exact ofirst_lifted os started H enc F)
theorem ofirst_plain (f : FuncId) (fn : Func) (hf : Tryz.pinned.checked.prog.funcNamed "repartee/reparteelaw18.DfaFirst" = some f) (hfn : Tryz.pinned.checked.prog.funcs[f]? = some fn) :
  true = Tryz.pinned.checked.prog.looks [] /\ ∀ (j : Nat) t, fn.params[j]? = some t -> Tryz.pinned.checked.prog.wantsStandIn t = false := by
 obtain rfl : f = 3 := Option.some.inj ((show Tryz.prog.funcNamed "repartee/reparteelaw18.DfaFirst" = some 3 by kernel_rfl).symm.trans hf) |>.symm
 obtain rfl : fn = Tryz.f3 := (Option.some.inj (Tryz.func3.symm.trans hfn)).symm
 refine ⟨by kernel_rfl, fun j t ht => ?_⟩
 rw [Tryz.params3] at ht
 have h2 : t = 22 \/ t = 23 := by
  have := Array.mem_of_getElem? ht
  simpa using this
 rcases h2 with rfl | rfl
 ·exact (show Tryz.prog.wantsStandIn 22 = false by kernel_rfl)
 ·exact (show Tryz.prog.wantsStandIn 23 = false by kernel_rfl)
theorem ofirst_card : Rows.DfaFirstCardSaid :=
 Claim7.holds_tied_plain_at .later [] _ _ _ _ ofirst_said (fun _ h => by cases h) (by kernel_rfl) (fun _ h => by cases h) dfaFirst_row_tie rfl ⟨rfl, rfl⟩ (by kernel_rfl) rfl ofirst_plain (by kernel_rfl)
end Go.Proofs.YtbiboekhakbnpaaGreatDoor
