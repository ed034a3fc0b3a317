/-
  The maker of automata of positions: then. Printed by wip/gen/mthen.py.
-/
import Derived.Test.YtbiboekhakbnpaaGreatDoorOB24
set_option maxRecDepth 100000
set_option maxHeartbeats 16000000
open Go.Lib (hid)
namespace Go.Proofs.YtbiboekhakbnpaaGreatDoor
open Go Go.RowKit Go.Shelf Go.Maps

theorem Blk.part {w : World} {b : Nat} {a : GP} {t : TypeId} (h : Blk w b (partV a) t) : w.cell? ⟨b, 0, none⟩ = some (.int .u64 (bW a.fst 0).toNat) /\ w.cell? ⟨b, 1, none⟩ = some (.int .u64 (bW a.fst 1).toNat) /\ w.cell? ⟨b, 2, none⟩ = some (.int .u64 (bW a.fst 2).toNat) /\ w.cell? ⟨b, 3, none⟩ = some (.int .u64 (bW a.fst 3).toNat) /\ w.cell? ⟨b, 4, none⟩ = some (.int .u64 (bW a.fst 4).toNat) /\ w.cell? ⟨b, 5, none⟩ = some (.int .u64 (bW a.fst 5).toNat) /\ w.cell? ⟨b, 6, none⟩ = some (.int .u64 (bW a.fst 6).toNat) /\ w.cell? ⟨b, 7, none⟩ = some (.int .u64 (bW a.lst 0).toNat) /\ w.cell? ⟨b, 8, none⟩ = some (.int .u64 (bW a.lst 1).toNat) /\ w.cell? ⟨b, 9, none⟩ = some (.int .u64 (bW a.lst 2).toNat) /\ w.cell? ⟨b, 10, none⟩ = some (.int .u64 (bW a.lst 3).toNat) /\ w.cell? ⟨b, 11, none⟩ = some (.int .u64 (bW a.lst 4).toNat) /\ w.cell? ⟨b, 12, none⟩ = some (.int .u64 (bW a.lst 5).toNat) /\ w.cell? ⟨b, 13, none⟩ = some (.int .u64 (bW a.lst 6).toNat) /\ w.cell? ⟨b, 14, none⟩ = some (.bool a.emp) :=
 ⟨h.cell 0, h.cell 1, h.cell 2, h.cell 3, h.cell 4, h.cell 5, h.cell 6, h.cell 7, h.cell 8, h.cell 9, h.cell 10, h.cell 11, h.cell 12, h.cell 13, h.cell 14⟩
theorem Blk.partZ {w : World} {b : Nat} {a : GP} {t : TypeId} (h : Blk w b (partV a) t) : w.frozen? ⟨b, 0, none⟩ = false /\ w.frozen? ⟨b, 1, none⟩ = false /\ w.frozen? ⟨b, 2, none⟩ = false /\ w.frozen? ⟨b, 3, none⟩ = false /\ w.frozen? ⟨b, 4, none⟩ = false /\ w.frozen? ⟨b, 5, none⟩ = false /\ w.frozen? ⟨b, 6, none⟩ = false /\ w.frozen? ⟨b, 7, none⟩ = false /\ w.frozen? ⟨b, 8, none⟩ = false /\ w.frozen? ⟨b, 9, none⟩ = false /\ w.frozen? ⟨b, 10, none⟩ = false /\ w.frozen? ⟨b, 11, none⟩ = false /\ w.frozen? ⟨b, 12, none⟩ = false /\ w.frozen? ⟨b, 13, none⟩ = false /\ w.frozen? ⟨b, 14, none⟩ = false :=
 ⟨h.frozen 0, h.frozen 1, h.frozen 2, h.frozen 3, h.frozen 4, h.frozen 5, h.frozen 6, h.frozen 7, h.frozen 8, h.frozen 9, h.frozen 10, h.frozen 11, h.frozen 12, h.frozen 13, h.frozen 14⟩
theorem Blk.setPart {w : World} {b : Nat} {x0 x1 x2 x3 x4 x5 x6 x7 x8 x9 x10 x11 x12 x13 x14 : Value} {t : TypeId} (h : Blk w b #[x0, x1, x2, x3, x4, x5, x6, x7, x8, x9, x10, x11, x12, x13, x14] t) (a : GP) : Blk (((((((((((((((w.setCell ⟨b, 0, none⟩ (.int .u64 (bW a.fst 0).toNat)).setCell ⟨b, 1, none⟩ (.int .u64 (bW a.fst 1).toNat)).setCell ⟨b, 2, none⟩ (.int .u64 (bW a.fst 2).toNat)).setCell ⟨b, 3, none⟩ (.int .u64 (bW a.fst 3).toNat)).setCell ⟨b, 4, none⟩ (.int .u64 (bW a.fst 4).toNat)).setCell ⟨b, 5, none⟩ (.int .u64 (bW a.fst 5).toNat)).setCell ⟨b, 6, none⟩ (.int .u64 (bW a.fst 6).toNat)).setCell ⟨b, 7, none⟩ (.int .u64 (bW a.lst 0).toNat)).setCell ⟨b, 8, none⟩ (.int .u64 (bW a.lst 1).toNat)).setCell ⟨b, 9, none⟩ (.int .u64 (bW a.lst 2).toNat)).setCell ⟨b, 10, none⟩ (.int .u64 (bW a.lst 3).toNat)).setCell ⟨b, 11, none⟩ (.int .u64 (bW a.lst 4).toNat)).setCell ⟨b, 12, none⟩ (.int .u64 (bW a.lst 5).toNat)).setCell ⟨b, 13, none⟩ (.int .u64 (bW a.lst 6).toNat)).setCell ⟨b, 14, none⟩ (.bool a.emp)) b (partV a) t := by
 have h1 : Blk (w.setCell ⟨b, 0, none⟩ (.int .u64 (bW a.fst 0).toNat)) b #[(.int .u64 (bW a.fst 0).toNat), x1, x2, x3, x4, x5, x6, x7, x8, x9, x10, x11, x12, x13, x14] t := h.setS 0 _ rfl
 have h2 : Blk ((w.setCell ⟨b, 0, none⟩ (.int .u64 (bW a.fst 0).toNat)).setCell ⟨b, 1, none⟩ (.int .u64 (bW a.fst 1).toNat)) b #[(.int .u64 (bW a.fst 0).toNat), (.int .u64 (bW a.fst 1).toNat), x2, x3, x4, x5, x6, x7, x8, x9, x10, x11, x12, x13, x14] t := h1.setS 1 _ rfl
 have h3 : Blk (((w.setCell ⟨b, 0, none⟩ (.int .u64 (bW a.fst 0).toNat)).setCell ⟨b, 1, none⟩ (.int .u64 (bW a.fst 1).toNat)).setCell ⟨b, 2, none⟩ (.int .u64 (bW a.fst 2).toNat)) b #[(.int .u64 (bW a.fst 0).toNat), (.int .u64 (bW a.fst 1).toNat), (.int .u64 (bW a.fst 2).toNat), x3, x4, x5, x6, x7, x8, x9, x10, x11, x12, x13, x14] t := h2.setS 2 _ rfl
 have h4 : Blk ((((w.setCell ⟨b, 0, none⟩ (.int .u64 (bW a.fst 0).toNat)).setCell ⟨b, 1, none⟩ (.int .u64 (bW a.fst 1).toNat)).setCell ⟨b, 2, none⟩ (.int .u64 (bW a.fst 2).toNat)).setCell ⟨b, 3, none⟩ (.int .u64 (bW a.fst 3).toNat)) b #[(.int .u64 (bW a.fst 0).toNat), (.int .u64 (bW a.fst 1).toNat), (.int .u64 (bW a.fst 2).toNat), (.int .u64 (bW a.fst 3).toNat), x4, x5, x6, x7, x8, x9, x10, x11, x12, x13, x14] t := h3.setS 3 _ rfl
 have h5 : Blk (((((w.setCell ⟨b, 0, none⟩ (.int .u64 (bW a.fst 0).toNat)).setCell ⟨b, 1, none⟩ (.int .u64 (bW a.fst 1).toNat)).setCell ⟨b, 2, none⟩ (.int .u64 (bW a.fst 2).toNat)).setCell ⟨b, 3, none⟩ (.int .u64 (bW a.fst 3).toNat)).setCell ⟨b, 4, none⟩ (.int .u64 (bW a.fst 4).toNat)) b #[(.int .u64 (bW a.fst 0).toNat), (.int .u64 (bW a.fst 1).toNat), (.int .u64 (bW a.fst 2).toNat), (.int .u64 (bW a.fst 3).toNat), (.int .u64 (bW a.fst 4).toNat), x5, x6, x7, x8, x9, x10, x11, x12, x13, x14] t := h4.setS 4 _ rfl
 have h6 : Blk ((((((w.setCell ⟨b, 0, none⟩ (.int .u64 (bW a.fst 0).toNat)).setCell ⟨b, 1, none⟩ (.int .u64 (bW a.fst 1).toNat)).setCell ⟨b, 2, none⟩ (.int .u64 (bW a.fst 2).toNat)).setCell ⟨b, 3, none⟩ (.int .u64 (bW a.fst 3).toNat)).setCell ⟨b, 4, none⟩ (.int .u64 (bW a.fst 4).toNat)).setCell ⟨b, 5, none⟩ (.int .u64 (bW a.fst 5).toNat)) b #[(.int .u64 (bW a.fst 0).toNat), (.int .u64 (bW a.fst 1).toNat), (.int .u64 (bW a.fst 2).toNat), (.int .u64 (bW a.fst 3).toNat), (.int .u64 (bW a.fst 4).toNat), (.int .u64 (bW a.fst 5).toNat), x6, x7, x8, x9, x10, x11, x12, x13, x14] t := h5.setS 5 _ rfl
 have h7 : Blk (((((((w.setCell ⟨b, 0, none⟩ (.int .u64 (bW a.fst 0).toNat)).setCell ⟨b, 1, none⟩ (.int .u64 (bW a.fst 1).toNat)).setCell ⟨b, 2, none⟩ (.int .u64 (bW a.fst 2).toNat)).setCell ⟨b, 3, none⟩ (.int .u64 (bW a.fst 3).toNat)).setCell ⟨b, 4, none⟩ (.int .u64 (bW a.fst 4).toNat)).setCell ⟨b, 5, none⟩ (.int .u64 (bW a.fst 5).toNat)).setCell ⟨b, 6, none⟩ (.int .u64 (bW a.fst 6).toNat)) b #[(.int .u64 (bW a.fst 0).toNat), (.int .u64 (bW a.fst 1).toNat), (.int .u64 (bW a.fst 2).toNat), (.int .u64 (bW a.fst 3).toNat), (.int .u64 (bW a.fst 4).toNat), (.int .u64 (bW a.fst 5).toNat), (.int .u64 (bW a.fst 6).toNat), x7, x8, x9, x10, x11, x12, x13, x14] t := h6.setS 6 _ rfl
 have h8 : Blk ((((((((w.setCell ⟨b, 0, none⟩ (.int .u64 (bW a.fst 0).toNat)).setCell ⟨b, 1, none⟩ (.int .u64 (bW a.fst 1).toNat)).setCell ⟨b, 2, none⟩ (.int .u64 (bW a.fst 2).toNat)).setCell ⟨b, 3, none⟩ (.int .u64 (bW a.fst 3).toNat)).setCell ⟨b, 4, none⟩ (.int .u64 (bW a.fst 4).toNat)).setCell ⟨b, 5, none⟩ (.int .u64 (bW a.fst 5).toNat)).setCell ⟨b, 6, none⟩ (.int .u64 (bW a.fst 6).toNat)).setCell ⟨b, 7, none⟩ (.int .u64 (bW a.lst 0).toNat)) b #[(.int .u64 (bW a.fst 0).toNat), (.int .u64 (bW a.fst 1).toNat), (.int .u64 (bW a.fst 2).toNat), (.int .u64 (bW a.fst 3).toNat), (.int .u64 (bW a.fst 4).toNat), (.int .u64 (bW a.fst 5).toNat), (.int .u64 (bW a.fst 6).toNat), (.int .u64 (bW a.lst 0).toNat), x8, x9, x10, x11, x12, x13, x14] t := h7.setS 7 _ rfl
 have h9 : Blk (((((((((w.setCell ⟨b, 0, none⟩ (.int .u64 (bW a.fst 0).toNat)).setCell ⟨b, 1, none⟩ (.int .u64 (bW a.fst 1).toNat)).setCell ⟨b, 2, none⟩ (.int .u64 (bW a.fst 2).toNat)).setCell ⟨b, 3, none⟩ (.int .u64 (bW a.fst 3).toNat)).setCell ⟨b, 4, none⟩ (.int .u64 (bW a.fst 4).toNat)).setCell ⟨b, 5, none⟩ (.int .u64 (bW a.fst 5).toNat)).setCell ⟨b, 6, none⟩ (.int .u64 (bW a.fst 6).toNat)).setCell ⟨b, 7, none⟩ (.int .u64 (bW a.lst 0).toNat)).setCell ⟨b, 8, none⟩ (.int .u64 (bW a.lst 1).toNat)) b #[(.int .u64 (bW a.fst 0).toNat), (.int .u64 (bW a.fst 1).toNat), (.int .u64 (bW a.fst 2).toNat), (.int .u64 (bW a.fst 3).toNat), (.int .u64 (bW a.fst 4).toNat), (.int .u64 (bW a.fst 5).toNat), (.int .u64 (bW a.fst 6).toNat), (.int .u64 (bW a.lst 0).toNat), (.int .u64 (bW a.lst 1).toNat), x9, x10, x11, x12, x13, x14] t := h8.setS 8 _ rfl
 have h10 : Blk ((((((((((w.setCell ⟨b, 0, none⟩ (.int .u64 (bW a.fst 0).toNat)).setCell ⟨b, 1, none⟩ (.int .u64 (bW a.fst 1).toNat)).setCell ⟨b, 2, none⟩ (.int .u64 (bW a.fst 2).toNat)).setCell ⟨b, 3, none⟩ (.int .u64 (bW a.fst 3).toNat)).setCell ⟨b, 4, none⟩ (.int .u64 (bW a.fst 4).toNat)).setCell ⟨b, 5, none⟩ (.int .u64 (bW a.fst 5).toNat)).setCell ⟨b, 6, none⟩ (.int .u64 (bW a.fst 6).toNat)).setCell ⟨b, 7, none⟩ (.int .u64 (bW a.lst 0).toNat)).setCell ⟨b, 8, none⟩ (.int .u64 (bW a.lst 1).toNat)).setCell ⟨b, 9, none⟩ (.int .u64 (bW a.lst 2).toNat)) b #[(.int .u64 (bW a.fst 0).toNat), (.int .u64 (bW a.fst 1).toNat), (.int .u64 (bW a.fst 2).toNat), (.int .u64 (bW a.fst 3).toNat), (.int .u64 (bW a.fst 4).toNat), (.int .u64 (bW a.fst 5).toNat), (.int .u64 (bW a.fst 6).toNat), (.int .u64 (bW a.lst 0).toNat), (.int .u64 (bW a.lst 1).toNat), (.int .u64 (bW a.lst 2).toNat), x10, x11, x12, x13, x14] t := h9.setS 9 _ rfl
 have h11 : Blk (((((((((((w.setCell ⟨b, 0, none⟩ (.int .u64 (bW a.fst 0).toNat)).setCell ⟨b, 1, none⟩ (.int .u64 (bW a.fst 1).toNat)).setCell ⟨b, 2, none⟩ (.int .u64 (bW a.fst 2).toNat)).setCell ⟨b, 3, none⟩ (.int .u64 (bW a.fst 3).toNat)).setCell ⟨b, 4, none⟩ (.int .u64 (bW a.fst 4).toNat)).setCell ⟨b, 5, none⟩ (.int .u64 (bW a.fst 5).toNat)).setCell ⟨b, 6, none⟩ (.int .u64 (bW a.fst 6).toNat)).setCell ⟨b, 7, none⟩ (.int .u64 (bW a.lst 0).toNat)).setCell ⟨b, 8, none⟩ (.int .u64 (bW a.lst 1).toNat)).setCell ⟨b, 9, none⟩ (.int .u64 (bW a.lst 2).toNat)).setCell ⟨b, 10, none⟩ (.int .u64 (bW a.lst 3).toNat)) b #[(.int .u64 (bW a.fst 0).toNat), (.int .u64 (bW a.fst 1).toNat), (.int .u64 (bW a.fst 2).toNat), (.int .u64 (bW a.fst 3).toNat), (.int .u64 (bW a.fst 4).toNat), (.int .u64 (bW a.fst 5).toNat), (.int .u64 (bW a.fst 6).toNat), (.int .u64 (bW a.lst 0).toNat), (.int .u64 (bW a.lst 1).toNat), (.int .u64 (bW a.lst 2).toNat), (.int .u64 (bW a.lst 3).toNat), x11, x12, x13, x14] t := h10.setS 10 _ rfl
 have h12 : Blk ((((((((((((w.setCell ⟨b, 0, none⟩ (.int .u64 (bW a.fst 0).toNat)).setCell ⟨b, 1, none⟩ (.int .u64 (bW a.fst 1).toNat)).setCell ⟨b, 2, none⟩ (.int .u64 (bW a.fst 2).toNat)).setCell ⟨b, 3, none⟩ (.int .u64 (bW a.fst 3).toNat)).setCell ⟨b, 4, none⟩ (.int .u64 (bW a.fst 4).toNat)).setCell ⟨b, 5, none⟩ (.int .u64 (bW a.fst 5).toNat)).setCell ⟨b, 6, none⟩ (.int .u64 (bW a.fst 6).toNat)).setCell ⟨b, 7, none⟩ (.int .u64 (bW a.lst 0).toNat)).setCell ⟨b, 8, none⟩ (.int .u64 (bW a.lst 1).toNat)).setCell ⟨b, 9, none⟩ (.int .u64 (bW a.lst 2).toNat)).setCell ⟨b, 10, none⟩ (.int .u64 (bW a.lst 3).toNat)).setCell ⟨b, 11, none⟩ (.int .u64 (bW a.lst 4).toNat)) b #[(.int .u64 (bW a.fst 0).toNat), (.int .u64 (bW a.fst 1).toNat), (.int .u64 (bW a.fst 2).toNat), (.int .u64 (bW a.fst 3).toNat), (.int .u64 (bW a.fst 4).toNat), (.int .u64 (bW a.fst 5).toNat), (.int .u64 (bW a.fst 6).toNat), (.int .u64 (bW a.lst 0).toNat), (.int .u64 (bW a.lst 1).toNat), (.int .u64 (bW a.lst 2).toNat), (.int .u64 (bW a.lst 3).toNat), (.int .u64 (bW a.lst 4).toNat), x12, x13, x14] t := h11.setS 11 _ rfl
 have h13 : Blk (((((((((((((w.setCell ⟨b, 0, none⟩ (.int .u64 (bW a.fst 0).toNat)).setCell ⟨b, 1, none⟩ (.int .u64 (bW a.fst 1).toNat)).setCell ⟨b, 2, none⟩ (.int .u64 (bW a.fst 2).toNat)).setCell ⟨b, 3, none⟩ (.int .u64 (bW a.fst 3).toNat)).setCell ⟨b, 4, none⟩ (.int .u64 (bW a.fst 4).toNat)).setCell ⟨b, 5, none⟩ (.int .u64 (bW a.fst 5).toNat)).setCell ⟨b, 6, none⟩ (.int .u64 (bW a.fst 6).toNat)).setCell ⟨b, 7, none⟩ (.int .u64 (bW a.lst 0).toNat)).setCell ⟨b, 8, none⟩ (.int .u64 (bW a.lst 1).toNat)).setCell ⟨b, 9, none⟩ (.int .u64 (bW a.lst 2).toNat)).setCell ⟨b, 10, none⟩ (.int .u64 (bW a.lst 3).toNat)).setCell ⟨b, 11, none⟩ (.int .u64 (bW a.lst 4).toNat)).setCell ⟨b, 12, none⟩ (.int .u64 (bW a.lst 5).toNat)) b #[(.int .u64 (bW a.fst 0).toNat), (.int .u64 (bW a.fst 1).toNat), (.int .u64 (bW a.fst 2).toNat), (.int .u64 (bW a.fst 3).toNat), (.int .u64 (bW a.fst 4).toNat), (.int .u64 (bW a.fst 5).toNat), (.int .u64 (bW a.fst 6).toNat), (.int .u64 (bW a.lst 0).toNat), (.int .u64 (bW a.lst 1).toNat), (.int .u64 (bW a.lst 2).toNat), (.int .u64 (bW a.lst 3).toNat), (.int .u64 (bW a.lst 4).toNat), (.int .u64 (bW a.lst 5).toNat), x13, x14] t := h12.setS 12 _ rfl
 have h14 : Blk ((((((((((((((w.setCell ⟨b, 0, none⟩ (.int .u64 (bW a.fst 0).toNat)).setCell ⟨b, 1, none⟩ (.int .u64 (bW a.fst 1).toNat)).setCell ⟨b, 2, none⟩ (.int .u64 (bW a.fst 2).toNat)).setCell ⟨b, 3, none⟩ (.int .u64 (bW a.fst 3).toNat)).setCell ⟨b, 4, none⟩ (.int .u64 (bW a.fst 4).toNat)).setCell ⟨b, 5, none⟩ (.int .u64 (bW a.fst 5).toNat)).setCell ⟨b, 6, none⟩ (.int .u64 (bW a.fst 6).toNat)).setCell ⟨b, 7, none⟩ (.int .u64 (bW a.lst 0).toNat)).setCell ⟨b, 8, none⟩ (.int .u64 (bW a.lst 1).toNat)).setCell ⟨b, 9, none⟩ (.int .u64 (bW a.lst 2).toNat)).setCell ⟨b, 10, none⟩ (.int .u64 (bW a.lst 3).toNat)).setCell ⟨b, 11, none⟩ (.int .u64 (bW a.lst 4).toNat)).setCell ⟨b, 12, none⟩ (.int .u64 (bW a.lst 5).toNat)).setCell ⟨b, 13, none⟩ (.int .u64 (bW a.lst 6).toNat)) b #[(.int .u64 (bW a.fst 0).toNat), (.int .u64 (bW a.fst 1).toNat), (.int .u64 (bW a.fst 2).toNat), (.int .u64 (bW a.fst 3).toNat), (.int .u64 (bW a.fst 4).toNat), (.int .u64 (bW a.fst 5).toNat), (.int .u64 (bW a.fst 6).toNat), (.int .u64 (bW a.lst 0).toNat), (.int .u64 (bW a.lst 1).toNat), (.int .u64 (bW a.lst 2).toNat), (.int .u64 (bW a.lst 3).toNat), (.int .u64 (bW a.lst 4).toNat), (.int .u64 (bW a.lst 5).toNat), (.int .u64 (bW a.lst 6).toNat), x14] t := h13.setS 13 _ rfl
 have h15 : Blk (((((((((((((((w.setCell ⟨b, 0, none⟩ (.int .u64 (bW a.fst 0).toNat)).setCell ⟨b, 1, none⟩ (.int .u64 (bW a.fst 1).toNat)).setCell ⟨b, 2, none⟩ (.int .u64 (bW a.fst 2).toNat)).setCell ⟨b, 3, none⟩ (.int .u64 (bW a.fst 3).toNat)).setCell ⟨b, 4, none⟩ (.int .u64 (bW a.fst 4).toNat)).setCell ⟨b, 5, none⟩ (.int .u64 (bW a.fst 5).toNat)).setCell ⟨b, 6, none⟩ (.int .u64 (bW a.fst 6).toNat)).setCell ⟨b, 7, none⟩ (.int .u64 (bW a.lst 0).toNat)).setCell ⟨b, 8, none⟩ (.int .u64 (bW a.lst 1).toNat)).setCell ⟨b, 9, none⟩ (.int .u64 (bW a.lst 2).toNat)).setCell ⟨b, 10, none⟩ (.int .u64 (bW a.lst 3).toNat)).setCell ⟨b, 11, none⟩ (.int .u64 (bW a.lst 4).toNat)).setCell ⟨b, 12, none⟩ (.int .u64 (bW a.lst 5).toNat)).setCell ⟨b, 13, none⟩ (.int .u64 (bW a.lst 6).toNat)).setCell ⟨b, 14, none⟩ (.bool a.emp)) b #[(.int .u64 (bW a.fst 0).toNat), (.int .u64 (bW a.fst 1).toNat), (.int .u64 (bW a.fst 2).toNat), (.int .u64 (bW a.fst 3).toNat), (.int .u64 (bW a.fst 4).toNat), (.int .u64 (bW a.fst 5).toNat), (.int .u64 (bW a.fst 6).toNat), (.int .u64 (bW a.lst 0).toNat), (.int .u64 (bW a.lst 1).toNat), (.int .u64 (bW a.lst 2).toNat), (.int .u64 (bW a.lst 3).toNat), (.int .u64 (bW a.lst 4).toNat), (.int .u64 (bW a.lst 5).toNat), (.int .u64 (bW a.lst 6).toNat), (.bool a.emp)] t := h14.setS 14 _ rfl
 exact h15
theorem keeps_setPart (w : World) (b : Nat) (a : GP) : Keeps (· ≠ b) w (((((((((((((((w.setCell ⟨b, 0, none⟩ (.int .u64 (bW a.fst 0).toNat)).setCell ⟨b, 1, none⟩ (.int .u64 (bW a.fst 1).toNat)).setCell ⟨b, 2, none⟩ (.int .u64 (bW a.fst 2).toNat)).setCell ⟨b, 3, none⟩ (.int .u64 (bW a.fst 3).toNat)).setCell ⟨b, 4, none⟩ (.int .u64 (bW a.fst 4).toNat)).setCell ⟨b, 5, none⟩ (.int .u64 (bW a.fst 5).toNat)).setCell ⟨b, 6, none⟩ (.int .u64 (bW a.fst 6).toNat)).setCell ⟨b, 7, none⟩ (.int .u64 (bW a.lst 0).toNat)).setCell ⟨b, 8, none⟩ (.int .u64 (bW a.lst 1).toNat)).setCell ⟨b, 9, none⟩ (.int .u64 (bW a.lst 2).toNat)).setCell ⟨b, 10, none⟩ (.int .u64 (bW a.lst 3).toNat)).setCell ⟨b, 11, none⟩ (.int .u64 (bW a.lst 4).toNat)).setCell ⟨b, 12, none⟩ (.int .u64 (bW a.lst 5).toNat)).setCell ⟨b, 13, none⟩ (.int .u64 (bW a.lst 6).toNat)).setCell ⟨b, 14, none⟩ (.bool a.emp)) :=
 (((((((((((((((Keeps.refl _ _).setCell (fun e => e rfl) _).setCell (fun e => e rfl) _).setCell (fun e => e rfl) _).setCell (fun e => e rfl) _).setCell (fun e => e rfl) _).setCell (fun e => e rfl) _).setCell (fun e => e rfl) _).setCell (fun e => e rfl) _).setCell (fun e => e rfl) _).setCell (fun e => e rfl) _).setCell (fun e => e rfl) _).setCell (fun e => e rfl) _).setCell (fun e => e rfl) _).setCell (fun e => e rfl) _).setCell (fun e => e rfl) _
theorem mthen_false_false (base M : Nat) (F : Nat -> Prop) (m : GM) (af al bf bl : PB) (w : World) (h : MkS base M F w m) (ha : PBlt al m.fol.length) (hn : m.fol.length <= 448) :
  Calls Tryz.prog 143 #[.pointer (some ⟨M, 0, none⟩), .agg (partV ⟨af, al, false⟩), .agg (partV ⟨bf, bl, false⟩)] w fun e w' => e = .returned (.agg (partV (thenG m ⟨af, al, false⟩ ⟨bf, bl, false⟩).2)) /\ MkS base M F w' (thenG m ⟨af, al, false⟩ ⟨bf, bl, false⟩).1 /\ Keeps (fun x => x < w.heap.size /\ ¬ F x) w w' := by
 have CL : Hid (∀ W, Keeps (fun x => x < w.heap.size) w W -> Calls Tryz.prog 173 #[.pointer (some ⟨M, 0, none⟩), .agg (encW (bW al)), .agg (encW (bW bf))] W fun e w' => (∃ u, e = .returned u) /\ MkS base M F w' (loopG m al bf) /\ Keeps (fun x => x < W.heap.size /\ ¬ F x) W w') := hid fun W hW => mloop_any base M F m al bf W (h.keeps hW fun x hx => (h.lt x hx).2) ha hn
 have HF : Hid (∀ x, F x -> x < w.heap.size) := hid fun x hx => (h.lt x hx).2
 obtain ⟨m2, hm2⟩ : ∃ m2, m2 = loopG m al bf := ⟨_, rfl⟩
 rw [<- hm2] at CL
 have hg1 : (thenG m ⟨af, al, false⟩ ⟨bf, bl, false⟩).1 = m2 := hm2.symm
 have hg2 : (thenG m ⟨af, al, false⟩ ⟨bf, bl, false⟩).2 = ⟨af, bl, false⟩ := rfl
 rw [hg1, hg2]
 clear h ha hn hm2 hg1 hg2
 generalize hpa : partV ⟨af, al, false⟩ = pa
 generalize hpb : partV ⟨bf, bl, false⟩ = pb
 have HPA := hid hpa
 have HPB := hid hpb
 clear hpa hpb
 rw [<- HPA.out, <- HPB.out]
 unfold partV
 dsimp only
 go_enter Tryz.func143, Tryz.ntmps143
 go_wp2_with fail
 refine calls_named ?_
 intro V hV
 have A1 : Hid (Blk V w.heap.size (partV ⟨af, al, false⟩) 131) := by rw [hV]; exact hid (((Blk.new _ _ _).alloc _).alloc _)
 have B1 : Hid (Blk V (w.heap.size + 1) (partV ⟨bf, bl, false⟩) 131) := by rw [hV]; exact hid (((Blk.new _ _ _).at (by simp)).alloc _)
 have R1 : Hid (Blk V (w.heap.size + 1 + 1) #[.int .u64 0, .int .u64 0, .int .u64 0, .int .u64 0, .int .u64 0, .int .u64 0, .int .u64 0, .int .u64 0, .int .u64 0, .int .u64 0, .int .u64 0, .int .u64 0, .int .u64 0, .int .u64 0, .bool false] 131) := by rw [hV]; exact hid ((Blk.new _ _ _).at (by simp))
 have X1 : Hid (Keeps (· < w.heap.size) w V) := by rw [hV]; exact hid ((((Ext.refl _).alloc _).alloc _).alloc _).keeps
 clear hV
 refine (CL.out V X1.out).mono ?_
 rintro e w2 ⟨⟨u, rfl⟩, hm, hx⟩
 have hnF : ∀ k, w.heap.size <= k -> ¬ F k := fun k hk e => by have := HF.out k e; omega
 have A2 := hid (A1.out.keeps hx ⟨A1.out.lt, hnF _ (by omega)⟩)
 have B2 := hid (B1.out.keeps hx ⟨B1.out.lt, hnF _ (by omega)⟩)
 have R2 := hid (R1.out.keeps hx ⟨R1.out.lt, hnF _ (by omega)⟩)
 have X2 : Hid (Keeps (fun x => x < w.heap.size /\ ¬ F x) w w2) := hid ((X1.out.mono fun x hx => hx.1).tr (hx.mono fun x hx => ⟨by have := A1.out.lt; have := hx.1; omega, hx.2⟩))
 have hs2 : w.heap.size + 1 + 1 < w2.heap.size := R2.out.lt
 have HM := hid hm
 have HNF := hid hnF
 clear hx hm A1 B1 R1 X1 CL hnF
 obtain ⟨a0, a1, a2, a3, a4, a5, a6, a7, a8, a9, a10, a11, a12, a13, a14⟩ := (A2.out).part
 obtain ⟨b0, b1, b2, b3, b4, b5, b6, b7, b8, b9, b10, b11, b12, b13, b14⟩ := (B2.out).part
 dsimp only at a0 a1 a2 a3 a4 a5 a6 a7 a8 a9 a10 a11 a12 a13 a14 b0 b1 b2 b3 b4 b5 b6 b7 b8 b9 b10 b11 b12 b13 b14
 go_upto_region 3 with fail
 refine wp_named ?_
 intro V2 hV2
 have O2 : Hid (Blk V2 w2.heap.size (partV ⟨af, bl, false⟩) 131) := by rw [hV2]; exact hid (Blk.new _ _ _)
 have E2 : Ext w2 V2 := by rw [hV2]; exact (Ext.refl _).alloc _
 have A3 := hid (A2.out.ext E2)
 have B3 := hid (B2.out.ext E2)
 have R3 := hid (R2.out.ext E2)
 have M3 := hid (HM.out.keeps E2.keeps fun x hx => (HM.out.lt x hx).2)
 have X3 := hid (X2.out.tr (E2.mono fun x hx => by have := hx.1; omega))
 have hs3 : w2.heap.size < V2.heap.size := O2.out.lt
 clear hV2 E2 A2 B2 R2 HM X2 a0 a1 a2 a3 a4 a5 a6 a7 a8 a9 a10 a11 a12 a13 a14 b0 b1 b2 b3 b4 b5 b6 b7 b8 b9 b10 b11 b12 b13 b14
 obtain ⟨a0, a1, a2, a3, a4, a5, a6, a7, a8, a9, a10, a11, a12, a13, a14⟩ := A3.out.part
 obtain ⟨b0, b1, b2, b3, b4, b5, b6, b7, b8, b9, b10, b11, b12, b13, b14⟩ := B3.out.part
 obtain ⟨o0, o1, o2, o3, o4, o5, o6, o7, o8, o9, o10, o11, o12, o13, o14⟩ := O2.out.part
 obtain ⟨oz0, oz1, oz2, oz3, oz4, oz5, oz6, oz7, oz8, oz9, oz10, oz11, oz12, oz13, oz14⟩ := O2.out.partZ
 dsimp only at a0 a1 a2 a3 a4 a5 a6 a7 a8 a9 a10 a11 a12 a13 a14 b0 b1 b2 b3 b4 b5 b6 b7 b8 b9 b10 b11 b12 b13 b14 o0 o1 o2 o3 o4 o5 o6 o7 o8 o9 o10 o11 o12 o13 o14
 have rc := fun i => R3.out.cell i
 have rf := fun i => R3.out.frozen i
 have r14 : V2.cell? ⟨w.heap.size + 1 + 1, 14, none⟩ = some (.bool false) := rc 14
 obtain ⟨s0, s1, s2, s3, s4, s5, s6, s7, s8, s9, s10, s11, s12, s13⟩ : V2.cell? ⟨w.heap.size + 1 + 1, 0, none⟩ = some (.int .u64 0) /\ V2.cell? ⟨w.heap.size + 1 + 1, 1, none⟩ = some (.int .u64 0) /\ V2.cell? ⟨w.heap.size + 1 + 1, 2, none⟩ = some (.int .u64 0) /\ V2.cell? ⟨w.heap.size + 1 + 1, 3, none⟩ = some (.int .u64 0) /\ V2.cell? ⟨w.heap.size + 1 + 1, 4, none⟩ = some (.int .u64 0) /\ V2.cell? ⟨w.heap.size + 1 + 1, 5, none⟩ = some (.int .u64 0) /\ V2.cell? ⟨w.heap.size + 1 + 1, 6, none⟩ = some (.int .u64 0) /\ V2.cell? ⟨w.heap.size + 1 + 1, 7, none⟩ = some (.int .u64 0) /\ V2.cell? ⟨w.heap.size + 1 + 1, 8, none⟩ = some (.int .u64 0) /\ V2.cell? ⟨w.heap.size + 1 + 1, 9, none⟩ = some (.int .u64 0) /\ V2.cell? ⟨w.heap.size + 1 + 1, 10, none⟩ = some (.int .u64 0) /\ V2.cell? ⟨w.heap.size + 1 + 1, 11, none⟩ = some (.int .u64 0) /\ V2.cell? ⟨w.heap.size + 1 + 1, 12, none⟩ = some (.int .u64 0) /\ V2.cell? ⟨w.heap.size + 1 + 1, 13, none⟩ = some (.int .u64 0) := ⟨rc 0, rc 1, rc 2, rc 3, rc 4, rc 5, rc 6, rc 7, rc 8, rc 9, rc 10, rc 11, rc 12, rc 13⟩
 obtain ⟨f0, f1, f2, f3, f4, f5, f6, f7, f8, f9, f10, f11, f12, f13, f14⟩ : V2.frozen? ⟨w.heap.size + 1 + 1, 0, none⟩ = false /\ V2.frozen? ⟨w.heap.size + 1 + 1, 1, none⟩ = false /\ V2.frozen? ⟨w.heap.size + 1 + 1, 2, none⟩ = false /\ V2.frozen? ⟨w.heap.size + 1 + 1, 3, none⟩ = false /\ V2.frozen? ⟨w.heap.size + 1 + 1, 4, none⟩ = false /\ V2.frozen? ⟨w.heap.size + 1 + 1, 5, none⟩ = false /\ V2.frozen? ⟨w.heap.size + 1 + 1, 6, none⟩ = false /\ V2.frozen? ⟨w.heap.size + 1 + 1, 7, none⟩ = false /\ V2.frozen? ⟨w.heap.size + 1 + 1, 8, none⟩ = false /\ V2.frozen? ⟨w.heap.size + 1 + 1, 9, none⟩ = false /\ V2.frozen? ⟨w.heap.size + 1 + 1, 10, none⟩ = false /\ V2.frozen? ⟨w.heap.size + 1 + 1, 11, none⟩ = false /\ V2.frozen? ⟨w.heap.size + 1 + 1, 12, none⟩ = false /\ V2.frozen? ⟨w.heap.size + 1 + 1, 13, none⟩ = false /\ V2.frozen? ⟨w.heap.size + 1 + 1, 14, none⟩ = false := ⟨rf 0, rf 1, rf 2, rf 3, rf 4, rf 5, rf 6, rf 7, rf 8, rf 9, rf 10, rf 11, rf 12, rf 13, rf 14⟩
 clear rc rf
 go_wp2
 refine post_named ?_
 intro V3 hV3
 have R9 : Hid (Blk V3 (w.heap.size + 1 + 1) (partV ⟨af, bl, false⟩) 131) := by rw [hV3]; exact hid (R3.out.setPart ⟨af, bl, false⟩)
 have K9 : Keeps (· ≠ w.heap.size + 1 + 1) V2 V3 := by rw [hV3]; exact keeps_setPart _ _ ⟨af, bl, false⟩
 have M9 := M3.out.keeps K9 fun x hx => by have := HF.out x hx; omega
 have X9 := X3.out.tr (K9.mono fun x hx => by have := hx.1; omega)
 clear hV3
 obtain ⟨m0, m1, m2, m3, m4, m5, m6, m7, m8, m9, m10, m11, m12, m13, m14⟩ := R9.out.part
 dsimp only at m0 m1 m2 m3 m4 m5 m6 m7 m8 m9 m10 m11 m12 m13 m14
 refine bodyPost_ret (v := .agg (partV ⟨af, bl, false⟩)) (by simp [results, Tryz.results143, partV, go_sem, m0, m1, m2, m3, m4, m5, m6, m7, m8, m9, m10, m11, m12, m13, m14]) rfl ⟨rfl, M9, X9⟩
theorem mthen_false_true (base M : Nat) (F : Nat -> Prop) (m : GM) (af al bf bl : PB) (w : World) (h : MkS base M F w m) (ha : PBlt al m.fol.length) (hn : m.fol.length <= 448) :
  Calls Tryz.prog 143 #[.pointer (some ⟨M, 0, none⟩), .agg (partV ⟨af, al, false⟩), .agg (partV ⟨bf, bl, true⟩)] w fun e w' => e = .returned (.agg (partV (thenG m ⟨af, al, false⟩ ⟨bf, bl, true⟩).2)) /\ MkS base M F w' (thenG m ⟨af, al, false⟩ ⟨bf, bl, true⟩).1 /\ Keeps (fun x => x < w.heap.size /\ ¬ F x) w w' := by
 have CL : Hid (∀ W, Keeps (fun x => x < w.heap.size) w W -> Calls Tryz.prog 173 #[.pointer (some ⟨M, 0, none⟩), .agg (encW (bW al)), .agg (encW (bW bf))] W fun e w' => (∃ u, e = .returned u) /\ MkS base M F w' (loopG m al bf) /\ Keeps (fun x => x < W.heap.size /\ ¬ F x) W w') := hid fun W hW => mloop_any base M F m al bf W (h.keeps hW fun x hx => (h.lt x hx).2) ha hn
 have HF : Hid (∀ x, F x -> x < w.heap.size) := hid fun x hx => (h.lt x hx).2
 obtain ⟨m2, hm2⟩ : ∃ m2, m2 = loopG m al bf := ⟨_, rfl⟩
 rw [<- hm2] at CL
 have hg1 : (thenG m ⟨af, al, false⟩ ⟨bf, bl, true⟩).1 = m2 := hm2.symm
 have hg2 : (thenG m ⟨af, al, false⟩ ⟨bf, bl, true⟩).2 = ⟨af, bl ||| al, false⟩ := rfl
 rw [hg1, hg2]
 clear h ha hn hm2 hg1 hg2
 generalize hpa : partV ⟨af, al, false⟩ = pa
 generalize hpb : partV ⟨bf, bl, true⟩ = pb
 have HPA := hid hpa
 have HPB := hid hpb
 clear hpa hpb
 rw [<- HPA.out, <- HPB.out]
 unfold partV
 dsimp only
 go_enter Tryz.func143, Tryz.ntmps143
 go_wp2_with fail
 refine calls_named ?_
 intro V hV
 have A1 : Hid (Blk V w.heap.size (partV ⟨af, al, false⟩) 131) := by rw [hV]; exact hid (((Blk.new _ _ _).alloc _).alloc _)
 have B1 : Hid (Blk V (w.heap.size + 1) (partV ⟨bf, bl, true⟩) 131) := by rw [hV]; exact hid (((Blk.new _ _ _).at (by simp)).alloc _)
 have R1 : Hid (Blk V (w.heap.size + 1 + 1) #[.int .u64 0, .int .u64 0, .int .u64 0, .int .u64 0, .int .u64 0, .int .u64 0, .int .u64 0, .int .u64 0, .int .u64 0, .int .u64 0, .int .u64 0, .int .u64 0, .int .u64 0, .int .u64 0, .bool false] 131) := by rw [hV]; exact hid ((Blk.new _ _ _).at (by simp))
 have X1 : Hid (Keeps (· < w.heap.size) w V) := by rw [hV]; exact hid ((((Ext.refl _).alloc _).alloc _).alloc _).keeps
 clear hV
 refine (CL.out V X1.out).mono ?_
 rintro e w2 ⟨⟨u, rfl⟩, hm, hx⟩
 have hnF : ∀ k, w.heap.size <= k -> ¬ F k := fun k hk e => by have := HF.out k e; omega
 have A2 := hid (A1.out.keeps hx ⟨A1.out.lt, hnF _ (by omega)⟩)
 have B2 := hid (B1.out.keeps hx ⟨B1.out.lt, hnF _ (by omega)⟩)
 have R2 := hid (R1.out.keeps hx ⟨R1.out.lt, hnF _ (by omega)⟩)
 have X2 : Hid (Keeps (fun x => x < w.heap.size /\ ¬ F x) w w2) := hid ((X1.out.mono fun x hx => hx.1).tr (hx.mono fun x hx => ⟨by have := A1.out.lt; have := hx.1; omega, hx.2⟩))
 have hs2 : w.heap.size + 1 + 1 < w2.heap.size := R2.out.lt
 have HM := hid hm
 have HNF := hid hnF
 clear hx hm A1 B1 R1 X1 CL hnF
 obtain ⟨a0, a1, a2, a3, a4, a5, a6, a7, a8, a9, a10, a11, a12, a13, a14⟩ := (A2.out).part
 obtain ⟨b0, b1, b2, b3, b4, b5, b6, b7, b8, b9, b10, b11, b12, b13, b14⟩ := (B2.out).part
 dsimp only at a0 a1 a2 a3 a4 a5 a6 a7 a8 a9 a10 a11 a12 a13 a14 b0 b1 b2 b3 b4 b5 b6 b7 b8 b9 b10 b11 b12 b13 b14
 go_upto_region 3 with fail
 refine wp_named ?_
 intro V2 hV2
 have O2 : Hid (Blk V2 w2.heap.size (partV ⟨af, bl, false⟩) 131) := by rw [hV2]; exact hid (Blk.new _ _ _)
 have E2 : Ext w2 V2 := by rw [hV2]; exact (Ext.refl _).alloc _
 have A3 := hid (A2.out.ext E2)
 have B3 := hid (B2.out.ext E2)
 have R3 := hid (R2.out.ext E2)
 have M3 := hid (HM.out.keeps E2.keeps fun x hx => (HM.out.lt x hx).2)
 have X3 := hid (X2.out.tr (E2.mono fun x hx => by have := hx.1; omega))
 have hs3 : w2.heap.size < V2.heap.size := O2.out.lt
 clear hV2 E2 A2 B2 R2 HM X2 a0 a1 a2 a3 a4 a5 a6 a7 a8 a9 a10 a11 a12 a13 a14 b0 b1 b2 b3 b4 b5 b6 b7 b8 b9 b10 b11 b12 b13 b14
 obtain ⟨a0, a1, a2, a3, a4, a5, a6, a7, a8, a9, a10, a11, a12, a13, a14⟩ := A3.out.part
 obtain ⟨b0, b1, b2, b3, b4, b5, b6, b7, b8, b9, b10, b11, b12, b13, b14⟩ := B3.out.part
 obtain ⟨o0, o1, o2, o3, o4, o5, o6, o7, o8, o9, o10, o11, o12, o13, o14⟩ := O2.out.part
 obtain ⟨oz0, oz1, oz2, oz3, oz4, oz5, oz6, oz7, oz8, oz9, oz10, oz11, oz12, oz13, oz14⟩ := O2.out.partZ
 dsimp only at a0 a1 a2 a3 a4 a5 a6 a7 a8 a9 a10 a11 a12 a13 a14 b0 b1 b2 b3 b4 b5 b6 b7 b8 b9 b10 b11 b12 b13 b14 o0 o1 o2 o3 o4 o5 o6 o7 o8 o9 o10 o11 o12 o13 o14
 go_wp2_with fail
 clear a0 a1 a2 a3 a4 a5 a6 a7 a8 a9 a10 a11 a12 a13 a14 b0 b1 b2 b3 b4 b5 b6 b7 b8 b9 b10 b11 b12 b13 b14 o0 o1 o2 o3 o4 o5 o6 o7 o8 o9 o10 o11 o12 o13 o14 oz0 oz1 oz2 oz3 oz4 oz5 oz6 oz7 oz8 oz9 oz10 oz11 oz12 oz13 oz14
 refine (orAt_any (bW bl) (bW al) w2.heap.size 7 V2 (WdAt.lst O2.out) (fun i _ => O2.out.frozen _)).mono ?_
 rintro e w3 ⟨⟨u, rfl⟩, hx⟩
 have ks : Keeps (· ≠ w2.heap.size) V2 (setWds V2 w2.heap.size 7 (fun i => bW bl i ||| bW al i) 7) := setWds_keeps _ _ _ _ _
 have O3 : Hid (Blk w3 w2.heap.size (partV ⟨af, bl ||| al, false⟩) 131) := hid ((setWds_lst O2.out (bl ||| al) (fun i _ => (bW_or bl al i).symm)).keeps hx hs3)
 have kk : Keeps (fun x => x < V2.heap.size /\ x ≠ w2.heap.size) V2 w3 := (ks.mono fun x hx => hx.2).tr (hx.mono fun x hx => hx.1)
 have A4 := hid (A3.out.keeps kk ⟨A3.out.lt, by omega⟩)
 have B4 := hid (B3.out.keeps kk ⟨B3.out.lt, by omega⟩)
 have R4 := hid (R3.out.keeps kk ⟨R3.out.lt, by omega⟩)
 have M4 := hid (M3.out.keeps kk fun x hx => ⟨(M3.out.lt x hx).2, by have := HF.out x hx; omega⟩)
 have X4 := hid (X3.out.tr (kk.mono fun x hx => ⟨by have := hx.1; omega, by have := hx.1; omega⟩))
 have hs4 : w2.heap.size < w3.heap.size := O3.out.lt
 clear hx ks kk
 obtain ⟨a0, a1, a2, a3, a4, a5, a6, a7, a8, a9, a10, a11, a12, a13, a14⟩ := A4.out.part
 obtain ⟨b0, b1, b2, b3, b4, b5, b6, b7, b8, b9, b10, b11, b12, b13, b14⟩ := B4.out.part
 obtain ⟨o0, o1, o2, o3, o4, o5, o6, o7, o8, o9, o10, o11, o12, o13, o14⟩ := O3.out.part
 obtain ⟨oz0, oz1, oz2, oz3, oz4, oz5, oz6, oz7, oz8, oz9, oz10, oz11, oz12, oz13, oz14⟩ := O3.out.partZ
 dsimp only at a0 a1 a2 a3 a4 a5 a6 a7 a8 a9 a10 a11 a12 a13 a14 b0 b1 b2 b3 b4 b5 b6 b7 b8 b9 b10 b11 b12 b13 b14 o0 o1 o2 o3 o4 o5 o6 o7 o8 o9 o10 o11 o12 o13 o14
 have rc := fun i => R4.out.cell i
 have rf := fun i => R4.out.frozen i
 have r14 : w3.cell? ⟨w.heap.size + 1 + 1, 14, none⟩ = some (.bool false) := rc 14
 obtain ⟨s0, s1, s2, s3, s4, s5, s6, s7, s8, s9, s10, s11, s12, s13⟩ : w3.cell? ⟨w.heap.size + 1 + 1, 0, none⟩ = some (.int .u64 0) /\ w3.cell? ⟨w.heap.size + 1 + 1, 1, none⟩ = some (.int .u64 0) /\ w3.cell? ⟨w.heap.size + 1 + 1, 2, none⟩ = some (.int .u64 0) /\ w3.cell? ⟨w.heap.size + 1 + 1, 3, none⟩ = some (.int .u64 0) /\ w3.cell? ⟨w.heap.size + 1 + 1, 4, none⟩ = some (.int .u64 0) /\ w3.cell? ⟨w.heap.size + 1 + 1, 5, none⟩ = some (.int .u64 0) /\ w3.cell? ⟨w.heap.size + 1 + 1, 6, none⟩ = some (.int .u64 0) /\ w3.cell? ⟨w.heap.size + 1 + 1, 7, none⟩ = some (.int .u64 0) /\ w3.cell? ⟨w.heap.size + 1 + 1, 8, none⟩ = some (.int .u64 0) /\ w3.cell? ⟨w.heap.size + 1 + 1, 9, none⟩ = some (.int .u64 0) /\ w3.cell? ⟨w.heap.size + 1 + 1, 10, none⟩ = some (.int .u64 0) /\ w3.cell? ⟨w.heap.size + 1 + 1, 11, none⟩ = some (.int .u64 0) /\ w3.cell? ⟨w.heap.size + 1 + 1, 12, none⟩ = some (.int .u64 0) /\ w3.cell? ⟨w.heap.size + 1 + 1, 13, none⟩ = some (.int .u64 0) := ⟨rc 0, rc 1, rc 2, rc 3, rc 4, rc 5, rc 6, rc 7, rc 8, rc 9, rc 10, rc 11, rc 12, rc 13⟩
 obtain ⟨f0, f1, f2, f3, f4, f5, f6, f7, f8, f9, f10, f11, f12, f13, f14⟩ : w3.frozen? ⟨w.heap.size + 1 + 1, 0, none⟩ = false /\ w3.frozen? ⟨w.heap.size + 1 + 1, 1, none⟩ = false /\ w3.frozen? ⟨w.heap.size + 1 + 1, 2, none⟩ = false /\ w3.frozen? ⟨w.heap.size + 1 + 1, 3, none⟩ = false /\ w3.frozen? ⟨w.heap.size + 1 + 1, 4, none⟩ = false /\ w3.frozen? ⟨w.heap.size + 1 + 1, 5, none⟩ = false /\ w3.frozen? ⟨w.heap.size + 1 + 1, 6, none⟩ = false /\ w3.frozen? ⟨w.heap.size + 1 + 1, 7, none⟩ = false /\ w3.frozen? ⟨w.heap.size + 1 + 1, 8, none⟩ = false /\ w3.frozen? ⟨w.heap.size + 1 + 1, 9, none⟩ = false /\ w3.frozen? ⟨w.heap.size + 1 + 1, 10, none⟩ = false /\ w3.frozen? ⟨w.heap.size + 1 + 1, 11, none⟩ = false /\ w3.frozen? ⟨w.heap.size + 1 + 1, 12, none⟩ = false /\ w3.frozen? ⟨w.heap.size + 1 + 1, 13, none⟩ = false /\ w3.frozen? ⟨w.heap.size + 1 + 1, 14, none⟩ = false := ⟨rf 0, rf 1, rf 2, rf 3, rf 4, rf 5, rf 6, rf 7, rf 8, rf 9, rf 10, rf 11, rf 12, rf 13, rf 14⟩
 clear rc rf
 go_wp2
 refine post_named ?_
 intro V3 hV3
 have R9 : Hid (Blk V3 (w.heap.size + 1 + 1) (partV ⟨af, bl ||| al, false⟩) 131) := by rw [hV3]; exact hid (R4.out.setPart ⟨af, bl ||| al, false⟩)
 have K9 : Keeps (· ≠ w.heap.size + 1 + 1) w3 V3 := by rw [hV3]; exact keeps_setPart _ _ ⟨af, bl ||| al, false⟩
 have M9 := M4.out.keeps K9 fun x hx => by have := HF.out x hx; omega
 have X9 := X4.out.tr (K9.mono fun x hx => by have := hx.1; omega)
 clear hV3
 obtain ⟨m0, m1, m2, m3, m4, m5, m6, m7, m8, m9, m10, m11, m12, m13, m14⟩ := R9.out.part
 dsimp only at m0 m1 m2 m3 m4 m5 m6 m7 m8 m9 m10 m11 m12 m13 m14
 refine bodyPost_ret (v := .agg (partV ⟨af, bl ||| al, false⟩)) (by simp [results, Tryz.results143, partV, go_sem, m0, m1, m2, m3, m4, m5, m6, m7, m8, m9, m10, m11, m12, m13, m14]) rfl ⟨rfl, M9, X9⟩
theorem mthen_true_false (base M : Nat) (F : Nat -> Prop) (m : GM) (af al bf bl : PB) (w : World) (h : MkS base M F w m) (ha : PBlt al m.fol.length) (hn : m.fol.length <= 448) :
  Calls Tryz.prog 143 #[.pointer (some ⟨M, 0, none⟩), .agg (partV ⟨af, al, true⟩), .agg (partV ⟨bf, bl, false⟩)] w fun e w' => e = .returned (.agg (partV (thenG m ⟨af, al, true⟩ ⟨bf, bl, false⟩).2)) /\ MkS base M F w' (thenG m ⟨af, al, true⟩ ⟨bf, bl, false⟩).1 /\ Keeps (fun x => x < w.heap.size /\ ¬ F x) w w' := by
 have CL : Hid (∀ W, Keeps (fun x => x < w.heap.size) w W -> Calls Tryz.prog 173 #[.pointer (some ⟨M, 0, none⟩), .agg (encW (bW al)), .agg (encW (bW bf))] W fun e w' => (∃ u, e = .returned u) /\ MkS base M F w' (loopG m al bf) /\ Keeps (fun x => x < W.heap.size /\ ¬ F x) W w') := hid fun W hW => mloop_any base M F m al bf W (h.keeps hW fun x hx => (h.lt x hx).2) ha hn
 have HF : Hid (∀ x, F x -> x < w.heap.size) := hid fun x hx => (h.lt x hx).2
 obtain ⟨m2, hm2⟩ : ∃ m2, m2 = loopG m al bf := ⟨_, rfl⟩
 rw [<- hm2] at CL
 have hg1 : (thenG m ⟨af, al, true⟩ ⟨bf, bl, false⟩).1 = m2 := hm2.symm
 have hg2 : (thenG m ⟨af, al, true⟩ ⟨bf, bl, false⟩).2 = ⟨af ||| bf, bl, false⟩ := rfl
 rw [hg1, hg2]
 clear h ha hn hm2 hg1 hg2
 generalize hpa : partV ⟨af, al, true⟩ = pa
 generalize hpb : partV ⟨bf, bl, false⟩ = pb
 have HPA := hid hpa
 have HPB := hid hpb
 clear hpa hpb
 rw [<- HPA.out, <- HPB.out]
 unfold partV
 dsimp only
 go_enter Tryz.func143, Tryz.ntmps143
 go_wp2_with fail
 refine calls_named ?_
 intro V hV
 have A1 : Hid (Blk V w.heap.size (partV ⟨af, al, true⟩) 131) := by rw [hV]; exact hid (((Blk.new _ _ _).alloc _).alloc _)
 have B1 : Hid (Blk V (w.heap.size + 1) (partV ⟨bf, bl, false⟩) 131) := by rw [hV]; exact hid (((Blk.new _ _ _).at (by simp)).alloc _)
 have R1 : Hid (Blk V (w.heap.size + 1 + 1) #[.int .u64 0, .int .u64 0, .int .u64 0, .int .u64 0, .int .u64 0, .int .u64 0, .int .u64 0, .int .u64 0, .int .u64 0, .int .u64 0, .int .u64 0, .int .u64 0, .int .u64 0, .int .u64 0, .bool false] 131) := by rw [hV]; exact hid ((Blk.new _ _ _).at (by simp))
 have X1 : Hid (Keeps (· < w.heap.size) w V) := by rw [hV]; exact hid ((((Ext.refl _).alloc _).alloc _).alloc _).keeps
 clear hV
 refine (CL.out V X1.out).mono ?_
 rintro e w2 ⟨⟨u, rfl⟩, hm, hx⟩
 have hnF : ∀ k, w.heap.size <= k -> ¬ F k := fun k hk e => by have := HF.out k e; omega
 have A2 := hid (A1.out.keeps hx ⟨A1.out.lt, hnF _ (by omega)⟩)
 have B2 := hid (B1.out.keeps hx ⟨B1.out.lt, hnF _ (by omega)⟩)
 have R2 := hid (R1.out.keeps hx ⟨R1.out.lt, hnF _ (by omega)⟩)
 have X2 : Hid (Keeps (fun x => x < w.heap.size /\ ¬ F x) w w2) := hid ((X1.out.mono fun x hx => hx.1).tr (hx.mono fun x hx => ⟨by have := A1.out.lt; have := hx.1; omega, hx.2⟩))
 have hs2 : w.heap.size + 1 + 1 < w2.heap.size := R2.out.lt
 have HM := hid hm
 have HNF := hid hnF
 clear hx hm A1 B1 R1 X1 CL hnF
 obtain ⟨a0, a1, a2, a3, a4, a5, a6, a7, a8, a9, a10, a11, a12, a13, a14⟩ := (A2.out).part
 obtain ⟨b0, b1, b2, b3, b4, b5, b6, b7, b8, b9, b10, b11, b12, b13, b14⟩ := (B2.out).part
 dsimp only at a0 a1 a2 a3 a4 a5 a6 a7 a8 a9 a10 a11 a12 a13 a14 b0 b1 b2 b3 b4 b5 b6 b7 b8 b9 b10 b11 b12 b13 b14
 go_upto_region 3 with fail
 refine wp_named ?_
 intro V2 hV2
 have O2 : Hid (Blk V2 w2.heap.size (partV ⟨af, bl, false⟩) 131) := by rw [hV2]; exact hid (Blk.new _ _ _)
 have E2 : Ext w2 V2 := by rw [hV2]; exact (Ext.refl _).alloc _
 have A3 := hid (A2.out.ext E2)
 have B3 := hid (B2.out.ext E2)
 have R3 := hid (R2.out.ext E2)
 have M3 := hid (HM.out.keeps E2.keeps fun x hx => (HM.out.lt x hx).2)
 have X3 := hid (X2.out.tr (E2.mono fun x hx => by have := hx.1; omega))
 have hs3 : w2.heap.size < V2.heap.size := O2.out.lt
 clear hV2 E2 A2 B2 R2 HM X2 a0 a1 a2 a3 a4 a5 a6 a7 a8 a9 a10 a11 a12 a13 a14 b0 b1 b2 b3 b4 b5 b6 b7 b8 b9 b10 b11 b12 b13 b14
 obtain ⟨a0, a1, a2, a3, a4, a5, a6, a7, a8, a9, a10, a11, a12, a13, a14⟩ := A3.out.part
 obtain ⟨b0, b1, b2, b3, b4, b5, b6, b7, b8, b9, b10, b11, b12, b13, b14⟩ := B3.out.part
 obtain ⟨o0, o1, o2, o3, o4, o5, o6, o7, o8, o9, o10, o11, o12, o13, o14⟩ := O2.out.part
 obtain ⟨oz0, oz1, oz2, oz3, oz4, oz5, oz6, oz7, oz8, oz9, oz10, oz11, oz12, oz13, oz14⟩ := O2.out.partZ
 dsimp only at a0 a1 a2 a3 a4 a5 a6 a7 a8 a9 a10 a11 a12 a13 a14 b0 b1 b2 b3 b4 b5 b6 b7 b8 b9 b10 b11 b12 b13 b14 o0 o1 o2 o3 o4 o5 o6 o7 o8 o9 o10 o11 o12 o13 o14
 go_wp2_with fail
 clear a0 a1 a2 a3 a4 a5 a6 a7 a8 a9 a10 a11 a12 a13 a14 b0 b1 b2 b3 b4 b5 b6 b7 b8 b9 b10 b11 b12 b13 b14 o0 o1 o2 o3 o4 o5 o6 o7 o8 o9 o10 o11 o12 o13 o14 oz0 oz1 oz2 oz3 oz4 oz5 oz6 oz7 oz8 oz9 oz10 oz11 oz12 oz13 oz14
 refine (orAt_any (bW af) (bW bf) w2.heap.size 0 V2 (WdAt.fst O2.out) (fun i _ => O2.out.frozen _)).mono ?_
 rintro e w3 ⟨⟨u, rfl⟩, hx⟩
 have ks : Keeps (· ≠ w2.heap.size) V2 (setWds V2 w2.heap.size 0 (fun i => bW af i ||| bW bf i) 7) := setWds_keeps _ _ _ _ _
 have O3 : Hid (Blk w3 w2.heap.size (partV ⟨af ||| bf, bl, false⟩) 131) := hid ((setWds_fst O2.out (af ||| bf) (fun i _ => (bW_or af bf i).symm)).keeps hx hs3)
 have kk : Keeps (fun x => x < V2.heap.size /\ x ≠ w2.heap.size) V2 w3 := (ks.mono fun x hx => hx.2).tr (hx.mono fun x hx => hx.1)
 have A4 := hid (A3.out.keeps kk ⟨A3.out.lt, by omega⟩)
 have B4 := hid (B3.out.keeps kk ⟨B3.out.lt, by omega⟩)
 have R4 := hid (R3.out.keeps kk ⟨R3.out.lt, by omega⟩)
 have M4 := hid (M3.out.keeps kk fun x hx => ⟨(M3.out.lt x hx).2, by have := HF.out x hx; omega⟩)
 have X4 := hid (X3.out.tr (kk.mono fun x hx => ⟨by have := hx.1; omega, by have := hx.1; omega⟩))
 have hs4 : w2.heap.size < w3.heap.size := O3.out.lt
 clear hx ks kk
 obtain ⟨a0, a1, a2, a3, a4, a5, a6, a7, a8, a9, a10, a11, a12, a13, a14⟩ := A4.out.part
 obtain ⟨b0, b1, b2, b3, b4, b5, b6, b7, b8, b9, b10, b11, b12, b13, b14⟩ := B4.out.part
 obtain ⟨o0, o1, o2, o3, o4, o5, o6, o7, o8, o9, o10, o11, o12, o13, o14⟩ := O3.out.part
 obtain ⟨oz0, oz1, oz2, oz3, oz4, oz5, oz6, oz7, oz8, oz9, oz10, oz11, oz12, oz13, oz14⟩ := O3.out.partZ
 dsimp only at a0 a1 a2 a3 a4 a5 a6 a7 a8 a9 a10 a11 a12 a13 a14 b0 b1 b2 b3 b4 b5 b6 b7 b8 b9 b10 b11 b12 b13 b14 o0 o1 o2 o3 o4 o5 o6 o7 o8 o9 o10 o11 o12 o13 o14
 have rc := fun i => R4.out.cell i
 have rf := fun i => R4.out.frozen i
 have r14 : w3.cell? ⟨w.heap.size + 1 + 1, 14, none⟩ = some (.bool false) := rc 14
 obtain ⟨s0, s1, s2, s3, s4, s5, s6, s7, s8, s9, s10, s11, s12, s13⟩ : w3.cell? ⟨w.heap.size + 1 + 1, 0, none⟩ = some (.int .u64 0) /\ w3.cell? ⟨w.heap.size + 1 + 1, 1, none⟩ = some (.int .u64 0) /\ w3.cell? ⟨w.heap.size + 1 + 1, 2, none⟩ = some (.int .u64 0) /\ w3.cell? ⟨w.heap.size + 1 + 1, 3, none⟩ = some (.int .u64 0) /\ w3.cell? ⟨w.heap.size + 1 + 1, 4, none⟩ = some (.int .u64 0) /\ w3.cell? ⟨w.heap.size + 1 + 1, 5, none⟩ = some (.int .u64 0) /\ w3.cell? ⟨w.heap.size + 1 + 1, 6, none⟩ = some (.int .u64 0) /\ w3.cell? ⟨w.heap.size + 1 + 1, 7, none⟩ = some (.int .u64 0) /\ w3.cell? ⟨w.heap.size + 1 + 1, 8, none⟩ = some (.int .u64 0) /\ w3.cell? ⟨w.heap.size + 1 + 1, 9, none⟩ = some (.int .u64 0) /\ w3.cell? ⟨w.heap.size + 1 + 1, 10, none⟩ = some (.int .u64 0) /\ w3.cell? ⟨w.heap.size + 1 + 1, 11, none⟩ = some (.int .u64 0) /\ w3.cell? ⟨w.heap.size + 1 + 1, 12, none⟩ = some (.int .u64 0) /\ w3.cell? ⟨w.heap.size + 1 + 1, 13, none⟩ = some (.int .u64 0) := ⟨rc 0, rc 1, rc 2, rc 3, rc 4, rc 5, rc 6, rc 7, rc 8, rc 9, rc 10, rc 11, rc 12, rc 13⟩
 obtain ⟨f0, f1, f2, f3, f4, f5, f6, f7, f8, f9, f10, f11, f12, f13, f14⟩ : w3.frozen? ⟨w.heap.size + 1 + 1, 0, none⟩ = false /\ w3.frozen? ⟨w.heap.size + 1 + 1, 1, none⟩ = false /\ w3.frozen? ⟨w.heap.size + 1 + 1, 2, none⟩ = false /\ w3.frozen? ⟨w.heap.size + 1 + 1, 3, none⟩ = false /\ w3.frozen? ⟨w.heap.size + 1 + 1, 4, none⟩ = false /\ w3.frozen? ⟨w.heap.size + 1 + 1, 5, none⟩ = false /\ w3.frozen? ⟨w.heap.size + 1 + 1, 6, none⟩ = false /\ w3.frozen? ⟨w.heap.size + 1 + 1, 7, none⟩ = false /\ w3.frozen? ⟨w.heap.size + 1 + 1, 8, none⟩ = false /\ w3.frozen? ⟨w.heap.size + 1 + 1, 9, none⟩ = false /\ w3.frozen? ⟨w.heap.size + 1 + 1, 10, none⟩ = false /\ w3.frozen? ⟨w.heap.size + 1 + 1, 11, none⟩ = false /\ w3.frozen? ⟨w.heap.size + 1 + 1, 12, none⟩ = false /\ w3.frozen? ⟨w.heap.size + 1 + 1, 13, none⟩ = false /\ w3.frozen? ⟨w.heap.size + 1 + 1, 14, none⟩ = false := ⟨rf 0, rf 1, rf 2, rf 3, rf 4, rf 5, rf 6, rf 7, rf 8, rf 9, rf 10, rf 11, rf 12, rf 13, rf 14⟩
 clear rc rf
 go_wp2
 refine post_named ?_
 intro V3 hV3
 have R9 : Hid (Blk V3 (w.heap.size + 1 + 1) (partV ⟨af ||| bf, bl, false⟩) 131) := by rw [hV3]; exact hid (R4.out.setPart ⟨af ||| bf, bl, false⟩)
 have K9 : Keeps (· ≠ w.heap.size + 1 + 1) w3 V3 := by rw [hV3]; exact keeps_setPart _ _ ⟨af ||| bf, bl, false⟩
 have M9 := M4.out.keeps K9 fun x hx => by have := HF.out x hx; omega
 have X9 := X4.out.tr (K9.mono fun x hx => by have := hx.1; omega)
 clear hV3
 obtain ⟨m0, m1, m2, m3, m4, m5, m6, m7, m8, m9, m10, m11, m12, m13, m14⟩ := R9.out.part
 dsimp only at m0 m1 m2 m3 m4 m5 m6 m7 m8 m9 m10 m11 m12 m13 m14
 refine bodyPost_ret (v := .agg (partV ⟨af ||| bf, bl, false⟩)) (by simp [results, Tryz.results143, partV, go_sem, m0, m1, m2, m3, m4, m5, m6, m7, m8, m9, m10, m11, m12, m13, m14]) rfl ⟨rfl, M9, X9⟩
theorem mthen_true_true (base M : Nat) (F : Nat -> Prop) (m : GM) (af al bf bl : PB) (w : World) (h : MkS base M F w m) (ha : PBlt al m.fol.length) (hn : m.fol.length <= 448) :
  Calls Tryz.prog 143 #[.pointer (some ⟨M, 0, none⟩), .agg (partV ⟨af, al, true⟩), .agg (partV ⟨bf, bl, true⟩)] w fun e w' => e = .returned (.agg (partV (thenG m ⟨af, al, true⟩ ⟨bf, bl, true⟩).2)) /\ MkS base M F w' (thenG m ⟨af, al, true⟩ ⟨bf, bl, true⟩).1 /\ Keeps (fun x => x < w.heap.size /\ ¬ F x) w w' := by
 have CL : Hid (∀ W, Keeps (fun x => x < w.heap.size) w W -> Calls Tryz.prog 173 #[.pointer (some ⟨M, 0, none⟩), .agg (encW (bW al)), .agg (encW (bW bf))] W fun e w' => (∃ u, e = .returned u) /\ MkS base M F w' (loopG m al bf) /\ Keeps (fun x => x < W.heap.size /\ ¬ F x) W w') := hid fun W hW => mloop_any base M F m al bf W (h.keeps hW fun x hx => (h.lt x hx).2) ha hn
 have HF : Hid (∀ x, F x -> x < w.heap.size) := hid fun x hx => (h.lt x hx).2
 obtain ⟨m2, hm2⟩ : ∃ m2, m2 = loopG m al bf := ⟨_, rfl⟩
 rw [<- hm2] at CL
 have hg1 : (thenG m ⟨af, al, true⟩ ⟨bf, bl, true⟩).1 = m2 := hm2.symm
 have hg2 : (thenG m ⟨af, al, true⟩ ⟨bf, bl, true⟩).2 = ⟨af ||| bf, bl ||| al, true⟩ := rfl
 rw [hg1, hg2]
 clear h ha hn hm2 hg1 hg2
 generalize hpa : partV ⟨af, al, true⟩ = pa
 generalize hpb : partV ⟨bf, bl, true⟩ = pb
 have HPA := hid hpa
 have HPB := hid hpb
 clear hpa hpb
 rw [<- HPA.out, <- HPB.out]
 unfold partV
 dsimp only
 go_enter Tryz.func143, Tryz.ntmps143
 go_wp2_with fail
 refine calls_named ?_
 intro V hV
 have A1 : Hid (Blk V w.heap.size (partV ⟨af, al, true⟩) 131) := by rw [hV]; exact hid (((Blk.new _ _ _).alloc _).alloc _)
 have B1 : Hid (Blk V (w.heap.size + 1) (partV ⟨bf, bl, true⟩) 131) := by rw [hV]; exact hid (((Blk.new _ _ _).at (by simp)).alloc _)
 have R1 : Hid (Blk V (w.heap.size + 1 + 1) #[.int .u64 0, .int .u64 0, .int .u64 0, .int .u64 0, .int .u64 0, .int .u64 0, .int .u64 0, .int .u64 0, .int .u64 0, .int .u64 0, .int .u64 0, .int .u64 0, .int .u64 0, .int .u64 0, .bool false] 131) := by rw [hV]; exact hid ((Blk.new _ _ _).at (by simp))
 have X1 : Hid (Keeps (· < w.heap.size) w V) := by rw [hV]; exact hid ((((Ext.refl _).alloc _).alloc _).alloc _).keeps
 clear hV
 refine (CL.out V X1.out).mono ?_
 rintro e w2 ⟨⟨u, rfl⟩, hm, hx⟩
 have hnF : ∀ k, w.heap.size <= k -> ¬ F k := fun k hk e => by have := HF.out k e; omega
 have A2 := hid (A1.out.keeps hx ⟨A1.out.lt, hnF _ (by omega)⟩)
 have B2 := hid (B1.out.keeps hx ⟨B1.out.lt, hnF _ (by omega)⟩)
 have R2 := hid (R1.out.keeps hx ⟨R1.out.lt, hnF _ (by omega)⟩)
 have X2 : Hid (Keeps (fun x => x < w.heap.size /\ ¬ F x) w w2) := hid ((X1.out.mono fun x hx => hx.1).tr (hx.mono fun x hx => ⟨by have := A1.out.lt; have := hx.1; omega, hx.2⟩))
 have hs2 : w.heap.size + 1 + 1 < w2.heap.size := R2.out.lt
 have HM := hid hm
 have HNF := hid hnF
 clear hx hm A1 B1 R1 X1 CL hnF
 obtain ⟨a0, a1, a2, a3, a4, a5, a6, a7, a8, a9, a10, a11, a12, a13, a14⟩ := (A2.out).part
 obtain ⟨b0, b1, b2, b3, b4, b5, b6, b7, b8, b9, b10, b11, b12, b13, b14⟩ := (B2.out).part
 dsimp only at a0 a1 a2 a3 a4 a5 a6 a7 a8 a9 a10 a11 a12 a13 a14 b0 b1 b2 b3 b4 b5 b6 b7 b8 b9 b10 b11 b12 b13 b14
 go_upto_region 3 with fail
 refine wp_named ?_
 intro V2 hV2
 have O2 : Hid (Blk V2 w2.heap.size (partV ⟨af, bl, true⟩) 131) := by rw [hV2]; exact hid (Blk.new _ _ _)
 have E2 : Ext w2 V2 := by rw [hV2]; exact (Ext.refl _).alloc _
 have A3 := hid (A2.out.ext E2)
 have B3 := hid (B2.out.ext E2)
 have R3 := hid (R2.out.ext E2)
 have M3 := hid (HM.out.keeps E2.keeps fun x hx => (HM.out.lt x hx).2)
 have X3 := hid (X2.out.tr (E2.mono fun x hx => by have := hx.1; omega))
 have hs3 : w2.heap.size < V2.heap.size := O2.out.lt
 clear hV2 E2 A2 B2 R2 HM X2 a0 a1 a2 a3 a4 a5 a6 a7 a8 a9 a10 a11 a12 a13 a14 b0 b1 b2 b3 b4 b5 b6 b7 b8 b9 b10 b11 b12 b13 b14
 obtain ⟨a0, a1, a2, a3, a4, a5, a6, a7, a8, a9, a10, a11, a12, a13, a14⟩ := A3.out.part
 obtain ⟨b0, b1, b2, b3, b4, b5, b6, b7, b8, b9, b10, b11, b12, b13, b14⟩ := B3.out.part
 obtain ⟨o0, o1, o2, o3, o4, o5, o6, o7, o8, o9, o10, o11, o12, o13, o14⟩ := O2.out.part
 obtain ⟨oz0, oz1, oz2, oz3, oz4, oz5, oz6, oz7, oz8, oz9, oz10, oz11, oz12, oz13, oz14⟩ := O2.out.partZ
 dsimp only at a0 a1 a2 a3 a4 a5 a6 a7 a8 a9 a10 a11 a12 a13 a14 b0 b1 b2 b3 b4 b5 b6 b7 b8 b9 b10 b11 b12 b13 b14 o0 o1 o2 o3 o4 o5 o6 o7 o8 o9 o10 o11 o12 o13 o14
 go_wp2_with fail
 clear a0 a1 a2 a3 a4 a5 a6 a7 a8 a9 a10 a11 a12 a13 a14 b0 b1 b2 b3 b4 b5 b6 b7 b8 b9 b10 b11 b12 b13 b14 o0 o1 o2 o3 o4 o5 o6 o7 o8 o9 o10 o11 o12 o13 o14 oz0 oz1 oz2 oz3 oz4 oz5 oz6 oz7 oz8 oz9 oz10 oz11 oz12 oz13 oz14
 refine (orAt_any (bW af) (bW bf) w2.heap.size 0 V2 (WdAt.fst O2.out) (fun i _ => O2.out.frozen _)).mono ?_
 rintro e w3 ⟨⟨u, rfl⟩, hx⟩
 have ks : Keeps (· ≠ w2.heap.size) V2 (setWds V2 w2.heap.size 0 (fun i => bW af i ||| bW bf i) 7) := setWds_keeps _ _ _ _ _
 have O3 : Hid (Blk w3 w2.heap.size (partV ⟨af ||| bf, bl, true⟩) 131) := hid ((setWds_fst O2.out (af ||| bf) (fun i _ => (bW_or af bf i).symm)).keeps hx hs3)
 have kk : Keeps (fun x => x < V2.heap.size /\ x ≠ w2.heap.size) V2 w3 := (ks.mono fun x hx => hx.2).tr (hx.mono fun x hx => hx.1)
 have A4 := hid (A3.out.keeps kk ⟨A3.out.lt, by omega⟩)
 have B4 := hid (B3.out.keeps kk ⟨B3.out.lt, by omega⟩)
 have R4 := hid (R3.out.keeps kk ⟨R3.out.lt, by omega⟩)
 have M4 := hid (M3.out.keeps kk fun x hx => ⟨(M3.out.lt x hx).2, by have := HF.out x hx; omega⟩)
 have X4 := hid (X3.out.tr (kk.mono fun x hx => ⟨by have := hx.1; omega, by have := hx.1; omega⟩))
 have hs4 : w2.heap.size < w3.heap.size := O3.out.lt
 clear hx ks kk
 obtain ⟨a0, a1, a2, a3, a4, a5, a6, a7, a8, a9, a10, a11, a12, a13, a14⟩ := A4.out.part
 obtain ⟨b0, b1, b2, b3, b4, b5, b6, b7, b8, b9, b10, b11, b12, b13, b14⟩ := B4.out.part
 obtain ⟨o0, o1, o2, o3, o4, o5, o6, o7, o8, o9, o10, o11, o12, o13, o14⟩ := O3.out.part
 obtain ⟨oz0, oz1, oz2, oz3, oz4, oz5, oz6, oz7, oz8, oz9, oz10, oz11, oz12, oz13, oz14⟩ := O3.out.partZ
 dsimp only at a0 a1 a2 a3 a4 a5 a6 a7 a8 a9 a10 a11 a12 a13 a14 b0 b1 b2 b3 b4 b5 b6 b7 b8 b9 b10 b11 b12 b13 b14 o0 o1 o2 o3 o4 o5 o6 o7 o8 o9 o10 o11 o12 o13 o14
 go_wp2_with fail
 clear a0 a1 a2 a3 a4 a5 a6 a7 a8 a9 a10 a11 a12 a13 a14 b0 b1 b2 b3 b4 b5 b6 b7 b8 b9 b10 b11 b12 b13 b14 o0 o1 o2 o3 o4 o5 o6 o7 o8 o9 o10 o11 o12 o13 o14 oz0 oz1 oz2 oz3 oz4 oz5 oz6 oz7 oz8 oz9 oz10 oz11 oz12 oz13 oz14
 refine (orAt_any (bW bl) (bW al) w2.heap.size 7 w3 (WdAt.lst O3.out) (fun i _ => O3.out.frozen _)).mono ?_
 rintro e w4 ⟨⟨u, rfl⟩, hx⟩
 have ks : Keeps (· ≠ w2.heap.size) w3 (setWds w3 w2.heap.size 7 (fun i => bW bl i ||| bW al i) 7) := setWds_keeps _ _ _ _ _
 have O4 : Hid (Blk w4 w2.heap.size (partV ⟨af ||| bf, bl ||| al, true⟩) 131) := hid ((setWds_lst O3.out (bl ||| al) (fun i _ => (bW_or bl al i).symm)).keeps hx hs4)
 have kk : Keeps (fun x => x < w3.heap.size /\ x ≠ w2.heap.size) w3 w4 := (ks.mono fun x hx => hx.2).tr (hx.mono fun x hx => hx.1)
 have A5 := hid (A4.out.keeps kk ⟨A4.out.lt, by omega⟩)
 have B5 := hid (B4.out.keeps kk ⟨B4.out.lt, by omega⟩)
 have R5 := hid (R4.out.keeps kk ⟨R4.out.lt, by omega⟩)
 have M5 := hid (M4.out.keeps kk fun x hx => ⟨(M4.out.lt x hx).2, by have := HF.out x hx; omega⟩)
 have X5 := hid (X4.out.tr (kk.mono fun x hx => ⟨by have := hx.1; omega, by have := hx.1; omega⟩))
 have hs5 : w2.heap.size < w4.heap.size := O4.out.lt
 clear hx ks kk
 obtain ⟨a0, a1, a2, a3, a4, a5, a6, a7, a8, a9, a10, a11, a12, a13, a14⟩ := A5.out.part
 obtain ⟨b0, b1, b2, b3, b4, b5, b6, b7, b8, b9, b10, b11, b12, b13, b14⟩ := B5.out.part
 obtain ⟨o0, o1, o2, o3, o4, o5, o6, o7, o8, o9, o10, o11, o12, o13, o14⟩ := O4.out.part
 obtain ⟨oz0, oz1, oz2, oz3, oz4, oz5, oz6, oz7, oz8, oz9, oz10, oz11, oz12, oz13, oz14⟩ := O4.out.partZ
 dsimp only at a0 a1 a2 a3 a4 a5 a6 a7 a8 a9 a10 a11 a12 a13 a14 b0 b1 b2 b3 b4 b5 b6 b7 b8 b9 b10 b11 b12 b13 b14 o0 o1 o2 o3 o4 o5 o6 o7 o8 o9 o10 o11 o12 o13 o14
 have rc := fun i => R5.out.cell i
 have rf := fun i => R5.out.frozen i
 have r14 : w4.cell? ⟨w.heap.size + 1 + 1, 14, none⟩ = some (.bool false) := rc 14
 obtain ⟨s0, s1, s2, s3, s4, s5, s6, s7, s8, s9, s10, s11, s12, s13⟩ : w4.cell? ⟨w.heap.size + 1 + 1, 0, none⟩ = some (.int .u64 0) /\ w4.cell? ⟨w.heap.size + 1 + 1, 1, none⟩ = some (.int .u64 0) /\ w4.cell? ⟨w.heap.size + 1 + 1, 2, none⟩ = some (.int .u64 0) /\ w4.cell? ⟨w.heap.size + 1 + 1, 3, none⟩ = some (.int .u64 0) /\ w4.cell? ⟨w.heap.size + 1 + 1, 4, none⟩ = some (.int .u64 0) /\ w4.cell? ⟨w.heap.size + 1 + 1, 5, none⟩ = some (.int .u64 0) /\ w4.cell? ⟨w.heap.size + 1 + 1, 6, none⟩ = some (.int .u64 0) /\ w4.cell? ⟨w.heap.size + 1 + 1, 7, none⟩ = some (.int .u64 0) /\ w4.cell? ⟨w.heap.size + 1 + 1, 8, none⟩ = some (.int .u64 0) /\ w4.cell? ⟨w.heap.size + 1 + 1, 9, none⟩ = some (.int .u64 0) /\ w4.cell? ⟨w.heap.size + 1 + 1, 10, none⟩ = some (.int .u64 0) /\ w4.cell? ⟨w.heap.size + 1 + 1, 11, none⟩ = some (.int .u64 0) /\ w4.cell? ⟨w.heap.size + 1 + 1, 12, none⟩ = some (.int .u64 0) /\ w4.cell? ⟨w.heap.size + 1 + 1, 13, none⟩ = some (.int .u64 0) := ⟨rc 0, rc 1, rc 2, rc 3, rc 4, rc 5, rc 6, rc 7, rc 8, rc 9, rc 10, rc 11, rc 12, rc 13⟩
 obtain ⟨f0, f1, f2, f3, f4, f5, f6, f7, f8, f9, f10, f11, f12, f13, f14⟩ : w4.frozen? ⟨w.heap.size + 1 + 1, 0, none⟩ = false /\ w4.frozen? ⟨w.heap.size + 1 + 1, 1, none⟩ = false /\ w4.frozen? ⟨w.heap.size + 1 + 1, 2, none⟩ = false /\ w4.frozen? ⟨w.heap.size + 1 + 1, 3, none⟩ = false /\ w4.frozen? ⟨w.heap.size + 1 + 1, 4, none⟩ = false /\ w4.frozen? ⟨w.heap.size + 1 + 1, 5, none⟩ = false /\ w4.frozen? ⟨w.heap.size + 1 + 1, 6, none⟩ = false /\ w4.frozen? ⟨w.heap.size + 1 + 1, 7, none⟩ = false /\ w4.frozen? ⟨w.heap.size + 1 + 1, 8, none⟩ = false /\ w4.frozen? ⟨w.heap.size + 1 + 1, 9, none⟩ = false /\ w4.frozen? ⟨w.heap.size + 1 + 1, 10, none⟩ = false /\ w4.frozen? ⟨w.heap.size + 1 + 1, 11, none⟩ = false /\ w4.frozen? ⟨w.heap.size + 1 + 1, 12, none⟩ = false /\ w4.frozen? ⟨w.heap.size + 1 + 1, 13, none⟩ = false /\ w4.frozen? ⟨w.heap.size + 1 + 1, 14, none⟩ = false := ⟨rf 0, rf 1, rf 2, rf 3, rf 4, rf 5, rf 6, rf 7, rf 8, rf 9, rf 10, rf 11, rf 12, rf 13, rf 14⟩
 clear rc rf
 go_wp2
 refine post_named ?_
 intro V3 hV3
 have R9 : Hid (Blk V3 (w.heap.size + 1 + 1) (partV ⟨af ||| bf, bl ||| al, true⟩) 131) := by rw [hV3]; exact hid (R5.out.setPart ⟨af ||| bf, bl ||| al, true⟩)
 have K9 : Keeps (· ≠ w.heap.size + 1 + 1) w4 V3 := by rw [hV3]; exact keeps_setPart _ _ ⟨af ||| bf, bl ||| al, true⟩
 have M9 := M5.out.keeps K9 fun x hx => by have := HF.out x hx; omega
 have X9 := X5.out.tr (K9.mono fun x hx => by have := hx.1; omega)
 clear hV3
 obtain ⟨m0, m1, m2, m3, m4, m5, m6, m7, m8, m9, m10, m11, m12, m13, m14⟩ := R9.out.part
 dsimp only at m0 m1 m2 m3 m4 m5 m6 m7 m8 m9 m10 m11 m12 m13 m14
 refine bodyPost_ret (v := .agg (partV ⟨af ||| bf, bl ||| al, true⟩)) (by simp [results, Tryz.results143, partV, go_sem, m0, m1, m2, m3, m4, m5, m6, m7, m8, m9, m10, m11, m12, m13, m14]) rfl ⟨rfl, M9, X9⟩
theorem mthen_any (base M : Nat) (F : Nat -> Prop) (m : GM) (a b : GP) (w : World) (h : MkS base M F w m) (ha : PBlt a.lst m.fol.length) (hn : m.fol.length <= 448) :
  Calls Tryz.prog 143 #[.pointer (some ⟨M, 0, none⟩), .agg (partV a), .agg (partV b)] w fun e w' => e = .returned (.agg (partV (thenG m a b).2)) /\ MkS base M F w' (thenG m a b).1 /\ Keeps (fun x => x < w.heap.size /\ ¬ F x) w w' := by
 obtain ⟨af, al, ea⟩ := a
 obtain ⟨bf, bl, eb⟩ := b
 cases ea <;> cases eb
 ·exact mthen_false_false base M F m af al bf bl w h ha hn
 ·exact mthen_false_true base M F m af al bf bl w h ha hn
 ·exact mthen_true_false base M F m af al bf bl w h ha hn
 ·exact mthen_true_true base M F m af al bf bl w h ha hn
end Go.Proofs.YtbiboekhakbnpaaGreatDoor
