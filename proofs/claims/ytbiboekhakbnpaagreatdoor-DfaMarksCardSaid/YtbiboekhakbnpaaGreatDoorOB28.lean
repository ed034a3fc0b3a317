/-
  The maker of automata of positions: the head of a node.
  What the maker has made of the first nodes of a list.
  The maker of automata of positions: an alternative.
-/
import Derived.Test.YtbiboekhakbnpaaGreatDoorOB27
import Derived.Test.YtbiboekhakbnpaaGreatDoorOB20
set_option maxRecDepth 100000
set_option maxHeartbeats 16000000
open Go.Lib (hid)
namespace Go.Proofs.YtbiboekhakbnpaaGreatDoor
open Go Go.RowKit Go.Shelf Go.Maps

def MkAft (base M : Nat) (F : Nat -> Prop) (w : World) (m : GM) (p : GP) (e : Ending) (w' : World) : Prop :=
 e = .returned (.agg (partV p)) /\ (∃ F', MkS base M F' w' m /\ (∀ x, F x -> F' x) /\ ∀ x, F' x -> F x \/ w.heap.size <= x) /\ Keeps (fun x => x < w.heap.size /\ ¬ F x) w w' /\ w.heap.size < w'.heap.size
def MkOK (n0 : Nat) (t : RX) : Prop := ∀ (base M : Nat) (F : Nat -> Prop) (m : GM) (w : World) (v : Value), n0 <= base -> MkS base M F w m -> IsRx (· < n0) w v t -> m.ok -> m.fol.length = m.sets.length -> m.sets.length + t.cnt <= 448 ->
 Calls Tryz.prog 68 #[.pointer (some ⟨M, 0, none⟩), v] w (MkAft base M F w (t.mkG m).1 (t.mkG m).2)
theorem mhd_any (n0 base M : Nat) (F : Nat -> Prop) (m : GM) (k : Nat) (s : BS) (mn mx : Int) (t : RX) (l : List RX) (p : Option Addr) (n c : Nat) (X : Nat) (w : World) (hn0 : n0 <= base) (h : MkS base M F w m) (hr : IsRx (· < n0) w (.agg (nodeV k s mn mx (.slice p n c))) (.nd k s mn mx (t :: l))) (ht : MkOK n0 t)
  (hX : w.cell? ⟨X, 0, none⟩ = some (.pointer (some ⟨M, 0, none⟩))) (hXF : ¬ F X) (ok : m.ok) (hm : m.fol.length = m.sets.length) (hn : m.sets.length + t.cnt <= 448) :
  Calls Tryz.prog 147 #[.agg (nodeV k s mn mx (.slice p n c)), .pointer (some ⟨X, 0, none⟩)] w (MkAft base M F w (t.mkG m).1 (t.mkG m).2) := by
 obtain ⟨b, off, p', c', rfl, hb, hbw, hcap, ⟨e0, e1, e2, e3, e4, e5, e6, e7⟩, hrt⟩ := hr.elem (i := 0) (t := t) rfl
 have hlen : n = l.length + 1 := by
  obtain ⟨p2, c2, e⟩ := hr.form
  simp [nodeV, RX.subs, RX.kind, RX.set, RX.mn, RX.mx] at e
  exact e.2.1
 have hn1 : 0 < n := by omega
 have HM := hid h
 have HRT := hid hrt
 have HT := hid ht
 have HOK := hid ok
 have HFL := hid hm
 have HX := hid hX
 have HXF := hid hXF
 have hXw : X < w.heap.size := World.block_lt_of_cell? _ _ hX
 have hMw : M < w.heap.size := (h.lt M h.fm).2
 simp only [Nat.zero_mul, Nat.add_zero] at e0 e1 e2 e3 e4 e5 e6 e7
 have E := hid (And.intro e0 (And.intro e1 (And.intro e2 (And.intro e3 (And.intro e4 (And.intro e5 (And.intro e6 e7)))))))
 clear h hr hrt ht ok hm hX hXF hlen e0 e1 e2 e3 e4 e5 e6 e7
 obtain ⟨m2, p2, hmp⟩ : ∃ m2 p2, t.mkG m = (m2, p2) := ⟨_, _, rfl⟩
 rw [hmp]
 dsimp only
 have HMP := hid hmp
 clear hmp
 unfold nodeV
 go_enter Tryz.func147, Tryz.ntmps147
 go_upto_region 1 with fail
 refine wp_named ?_
 intro V hV
 have N0 : Hid (Blk V w.heap.size #[.int .u8 k, .int .u64 (wd s 0).toNat, .int .u64 (wd s 1).toNat, .int .u64 (wd s 2).toNat, .int .u64 (wd s 3).toNat, .int .i64 mn, .int .i64 mx, .slice (some ⟨b, off, none⟩) n c] 86) := by rw [hV]; exact hid ((Blk.new _ _ _).alloc _)
 have R0 : Hid (Blk V (w.heap.size + 1) (zeroV false) 131) := by rw [hV]; exact hid (Blk.at (Blk.new _ _ _) (by simp))
 have E0 : Hid (Ext w V) := by rw [hV]; exact hid (((Ext.refl w).alloc _).alloc _)
 have HSZ : Hid (V.heap.size = w.heap.size + 1 + 1) := hid (by rw [hV]; simp)
 clear hV
 have hXV : V.cell? ⟨X, 0, none⟩ = some (.pointer (some ⟨M, 0, none⟩)) := (E0.out.keeps.cell (p := ⟨X, 0, none⟩) hXw).trans HX.out
 have ec : ∀ (o : Nat) (u : Value), w.cell? ⟨b, o, none⟩ = some u -> V.cell? ⟨b, o, none⟩ = some u := fun o u h => (E0.out.keeps.cell (p := ⟨b, o, none⟩) hbw).trans h
 obtain ⟨e0, e1, e2, e3, e4, e5, e6, e7⟩ := E.out
 replace e0 := ec _ _ e0
 replace e1 := ec _ _ e1
 replace e2 := ec _ _ e2
 replace e3 := ec _ _ e3
 replace e4 := ec _ _ e4
 replace e5 := ec _ _ e5
 replace e6 := ec _ _ e6
 replace e7 := ec _ _ e7
 have n7 : V.cell? ⟨w.heap.size, 7, none⟩ = some (.slice (some ⟨b, off, none⟩) n c) := N0.out.cell 7
 have hbV : b < V.heap.size := by rw [HSZ.out]; omega
 have hXv : X < V.heap.size := by rw [HSZ.out]; omega
 clear ec E
 refine wp_region_reg false (fun _ => False) (by kernel_rfl) 5 [0, 0, 2, 6, 14, 31, 63] (fun i => i == 5 || i == 6) (by kernel_rfl) (fun _ => Eff.any _) ?_
 intro C hC hne
 have HC := hid hC
 have f0 := regCell hC (p := ⟨b, off, none⟩) hbV (fun h => h) e0
 have f1 := regCell hC (p := ⟨b, off + 1, none⟩) hbV (fun h => h) e1
 have f2 := regCell hC (p := ⟨b, off + 2, none⟩) hbV (fun h => h) e2
 have f3 := regCell hC (p := ⟨b, off + 3, none⟩) hbV (fun h => h) e3
 have f4 := regCell hC (p := ⟨b, off + 4, none⟩) hbV (fun h => h) e4
 have f5 := regCell hC (p := ⟨b, off + 5, none⟩) hbV (fun h => h) e5
 have f6 := regCell hC (p := ⟨b, off + 6, none⟩) hbV (fun h => h) e6
 have f7 := regCell hC (p := ⟨b, off + 7, none⟩) hbV (fun h => h) e7
 have fX := regCell hC (p := ⟨X, 0, none⟩) hXv (fun h => h) hXV
 have fN := regCell hC (p := ⟨w.heap.size, 7, none⟩) N0.out.lt (fun h => h) n7
 clear hC e0 e1 e2 e3 e4 e5 e6 e7 hXV n7
 repeat (refine regStep (fun K hK => ?_); first | (refine regN rfl ?_; try go_simp; refine hK _ _ ?_; clear hK K) | (refine regF rfl rfl ?_; unfold floatAt; go_simp; refine hK _ _ ?_; clear hK K))
 refine regNil (fun W hW hH => ?_)
 have hMv := (HC.out W).1 hW
 have MW : Hid (MkS base M F W m) := hid ((HM.out.keeps E0.out.keeps fun x hx => (HM.out.lt x hx).2).keeps (Keeps.of_below hMv.below fun _ h => h : Keeps (· < V.heap.size) V W) fun x hx => by have := (HM.out.lt x hx).2; rw [HSZ.out]; omega)
 have IW : Hid (IsRx (· < n0) W (.agg (nodeV t.kind t.set t.mn t.mx (.slice p' t.subs.length c'))) t) := hid ((HRT.out.keeps E0.out.keeps fun x hx => by have := (HM.out.lt _ HM.out.fm).1; omega).keeps (Keeps.of_below hMv.below fun _ h => h : Keeps (· < V.heap.size) V W) fun x hx => by have := (HM.out.lt _ HM.out.fm).1; rw [HSZ.out]; omega)
 have RW := hid (R0.out.below hMv.below R0.out.lt)
 have KW : Hid (Keeps (· < w.heap.size) w W) := hid (E0.out.keeps.tr (Keeps.of_below hMv.below fun x hx => by rw [HSZ.out]; omega : Keeps (· < w.heap.size) V W))
 have hsW : w.heap.size + 1 + 1 <= W.heap.size := by rw [<- HSZ.out]; exact hMv.below.size
 clear hMv hW hH HC hne f0 f1 f2 f3 f4 f5 f6 f7 fX fN
 have CM : Hid (Calls Tryz.prog 68 #[.pointer (some ⟨M, 0, none⟩), .agg (nodeV t.kind t.set t.mn t.mx (.slice p' t.subs.length c'))] W (MkAft base M F W (t.mkG m).1 (t.mkG m).2)) := hid (HT.out base M F m W _ hn0 MW.out IW.out HOK.out HFL.out hn)
 rw [HMP.out] at CM
 dsimp only at CM
 clear MW IW R0
 go_wp2_with fail
 refine CM.out.mono ?_
 rintro e w3 ⟨rfl, hF', hx, hsz⟩
 have hnF : ∀ k, w.heap.size <= k -> ¬ F k := fun k hk e => by have := (HM.out.lt k e).2; omega
 have R3 : Hid (Blk w3 (w.heap.size + 1) (zeroV false) 131) := hid (RW.out.keeps hx ⟨by omega, hnF _ (by omega)⟩)
 have HF' := hid hF'
 have HK := hid hx
 clear hx hF' CM
 obtain ⟨r0, r1, r2, r3, r4, r5, r6, r7, r8, r9, r10, r11, r12, r13, r14⟩ := R3.out.zero
 obtain ⟨f0, f1, f2, f3, f4, f5, f6, f7, f8, f9, f10, f11, f12, f13, f14⟩ : w3.frozen? ⟨w.heap.size + 1, 0, none⟩ = false /\ w3.frozen? ⟨w.heap.size + 1, 1, none⟩ = false /\ w3.frozen? ⟨w.heap.size + 1, 2, none⟩ = false /\ w3.frozen? ⟨w.heap.size + 1, 3, none⟩ = false /\ w3.frozen? ⟨w.heap.size + 1, 4, none⟩ = false /\ w3.frozen? ⟨w.heap.size + 1, 5, none⟩ = false /\ w3.frozen? ⟨w.heap.size + 1, 6, none⟩ = false /\ w3.frozen? ⟨w.heap.size + 1, 7, none⟩ = false /\ w3.frozen? ⟨w.heap.size + 1, 8, none⟩ = false /\ w3.frozen? ⟨w.heap.size + 1, 9, none⟩ = false /\ w3.frozen? ⟨w.heap.size + 1, 10, none⟩ = false /\ w3.frozen? ⟨w.heap.size + 1, 11, none⟩ = false /\ w3.frozen? ⟨w.heap.size + 1, 12, none⟩ = false /\ w3.frozen? ⟨w.heap.size + 1, 13, none⟩ = false /\ w3.frozen? ⟨w.heap.size + 1, 14, none⟩ = false := ⟨R3.out.frozen 0, R3.out.frozen 1, R3.out.frozen 2, R3.out.frozen 3, R3.out.frozen 4, R3.out.frozen 5, R3.out.frozen 6, R3.out.frozen 7, R3.out.frozen 8, R3.out.frozen 9, R3.out.frozen 10, R3.out.frozen 11, R3.out.frozen 12, R3.out.frozen 13, R3.out.frozen 14⟩
 unfold partV
 go_wp2
 refine post_named ?_
 intro V3 hV3
 have R9 : Hid (Blk V3 (w.heap.size + 1) (partV p2) 131) := by rw [hV3]; exact hid (R3.out.setPart p2)
 have K9 : Keeps (· ≠ w.heap.size + 1) w3 V3 := by rw [hV3]; exact keeps_setPart _ _ p2
 clear hV3
 obtain ⟨m0, m1, m2, m3, m4, m5, m6, m7, m8, m9, m10, m11, m12, m13, m14⟩ := R9.out.part
 refine bodyPost_ret (v := .agg (partV p2)) (by simp [results, Tryz.results147, partV, go_sem, m0, m1, m2, m3, m4, m5, m6, m7, m8, m9, m10, m11, m12, m13, m14]) rfl ⟨rfl, ?_, ?_, ?_⟩
 ·obtain ⟨F', h1, h2, h3⟩ := HF'.out
  refine ⟨F', ⟨h1.fm, fun x hx => ⟨(h1.lt x hx).1, Nat.lt_of_lt_of_le (h1.lt x hx).2 K9.size⟩, ?_⟩, h2, fun x hx => (h3 x hx).imp id fun h => by omega⟩
  exact (h1.keeps K9 fun x hx e => by rcases h3 x hx with h | h; exact hnF _ (by omega) h; omega).row
 ·exact (KW.out.mono fun x hx => hx.1).tr ((HK.out.mono fun x hx => ⟨by have := hx.1; omega, hx.2⟩).tr (K9.mono fun x hx => by have := hx.1; omega))
 ·have := K9.size; omega
end Go.Proofs.YtbiboekhakbnpaaGreatDoor
namespace Go.Proofs.YtbiboekhakbnpaaGreatDoor
open Go Go.RowKit

theorem altG_app : ∀ (a b : List RX) (st : GM × GP), RX.altG (a ++ b) st = RX.altG b (RX.altG a st)
 | [], _, _ => by rw [List.nil_append, RX.altG]
 | t :: a, b, st => by rw [List.cons_append, RX.altG, RX.altG]; exact altG_app a b _
theorem catG_app : ∀ (a b : List RX) (st : GM × GP), RX.catG (a ++ b) st = RX.catG b (RX.catG a st)
 | [], _, _ => by rw [List.nil_append, RX.catG]
 | t :: a, b, st => by rw [List.cons_append, RX.catG, RX.catG]; exact catG_app a b _
theorem cnts_app : ∀ (a b : List RX), RX.cnts (a ++ b) = RX.cnts a + RX.cnts b
 | [], _ => by rw [List.nil_append, RX.cnts, Nat.zero_add]
 | t :: a, b => by rw [List.cons_append, RX.cnts, RX.cnts, cnts_app a b, Nat.add_assoc]
theorem cnts_take (l : List RX) (k : Nat) : RX.cnts (l.take k) <= RX.cnts l := by
 have h := cnts_app (l.take k) (l.drop k)
 rw [List.take_append_drop] at h
 omega
theorem take_sn {α : Type} {l : List α} {k : Nat} {t : α} (h : l[k]? = some t) : l.take (k + 1) = l.take k ++ [t] := by rw [List.take_add_one, h]; rfl
theorem cnts_snoc {l : List RX} {k : Nat} {t : RX} (h : l[k]? = some t) : RX.cnts (l.take (k + 1)) = RX.cnts (l.take k) + t.cnt := by
 rw [take_sn h, cnts_app, RX.cnts, RX.cnts, Nat.add_zero]
theorem altG_snoc {l : List RX} {k : Nat} {t : RX} (h : l[k]? = some t) (st : GM × GP) : RX.altG (l.take (k + 1)) st = ((t.mkG (RX.altG (l.take k) st).1).1, ⟨(RX.altG (l.take k) st).2.fst ||| (t.mkG (RX.altG (l.take k) st).1).2.fst, (RX.altG (l.take k) st).2.lst ||| (t.mkG (RX.altG (l.take k) st).1).2.lst, (RX.altG (l.take k) st).2.emp || (t.mkG (RX.altG (l.take k) st).1).2.emp⟩) := by
 rw [take_sn h, altG_app, RX.altG, RX.altG]
theorem catG_snoc {l : List RX} {k : Nat} {t : RX} (h : l[k]? = some t) (st : GM × GP) : RX.catG (l.take (k + 1)) st = thenG (t.mkG (RX.catG (l.take k) st).1).1 (RX.catG (l.take k) st).2 (t.mkG (RX.catG (l.take k) st).1).2 := by
 rw [take_sn h, catG_app, RX.catG, RX.catG]
theorem altG_pre {l : List RX} (hl : ∀ t ∈ l, t.full = true) {m : GM} (hm : m.ok) (e : Bool) (k : Nat) : MadeG m (RX.altG (l.take k) (m, ⟨0, 0, e⟩)) (RX.cnts (l.take k)) := by
 have h := altG_ok (l.take k) (fun t ht m hm => mkG_ok t (hl t (List.mem_of_mem_take ht)) m hm) m (m, ⟨0, 0, e⟩) 0 ⟨hm, rfl, ⟨fun p hp => by simp at hp, fun p hp => by simp at hp⟩⟩
 rw [Nat.zero_add] at h
 exact h
theorem catG_pre {l : List RX} (hl : ∀ t ∈ l, t.full = true) {m : GM} (hm : m.ok) (e : Bool) (k : Nat) : MadeG m (RX.catG (l.take k) (m, ⟨0, 0, e⟩)) (RX.cnts (l.take k)) := by
 have h := catG_ok (l.take k) (fun t ht m hm => mkG_ok t (hl t (List.mem_of_mem_take ht)) m hm) m (m, ⟨0, 0, e⟩) 0 ⟨hm, rfl, ⟨fun p hp => by simp at hp, fun p hp => by simp at hp⟩⟩
 rw [Nat.zero_add] at h
 exact h
end Go.Proofs.YtbiboekhakbnpaaGreatDoor
namespace Go.Proofs.YtbiboekhakbnpaaGreatDoor
open Go Go.RowKit Go.Shelf Go.Maps

def PreI (base M : Nat) (F : Nat -> Prop) (st : GM × GP) (O : Nat) (V W : World) : Prop :=
 (∃ F', MkS base M F' W st.1 /\ (∀ x, F x -> F' x) /\ ∀ x, F' x -> F x \/ V.heap.size <= x) /\ Blk W O (partV st.2) 131 /\ Keeps (fun x => x < V.heap.size /\ ¬ F x /\ x ≠ O) V W
theorem malt_any (n0 base M : Nat) (F : Nat -> Prop) (m : GM) (k : Nat) (s : BS) (mn mx : Int) (l : List RX) (p : Option Addr) (n c : Nat) (X : Nat) (w : World) (hn0 : n0 <= base) (h : MkS base M F w m) (hr : IsRx (· < n0) w (.agg (nodeV k s mn mx (.slice p n c))) (.nd k s mn mx l)) (ht : ∀ t ∈ l, MkOK n0 t) (hf : ∀ t ∈ l, t.full = true)
  (hX : w.cell? ⟨X, 0, none⟩ = some (.pointer (some ⟨M, 0, none⟩))) (hXF : ¬ F X) (ok : m.ok) (hm : m.fol.length = m.sets.length) (hn : m.sets.length + RX.cnts l <= 448) (hL : l.length <= 10000) :
  Calls Tryz.prog 144 #[.agg (nodeV k s mn mx (.slice p n c)), .pointer (some ⟨X, 0, none⟩)] w (MkAft base M F w (RX.altG l (m, ⟨0, 0, false⟩)).1 (RX.altG l (m, ⟨0, 0, false⟩)).2) := by
 have hlen : n = l.length := by
  obtain ⟨p2, c2, e⟩ := hr.form
  simp [nodeV, RX.subs, RX.kind, RX.set, RX.mn, RX.mx] at e
  exact e.2.1
 have hn9 : n <= 10000 := by omega
 have HM := hid h
 have HR := hid hr
 have HT := hid ht
 have HFu := hid hf
 have HOK := hid ok
 have HFL := hid hm
 have HX := hid hX
 have HXF := hid hXF
 have HLN := hid hlen
 have hXw : X < w.heap.size := World.block_lt_of_cell? _ _ hX
 have hMw : M < w.heap.size := (h.lt M h.fm).2
 have hbw : n0 <= w.heap.size := by have := (h.lt M h.fm).1; omega
 obtain ⟨st, hst⟩ : ∃ st, st = RX.altG l (m, ⟨0, 0, false⟩) := ⟨_, rfl⟩
 rw [<- hst]
 have HST := hid hst
 clear h hr ht hf ok hm hX hXF hlen hst
 unfold nodeV
 go_enter Tryz.func144, Tryz.ntmps144
 go_upto_region 2 with fail
 refine wp_named ?_
 intro V hV
 have N0 : Hid (Blk V w.heap.size #[.int .u8 k, .int .u64 (wd s 0).toNat, .int .u64 (wd s 1).toNat, .int .u64 (wd s 2).toNat, .int .u64 (wd s 3).toNat, .int .i64 mn, .int .i64 mx, .slice p n c] 86) := by rw [hV]; exact hid (((Blk.new _ _ _).alloc _).alloc _)
 have R0 : Hid (Blk V (w.heap.size + 1) (zeroV false) 131) := by rw [hV]; exact hid ((Blk.at (Blk.new _ _ _) (by simp)).alloc _)
 have O0 : Hid (Blk V (w.heap.size + 1 + 1) (zeroV false) 131) := by rw [hV]; exact hid (Blk.at (Blk.new _ _ _) (by simp))
 have E0 : Hid (Ext w V) := by rw [hV]; exact hid ((((Ext.refl w).alloc _).alloc _).alloc _)
 have HSZ : Hid (V.heap.size = w.heap.size + 1 + 1 + 1) := hid (by rw [hV]; simp)
 clear hV
 have n7 : V.cell? ⟨w.heap.size, 7, none⟩ = some (.slice p n c) := N0.out.cell 7
 have hVs : w.heap.size + 1 + 1 < V.heap.size := by rw [HSZ.out]; omega
 have MV : Hid (MkS base M F V m) := hid (HM.out.keeps E0.out.keeps fun x hx => (HM.out.lt x hx).2)
 have hXV : V.cell? ⟨X, 0, none⟩ = some (.pointer (some ⟨M, 0, none⟩)) := (E0.out.keeps.cell (p := ⟨X, 0, none⟩) hXw).trans HX.out
 have HXV := hid hXV
 clear hXV
 go_wp2
 clear n7
 go_loopw [11] (fun iv W => ∃ k : Nat, k <= n /\ iv = .int .i64 k /\ PreI base M F (RX.altG (l.take k) (m, ⟨0, 0, false⟩)) (w.heap.size + 1 + 1) V W) (fun iv _ => n - (intOf iv).toNat)
 case atStart =>
  refine ⟨0, by omega, rfl, ?_⟩
  rw [List.take_zero, RX.altG]
  exact ⟨⟨F, MV.out, fun _ h => h, fun _ h => .inl h⟩, by rw [partV_zero]; exact O0.out, Keeps.refl _ _⟩
 case round =>
  obtain ⟨k, hk, rfl, hI⟩ := hrel
  obtain ⟨wo, rfl⟩ : ∃ wo : World, wo = wr := ⟨_, rfl⟩
  have HI := hid hI
  clear hI
  by_cases hlt : k < n
  ·have hki : (k : Int) < n := by omega
   obtain ⟨t, htk⟩ : ∃ t, l[k]? = some t := ⟨_, List.getElem?_eq_getElem (by have := HLN.out; omega)⟩
   have hnFb : ∀ x, x < n0 -> ¬ F x := fun x hx e => by have := (HM.out.lt x e).1; omega
   obtain ⟨b, off, p', c', rfl, hb, hbw2, hcap, ⟨e0, e1, e2, e3, e4, e5, e6, e7⟩, hrt⟩ := HR.out.elem htk
   have HTK := hid htk
   have KO : Hid (Keeps (fun x => x < w.heap.size /\ ¬ F x) w wo) := hid ((E0.out.keeps.mono fun x hx => hx.1).tr (HI.out.2.2.mono fun x hx => ⟨by have := hx.1; omega, hx.2, by have := hx.1; omega⟩))
   have ec : ∀ (o : Nat) (u : Value), w.cell? ⟨b, o, none⟩ = some u -> wo.cell? ⟨b, o, none⟩ = some u := fun o u h => (KO.out.cell (p := ⟨b, o, none⟩) ⟨hbw2, hnFb b hb⟩).trans h
   replace e0 := ec _ _ e0
   replace e1 := ec _ _ e1
   replace e2 := ec _ _ e2
   replace e3 := ec _ _ e3
   replace e4 := ec _ _ e4
   replace e5 := ec _ _ e5
   replace e6 := ec _ _ e6
   replace e7 := ec _ _ e7
   have hXo : wo.cell? ⟨X, 0, none⟩ = some (.pointer (some ⟨M, 0, none⟩)) := (KO.out.cell (p := ⟨X, 0, none⟩) ⟨hXw, HXF.out⟩).trans HX.out
   have HXo := hid hXo
   have hbo : b < wo.heap.size := World.block_lt_of_cell? _ _ e0
   have HRT : Hid (IsRx (· < n0) wo (.agg (nodeV t.kind t.set t.mn t.mx (.slice p' t.subs.length c'))) t) := hid (hrt.keeps KO.out fun x hx => ⟨by omega, hnFb x hx⟩)
   clear ec htk hrt hnFb hXo
   go_upto_region 5 with fail
   refine wp_named ?_
   intro W1 hW1
   have N1 : Hid (Blk W1 wo.heap.size (nodeV t.kind t.set t.mn t.mx (.slice p' t.subs.length c')) 86) := by rw [hW1]; exact hid (Blk.new _ _ _)
   have E1 : Hid (Ext wo W1) := by rw [hW1]; exact hid ((Ext.refl wo).alloc _)
   clear hW1 e0 e1 e2 e3 e4 e5 e6 e7
   have e0 : W1.cell? ⟨wo.heap.size, 0, none⟩ = some (.int .u8 t.kind) := N1.out.cell 0
   have e1 : W1.cell? ⟨wo.heap.size, 1, none⟩ = some (.int .u64 (wd t.set 0).toNat) := N1.out.cell 1
   have e2 : W1.cell? ⟨wo.heap.size, 2, none⟩ = some (.int .u64 (wd t.set 1).toNat) := N1.out.cell 2
   have e3 : W1.cell? ⟨wo.heap.size, 3, none⟩ = some (.int .u64 (wd t.set 2).toNat) := N1.out.cell 3
   have e4 : W1.cell? ⟨wo.heap.size, 4, none⟩ = some (.int .u64 (wd t.set 3).toNat) := N1.out.cell 4
   have e5 : W1.cell? ⟨wo.heap.size, 5, none⟩ = some (.int .i64 t.mn) := N1.out.cell 5
   have e6 : W1.cell? ⟨wo.heap.size, 6, none⟩ = some (.int .i64 t.mx) := N1.out.cell 6
   have e7 : W1.cell? ⟨wo.heap.size, 7, none⟩ = some (.slice p' t.subs.length c') := N1.out.cell 7
   have hXo : W1.cell? ⟨X, 0, none⟩ = some (.pointer (some ⟨M, 0, none⟩)) := (E1.out.keeps.cell (p := ⟨X, 0, none⟩) (World.block_lt_of_cell? _ _ HXo.out)).trans HXo.out
   obtain ⟨⟨F', hM', hF1, hF2⟩, hO, hKI⟩ := HI.out
   have hpre := altG_pre HFu.out HOK.out false k
   have hcs := cnts_snoc HTK.out
   have hct := cnts_take l (k + 1)
   have hal := altG_snoc HTK.out (m, (⟨0, 0, false⟩ : GP))
   have CM : Hid (Calls Tryz.prog 68 #[.pointer (some ⟨M, 0, none⟩), .agg (nodeV t.kind t.set t.mn t.mx (.slice p' t.subs.length c'))] W1 (MkAft base M F' W1 (t.mkG (RX.altG (l.take k) (m, ⟨0, 0, false⟩)).1).1 (t.mkG (RX.altG (l.take k) (m, ⟨0, 0, false⟩)).1).2)) := hid (HT.out t (List.mem_of_getElem? HTK.out) base M F' _ W1 _ hn0 (hM'.keeps E1.out.keeps fun x hx => (hM'.lt x hx).2) (HRT.out.keeps E1.out.keeps fun x hx => by have := KO.out.size; omega) hpre.ok hpre.ok.len (by rw [hpre.len]; omega))
   clear hpre hcs hct
   obtain ⟨sk, hsk⟩ : ∃ sk, sk = RX.altG (l.take k) (m, (⟨0, 0, false⟩ : GP)) := ⟨_, rfl⟩
   rw [<- hsk] at CM hO hM' hal
   obtain ⟨m2, p2, hmp⟩ : ∃ m2 p2, t.mkG sk.1 = (m2, p2) := ⟨_, _, rfl⟩
   rw [hmp] at CM hal
   dsimp only at CM hal
   have HAL := hid hal
   have hnO : ¬ F' (w.heap.size + 1 + 1) := fun e => by rcases hF2 _ e with h | h; exact absurd (HM.out.lt _ h).2 (by omega); omega
   have O1 := hid (hO.ext E1.out)
   have HF1 := hid hF1
   have HF2 := hid hF2
   have HKI := hid hKI
   have HNO := hid hnO
   clear hal hmp hsk hO hM' hF1 hF2 hKI hnO HI
   go_wp2_with fail
   refine CM.out.mono ?_
   rintro e w2 ⟨rfl, hF'', hx, hsz⟩
   have O2 := hid (O1.out.keeps hx ⟨O1.out.lt, HNO.out⟩)
   have HF'' := hid hF''
   have HKx := hid hx
   clear hF'' hx CM e0 e1 e2 e3 e4 e5 e6 e7 hXo
   unfold partV
   go_upto_region 6 with fail
   refine wp_named ?_
   intro W3 hW3
   have X3 : Hid (Blk W3 w2.heap.size (partV p2) 131) := by rw [hW3]; exact hid (Blk.new _ _ _)
   have E3 : Hid (Ext w2 W3) := by rw [hW3]; exact hid ((Ext.refl w2).alloc _)
   have O3 := hid (O2.out.ext E3.out)
   have hO2 : w.heap.size + 1 + 1 < w2.heap.size := O2.out.lt
   clear hW3 O1 O2
   obtain ⟨a0, a1, a2, a3, a4, a5, a6, a7, a8, a9, a10, a11, a12, a13, a14⟩ := X3.out.part
   obtain ⟨o0, o1, o2, o3, o4, o5, o6, o7, o8, o9, o10, o11, o12, o13, o14⟩ := O3.out.part
   obtain ⟨z0, z1, z2, z3, z4, z5, z6, z7, z8, z9, z10, z11, z12, z13, z14⟩ := O3.out.partZ
   try dsimp only at o0 o1 o2 o3 o4 o5 o6 o7 o8 o9 o10 o11 o12 o13 o14
   go_wp2_with fail
   clear a0 a1 a2 a3 a4 a5 a6 a7 a8 a9 a10 a11 a12 a13 a14 o0 o1 o2 o3 o4 o5 o6 o7 o8 o9 o10 o11 o12 o13 o14 z0 z1 z2 z3 z4 z5 z6 z7 z8 z9 z10 z11 z12 z13 z14
   refine (orAt_any (bW sk.2.fst) (bW p2.fst) (w.heap.size + 1 + 1) 0 W3 (WdAt.fst O3.out) (fun i _ => O3.out.frozen _)).mono ?_
   rintro e w4 ⟨⟨u, rfl⟩, hx⟩
   have O4 : Hid (Blk w4 (w.heap.size + 1 + 1) (partV ⟨sk.2.fst ||| p2.fst, sk.2.lst, sk.2.emp⟩) 131) := hid ((setWds_fst O3.out (sk.2.fst ||| p2.fst) (fun i _ => (bW_or sk.2.fst p2.fst i).symm)).keeps hx O3.out.lt)
   have K4 : Hid (Keeps (fun x => x < W3.heap.size /\ x ≠ w.heap.size + 1 + 1) W3 w4) := hid (((setWds_keeps _ _ _ _ _ : Keeps (· ≠ w.heap.size + 1 + 1) W3 _).mono fun x hx => hx.2).tr (hx.mono fun x hx => hx.1))
   have X4 := hid (X3.out.keeps K4.out ⟨X3.out.lt, by omega⟩)
   clear hx
   obtain ⟨a0, a1, a2, a3, a4, a5, a6, a7, a8, a9, a10, a11, a12, a13, a14⟩ := X4.out.part
   obtain ⟨o0, o1, o2, o3, o4, o5, o6, o7, o8, o9, o10, o11, o12, o13, o14⟩ := O4.out.part
   obtain ⟨z0, z1, z2, z3, z4, z5, z6, z7, z8, z9, z10, z11, z12, z13, z14⟩ := O4.out.partZ
   try dsimp only at o0 o1 o2 o3 o4 o5 o6 o7 o8 o9 o10 o11 o12 o13 o14
   go_wp2_with fail
   clear a0 a1 a2 a3 a4 a5 a6 a7 a8 a9 a10 a11 a12 a13 a14 o0 o1 o2 o3 o4 o5 o6 o7 o8 o9 o10 o11 o12 o13 o14 z0 z1 z2 z3 z4 z5 z6 z7 z8 z9 z10 z11 z12 z13 z14
   refine (orAt_any (bW sk.2.lst) (bW p2.lst) (w.heap.size + 1 + 1) 7 w4 (WdAt.lst (a := ⟨sk.2.fst ||| p2.fst, sk.2.lst, sk.2.emp⟩) O4.out) (fun i _ => O4.out.frozen _)).mono ?_
   rintro e w5 ⟨⟨u, rfl⟩, hx⟩
   have O5 : Hid (Blk w5 (w.heap.size + 1 + 1) (partV ⟨sk.2.fst ||| p2.fst, sk.2.lst ||| p2.lst, sk.2.emp⟩) 131) := hid ((setWds_lst O4.out (sk.2.lst ||| p2.lst) (fun i _ => (bW_or sk.2.lst p2.lst i).symm)).keeps hx O4.out.lt)
   have K5 : Hid (Keeps (fun x => x < W3.heap.size /\ x ≠ w.heap.size + 1 + 1) W3 w5) := hid (K4.out.tr (((setWds_keeps _ _ _ _ _ : Keeps (· ≠ w.heap.size + 1 + 1) w4 _).mono fun x hx => hx.2).tr (hx.mono fun x hx => by have := K4.out.size; exact Nat.lt_of_lt_of_le hx.1 this)))
   have X5 := hid (X3.out.keeps K5.out ⟨X3.out.lt, by omega⟩)
   clear hx
   obtain ⟨a0, a1, a2, a3, a4, a5, a6, a7, a8, a9, a10, a11, a12, a13, a14⟩ := X5.out.part
   obtain ⟨o0, o1, o2, o3, o4, o5, o6, o7, o8, o9, o10, o11, o12, o13, o14⟩ := O5.out.part
   obtain ⟨z0, z1, z2, z3, z4, z5, z6, z7, z8, z9, z10, z11, z12, z13, z14⟩ := O5.out.partZ
   try dsimp only at o0 o1 o2 o3 o4 o5 o6 o7 o8 o9 o10 o11 o12 o13 o14
   obtain ⟨eb, heb⟩ : ∃ eb, eb = sk.2.emp := ⟨_, rfl⟩
   rw [<- heb] at o14
   have HEB := hid heb
   clear heb
   cases eb
   all_goals
    go_wp2
    go_roundw
    case rel =>
     refine ⟨k + 1, by omega, by go_num, ?_⟩
     rw [HAL.out]
     obtain ⟨F'', g1, g2, g3⟩ := HF''.out
     have h1 := E1.out.keeps.size
     have h2 := HKI.out.size
     have h3 := E3.out.keeps.size
     have K6 := K5.out.setCell (p := ⟨w.heap.size + 1 + 1, 14, none⟩) (fun h => h.2 rfl) (.bool (sk.2.emp || p2.emp))
     have O6 := O5.out.set 14 (.bool (sk.2.emp || p2.emp))
     have hn'' : ¬ F'' (w.heap.size + 1 + 1) := fun e => by rcases g3 _ e with h | h; exact HNO.out h; omega
     rw [<- HEB.out] at K6 O6 ⊢
     simp only [Bool.false_or, Bool.true_or] at K6 O6 ⊢
     refine ⟨⟨F'', (g1.keeps E3.out.keeps fun x hx => (g1.lt x hx).2).keeps K6 fun x hx => ⟨by have := (g1.lt x hx).2; omega, fun e => hn'' (e ▸ hx)⟩, fun x h => g2 x (HF1.out x h), fun x h => by rcases g3 x h with h | h; exact HF2.out x h; exact .inr (by omega)⟩, O6, ?_⟩
     exact HKI.out.tr ((E1.out.keeps.mono fun x hx => by have := hx.1; omega).tr ((HKx.out.mono fun x hx => ⟨by have := hx.1; omega, fun e => by rcases HF2.out x e with h | h; exact hx.2.1 h; have := hx.1; omega⟩).tr ((E3.out.keeps.mono fun x hx => by have := hx.1; omega).tr (K6.mono fun x hx => ⟨by have := hx.1; omega, hx.2.2⟩))))
    case measure => simp [intOf]; omega
  ·obtain rfl : k = n := by omega
   have hkn : ¬ ((k : Int) < k) := by omega
   obtain ⟨hF', hO, hK⟩ := HI.out
   rw [HLN.out, List.take_length, <- HST.out] at hF' hO
   have HF' := hid hF'
   have O3 := hid hO
   have HK := hid hK
   have R3 : Hid (Blk wo (w.heap.size + 1) (zeroV false) 131) := hid (R0.out.keeps hK ⟨R0.out.lt, fun e => by have := (HM.out.lt _ e).2; omega, by omega⟩)
   obtain ⟨o0, o1, o2, o3, o4, o5, o6, o7, o8, o9, o10, o11, o12, o13, o14⟩ := O3.out.part
   obtain ⟨r0, r1, r2, r3, r4, r5, r6, r7, r8, r9, r10, r11, r12, r13, r14⟩ := R3.out.zero
   obtain ⟨f0, f1, f2, f3, f4, f5, f6, f7, f8, f9, f10, f11, f12, f13, f14⟩ : wo.frozen? ⟨w.heap.size + 1, 0, none⟩ = false /\ wo.frozen? ⟨w.heap.size + 1, 1, none⟩ = false /\ wo.frozen? ⟨w.heap.size + 1, 2, none⟩ = false /\ wo.frozen? ⟨w.heap.size + 1, 3, none⟩ = false /\ wo.frozen? ⟨w.heap.size + 1, 4, none⟩ = false /\ wo.frozen? ⟨w.heap.size + 1, 5, none⟩ = false /\ wo.frozen? ⟨w.heap.size + 1, 6, none⟩ = false /\ wo.frozen? ⟨w.heap.size + 1, 7, none⟩ = false /\ wo.frozen? ⟨w.heap.size + 1, 8, none⟩ = false /\ wo.frozen? ⟨w.heap.size + 1, 9, none⟩ = false /\ wo.frozen? ⟨w.heap.size + 1, 10, none⟩ = false /\ wo.frozen? ⟨w.heap.size + 1, 11, none⟩ = false /\ wo.frozen? ⟨w.heap.size + 1, 12, none⟩ = false /\ wo.frozen? ⟨w.heap.size + 1, 13, none⟩ = false /\ wo.frozen? ⟨w.heap.size + 1, 14, none⟩ = false := ⟨R3.out.frozen 0, R3.out.frozen 1, R3.out.frozen 2, R3.out.frozen 3, R3.out.frozen 4, R3.out.frozen 5, R3.out.frozen 6, R3.out.frozen 7, R3.out.frozen 8, R3.out.frozen 9, R3.out.frozen 10, R3.out.frozen 11, R3.out.frozen 12, R3.out.frozen 13, R3.out.frozen 14⟩
   clear hF' hO hK HI
   go_wp2
   refine post_named ?_
   intro V3 hV3
   have R9 : Hid (Blk V3 (w.heap.size + 1) (partV st.2) 131) := by rw [hV3]; exact hid (R3.out.setPart st.2)
   have K9 : Keeps (· ≠ w.heap.size + 1) wo V3 := by rw [hV3]; exact keeps_setPart _ _ st.2
   clear hV3
   obtain ⟨m0, m1, m2, m3, m4, m5, m6, m7, m8, m9, m10, m11, m12, m13, m14⟩ := R9.out.part
   refine bodyPost_ret (v := .agg (partV st.2)) (by simp [results, Tryz.results144, partV, go_sem, m0, m1, m2, m3, m4, m5, m6, m7, m8, m9, m10, m11, m12, m13, m14]) rfl ⟨rfl, ?_, ?_, ?_⟩
   ·obtain ⟨F', h1, h2, h3⟩ := HF'.out
    exact ⟨F', h1.keeps K9 fun x hx e => by (rcases h3 x hx with h | h; · exact absurd (HM.out.lt x h).2 (by omega)); omega, h2, fun x hx => (h3 x hx).imp id fun h => by omega⟩
   ·exact (E0.out.keeps.mono fun x hx => hx.1).tr ((HK.out.mono fun x hx => ⟨by have := hx.1; omega, hx.2, by have := hx.1; omega⟩).tr (K9.mono fun x hx => by have := hx.1; omega))
   ·have := K9.size; have := HK.out.size; omega
end Go.Proofs.YtbiboekhakbnpaaGreatDoor
