/-
  Walks for the laws on alphabets: few; slices.Equal at ints.
    Walks for the laws on alphabets: cmp.Less, slices.IsSorted at ints.
    Walks for the laws on alphabets: bytes.Equal.
  How a law's row is opened and shut: arguments that are slices of sets, of bytes, of numbers; a law's ending, where the call has only made memory.
    Arguments of the laws on alphabets as the walks take them.
  An append whose source may be nil or not, in plain and in drawn regions.
  Plain facts on the classes of sets (their order), and at the example of the chapter.
    The walk of the laws' 'awake': the examples of the chapter.
  Arrays of 256 numbers by value, told by a function.
    A slice of one element of many cells, made at once: no unrolling.
    Effects of a drawn region: whole arrays read and stored.
    Walks of the reference of layer 1: Words.
    Walks of the reference of layer 16: Leasts, Is, Class, Set.
    Walks of the reference of layer 16: All, Word.
    Walks of the references: Both (Or), Join.
    Walks of the references: Parts, Of.
    Walks for the laws on alphabets: words (a set of the reference as that of the program), the reference's Finer.
-/
import Derived.Test.YtbiboekhakbnpaaGreatDoorOB05
import Derived.Deep.QuietTactic
import Derived.BigQuiet
import Derived.Shelf.Bytes.SlEqualAll
import Derived.Test.YtbiboekhakbnpaaGreatDoorProg
import Derived.Test.YtbiboekhakbnpaaGreatDoorOB02
import Derived.ProofKit
import Derived.Deep.Slices
import Derived.Test.YtbiboekhakbnpaaGreatDoorOB01
import Derived.Maps.AppendAt
import Derived.RegionTactic
import Derived.BigRegion
import Derived.Laws.OwnMore
import Derived.Deep.MidRow
import Derived.Lib.SmallJoins
import Derived.Deep.WholeRow
import Derived.Laws.Tables
set_option maxRecDepth 100000
set_option maxHeartbeats 16000000
open Go.Lib (hid)
namespace Go.Proofs.YtbiboekhakbnpaaGreatDoor
open Go Go.RowKit Go.Shelf Go.Maps
attribute [local go_sem] encS

def IsSetsC (w : World) (v : Value) (l : List BS) : Prop := IsSets w v l /\ ∀ a n cap, v = .slice a n cap -> n <= cap

theorem IsSets.form {w : World} {v : Value} {l : List BS} (h : IsSets w v l) : ∃ a cap, v = .slice a l.length cap := by
 rcases h with ⟨h, rfl⟩ | ⟨b, off, cap, hv, _⟩
 ·exact ⟨_, _, h⟩
 ·exact ⟨_, _, hv⟩
theorem slEqual_any (v1 v2 : Value) (l1 l2 : List Int) (w : World) (h1 : IsSl encZ w v1 l1) (h2 : IsSl encZ w v2 l2) (hn : l1.length <= 1000000) :
  Calls Tryz.prog 16 #[v1, v2] w fun e w' => e = .returned (.bool (l1 == l2)) /\ Ext w w' := by
 obtain ⟨a1, c1, rfl⟩ := h1.form
 obtain ⟨a2, c2, rfl⟩ := h2.form
 obtain ⟨n, hnn⟩ : ∃ n, n = l1.length := ⟨_, rfl⟩
 obtain ⟨m, hmm⟩ : ∃ m, m = l2.length := ⟨_, rfl⟩
 rw [<- hnn] at hn h1 ⊢
 rw [<- hmm] at h2 ⊢
 obtain ⟨r, hr⟩ : ∃ r, r = (l1 == l2) := ⟨_, rfl⟩
 rw [<- hr]
 have H1 := hid h1
 have H2 := hid h2
 have HN := hid hnn
 have HM := hid hmm
 have HR := hid hr
 clear h1 h2 hnn hmm hr
 by_cases hnm : n = m
 ·subst hnm
  go_enter Tryz.func16, Tryz.ntmps16
  go_wp2
  go_loopw [13] (fun i wr => ∃ k : Nat, k <= n /\ i = .int .i64 k /\ l1.take k = l2.take k /\ Ext w wr) (fun i _ => n - (intOf i).toNat)
  case atStart => exact ⟨0, by omega, rfl, rfl, Ext.refl _⟩
  case round =>
   obtain ⟨k, hk, rfl, ht, hx⟩ := hrel
   obtain ⟨wo, rfl⟩ : ∃ wo : World, wo = wr := ⟨_, rfl⟩
   by_cases hlt : k < n
   ·obtain ⟨x, hxl⟩ : ∃ x, l1[k]? = some x := ⟨_, List.getElem?_eq_getElem (by have := HN.out; omega)⟩
    obtain ⟨y, hyl⟩ : ∃ y, l2[k]? = some y := ⟨_, List.getElem?_eq_getElem (by have := HM.out; omega)⟩
    obtain ⟨g1, o1, rfl, hg1, hc1⟩ := H1.out.elem hxl
    obtain ⟨g2, o2, rfl, hg2, hc2⟩ := H2.out.elem hyl
    have d1 : wo.cell? ⟨g1, o1 + k, none⟩ = some (.int .i64 x) := (hx.cell (p := ⟨g1, o1 + k, none⟩) hg1).trans hc1
    have d2 : wo.cell? ⟨g2, o2 + k, none⟩ = some (.int .i64 y) := (hx.cell (p := ⟨g2, o2 + k, none⟩) hg2).trans hc2
    have HXL := hid hxl
    have HYL := hid hyl
    have HT := hid ht
    have HX := hid hx
    clear hxl hyl ht hx hc1 hc2
    go_wp2
    refine wp_region_lexK (fun b => b = g1 \/ b = g2) (by kernel_rfl) (fun i => false) (by kernel_rfl) ?_
    intro C hC hne W0 hK0 hblk hsz hx0
    have f1 := lexCell hC (.inl rfl) d1
    have f2 := lexCell hC (.inr rfl) d2
    have HX0 := hid hx0
    clear hC hK0 hblk hsz hx0 d1 d2
    repeat (refine wpLex_step (fun K hK => ?_); refine lexOp_float rfl ?_; unfold floatAt; go_simp; refine hK _ _ ?_; clear hK K)
    refine wpLex_nil ?_
    by_cases hxy : x = y
    ·subst hxy
     go_wp2
     go_roundw
     case rel =>
      refine ⟨k + 1, by omega, by go_num, ?_, HX.out.trans HX0.out⟩
      rw [List.take_add_one, List.take_add_one, HXL.out, HYL.out, HT.out]
     case measure => simp [intOf]; omega
    ·have hr : r = false := by
      rw [HR.out, beq_eq_false_iff_ne]
      intro e
      have h1 := HXL.out
      rw [e, HYL.out] at h1
      exact hxy (Option.some.inj h1).symm
     have HRR := hid hr
     clear hr
     go_wp2
     go_ret
     exact ⟨by rw [HRR.out]; rfl, HX.out.trans HX0.out⟩
   ·obtain rfl : k = n := by omega
    have hr : r = true := by
     rw [HR.out, beq_iff_eq, <- List.take_of_length_le (l := l1) (i := k) (by have := HN.out; omega), ht, List.take_of_length_le (by have := HM.out; omega)]
    have HRR := hid hr
    have HX := hid hx
    clear ht hr hx
    go_wp2
    go_ret
    exact ⟨by rw [HRR.out]; rfl, HX.out⟩
 ·have hr : r = false := by
   rw [HR.out, beq_eq_false_iff_ne]
   intro e
   have h1 := HN.out; have h2 := HM.out
   rw [e] at h1; omega
  have HRR := hid hr
  clear hr
  go_enter Tryz.func16, Tryz.ntmps16
  go_wp2
  go_ret
  exact ⟨by rw [HRR.out]; rfl, Ext.refl _⟩
end Go.Proofs.YtbiboekhakbnpaaGreatDoor

namespace Go.Proofs.YtbiboekhakbnpaaGreatDoor
open Go Go.RowKit Go.Shelf Go.Maps

theorem ext_drewN {A B : World} (h : Ext A B) (n : Nat) : Ext A (B.drewN n) := ⟨h.os, h.tape, h.output, Nat.le_add_right_of_le h.drawn, h.size, h.keep⟩
end Go.Proofs.YtbiboekhakbnpaaGreatDoor

namespace Go.Proofs.YtbiboekhakbnpaaGreatDoor
open Go Go.RowKit Go.Shelf Go.Maps

end Go.Proofs.YtbiboekhakbnpaaGreatDoor
namespace Go.Proofs.YtbiboekhakbnpaaGreatDoor
open Go Go.RowKit Go.WideShapes Go.ChangeShapes Go.ChangeAt Go.Deep

section
variable {H : Type} {enc : TypeId × Value → H} {P : Program}

theorem trodAll_stays (hl : laidOutB P = true) {W W' : World} {sp : Nat -> Bool} : ∀ (ts : List TypeId) (vs : List Value) (ds : List (DataW H)) (ps : List MemPlace), (∀ t ∈ ts, P.readableRec t = true /\ t < P.types.size) ->
  DataW.TrodAll enc P W 0 (fun _ => true) true ts vs ds ps -> (∀ p ∈ ps, W.sameAt W' p) -> (∀ p ∈ ps, sp p.block = true) -> DataW.TrodAll enc P W' 0 sp true ts vs ds ps
 | [], vs, ds, ps, _, h, _, _ => by
  obtain ⟨rfl, rfl, rfl⟩ := trodAll_nil h
  rfl
 | t :: ts, vs, ds, ps, ht, h, hs, hsp => by
  obtain ⟨v, vs', d, ds', p, q, rfl, rfl, rfl, h1, h2⟩ := trodAll_cons h
  exact ⟨p, q, WideElems.Trod_stays hl (ht t (by simp)).1 (ht t (by simp)).2 h1 (fun x hx => hs x (by simp [hx])) (fun x hx => hsp x (by simp [hx])),
   trodAll_stays hl ts vs' ds' q (fun t h => ht t (by simp [h])) h2 (fun x hx => hs x (by simp [hx])) (fun x hx => hsp x (by simp [hx])), rfl⟩

theorem law_post (hl : laidOutB P = true) {f : Func} {s : ChangeSpec} {apart fresh handsOn : Bool} {W W' : World} {args : Array Value} {ds gs : List (DataW H)} {before : List MemPlace} {tb : TypeId}
  (hvars : s.vars = []) (hts : ∀ t ∈ f.params.toList, P.readableRec t = true /\ t < P.types.size) (hres : f.resultTypes = #[tb]) (htb : P.underlying tb = some .bool)
  (hfn : s.fn H ds = { results := [.lit (.bool true)], args := ds }) (hW : DataW.Whole enc P f.params.toList s.vars apart W args.toList ds gs before) (hb : Below W.heap.size W W') :
  s.post enc P f apart fresh handsOn false W args (.bool true) W' := by
 have hW' := hW
 obtain ⟨p, q, hA, hV, rfl, hz, hn⟩ := hW
 have hV' := hV
 rw [hvars] at hV'
 obtain ⟨rfl, rfl⟩ := trodVars_none hV'
 have hlt : ∀ x ∈ p ++ [], x.block < W.heap.size := fun x hx => hW'.lt x hx
 simp only [List.append_nil] at hlt hW'
 refine ⟨ds, [], p, [], p, [], hW', ?_, ?_, ?_, ?_, fun h => (by cases h)⟩
 ·rw [List.append_nil, hfn, hres]
  exact trodAll_mk1 (shut_bool htb true)
 ·rw [List.append_nil, hfn]
  exact trodAll_stays hl _ _ _ _ hts hA (fun x hx => hb.same (hlt x hx)) (fun x hx => by simpa using hlt x hx)
 ·rw [List.append_nil, hfn, hvars]
  rfl
 ·exact World.keptBut_mono (fun x hx => ⟨hx, Or.inr (.inl hx)⟩) (hb.frame (· ∈ p))

end
section
variable {H : Type} {enc : TypeId × Value → H} {W : World} {base : Nat} {sp : Nat → Bool}

theorem okWide_row {P : Program} {r : Reach} {t e : TypeId} {a : Addr} {len cap : Nat} (ht : P.underlying t = some (.slice e)) (h : Value.okWide P W r base t (.slice (some a) len cap)) : a.spot = none /\ a.block < W.heap.size := by
 simp only [Value.okWide, ht, Cell.okWide, Cell.ok] at h
 obtain ⟨_, _, _, hs, row, cells, hsh, _⟩ := h
 refine ⟨hs, ?_⟩
 unfold World.shape? at hsh
 cases hh : W.heap[a.block]? with
 | none => simp [hh] at hsh
 | some o => exact (Array.getElem?_eq_some_iff.1 hh).1

theorem open_nums {k : IntKind} {t e : TypeId} {r : Reach} {v : Value} {d : DataW H} {p : List MemPlace} {b0 : Nat} (ht : Tryz.prog.underlying t = some (.slice e)) (he : Tryz.prog.underlying e = some (.int k)) (hc : Tryz.prog.cellsOf e = 1)
  (hok : Value.okWide Tryz.prog W r b0 t v) (h : DataW.Trod enc Tryz.prog W 0 (fun _ => true) true t v d p) :
  ∃ (l : List Int), l.length <= maxLen /\ (∀ n ∈ l, (Lit.int k n).wf = true) /\ ((v = .slice none 0 0 /\ l = []) \/ ∃ b off cap, v = .slice (some ⟨b, off, none⟩) l.length cap /\ l.length <= cap /\ b < W.heap.size /\ ∀ i x, l[i]? = some x -> W.cell? ⟨b, off + i, none⟩ = some (.int k x)) := by
 obtain ⟨a, len, cap, rfl⟩ := okWide_slice ht hok
 obtain ⟨fuel, hf⟩ := h
 rcases open_ints ht he hc hf with ⟨hcs, _⟩ | ⟨a', len', cap', zs, hcs, _, hl, hm, hzs, _, hi, hwf⟩
 ·have : Value.slice a len cap = .slice none 0 0 := by simpa [Value.cells] using hcs
  cases this
  exact ⟨[], by simp, by simp, .inl ⟨rfl, rfl⟩⟩
 ·have : Value.slice a len cap = .slice (some a') len' cap' := by simpa [Value.cells] using hcs
  cases this
  obtain ⟨hs, hb⟩ := okWide_row ht hok
  obtain ⟨b, off, spot⟩ := a'
  have hs' : spot = none := hs
  subst hs'
  rw [if_pos rfl] at hzs
  have hadd : ∀ (o i : Nat), (⟨b, o, none⟩ : Addr).add i = ⟨b, o + i, none⟩ := fun o i => by
   unfold Addr.add
   split
   ·rename_i h; subst h; rfl
   ·rfl
  have hlen : (zs.take len).length = len := by rw [List.length_take]; omega
  refine ⟨zs.take len, by rw [hlen]; omega, fun n hn => hwf n (List.mem_of_mem_take hn), .inr ⟨b, off, cap, by rw [hlen], by rw [hlen]; exact hl, hb, fun i x hx => ?_⟩⟩
  rw [List.getElem?_take] at hx
  split at hx
  ·have hiz : i < zs.length := (List.getElem?_eq_some_iff.1 hx).1
   have := hi i hiz
   rw [hadd, List.getD_eq_getElem?_getD, hx] at this
   exact this
  ·cases hx
end
end Go.Proofs.YtbiboekhakbnpaaGreatDoor

namespace Go.Proofs.YtbiboekhakbnpaaGreatDoor
open Go Go.ChangeShapes Go.WideShapes Go.ChangeAt Go.RowKit
section
variable {H : Type} {enc : TypeId × Value → H} {W : World}

theorem u8_of_wf {n : Int} (h : (Lit.int .u8 n).wf = true) : 0 <= n /\ n < 256 := by
 simp only [Lit.wf, Bool.and_eq_true, decide_eq_true_eq] at h
 have h1 : IntKind.u8.min = 0 := by decide
 have h2 : IntKind.u8.max = 255 := by decide
 omega

theorem open_bytesB {r : Reach} {v : Value} {d : DataW H} {p : List MemPlace} {b0 : Nat} (hok : Value.okWide Tryz.prog W r b0 23 v) (h : DataW.Trod enc Tryz.prog W 0 (fun _ => true) true 23 v d p) :
  ∃ l : List Nat, l.length <= maxLen /\ (∀ c ∈ l, c < 256) /\ IsSl encB W v l := by
 obtain ⟨l, hlen, hwf, hl⟩ := open_nums (e := 5) Tryz.underlying23 Tryz.underlying5 (by kernel_rfl) hok h
 refine ⟨l.map Int.toNat, by simpa using hlen, fun c hc => ?_, ?_⟩
 ·obtain ⟨n, hn, rfl⟩ := List.mem_map.1 hc
  have := u8_of_wf (hwf n hn); omega
 ·rcases hl with ⟨rfl, rfl⟩ | ⟨b, off, cap, rfl, hc, hb, hcell⟩
  ·exact .inl ⟨rfl, rfl⟩
  ·refine .inr ⟨b, off, cap, by rw [List.length_map], hb, by rw [List.length_map]; exact hc, fun i x hi => ?_⟩
   rw [List.getElem?_map] at hi
   obtain ⟨n, hn, rfl⟩ := Option.map_eq_some_iff.1 hi
   rw [hcell i n hn]
   have := u8_of_wf (hwf n (List.mem_of_getElem? hn))
   show some (Value.int .u8 n) = some (Value.int .u8 ((n.toNat : Nat) : Int))
   rw [Int.toNat_of_nonneg this.1]
end
theorem Tryz.own : ownKnob Tryz.prog.godebug = none := by kernel_rfl
theorem Tryz.laidOut : laidOutB Tryz.prog = true := by kernel_rfl
end Go.Proofs.YtbiboekhakbnpaaGreatDoor
namespace Go.Proofs.YtbiboekhakbnpaaGreatDoor
open Go Go.RowKit

def SrcOf (w : World) (x : Value) (m : Nat) (news : List Value) : Prop := (x = .slice none 0 0 /\ m = 0 /\ news = []) \/ ∃ ad c, x = .slice (some ad) m c /\ ∀ j u, news[j]? = some u -> w.cell? (ad.add j) = some u
section
variable {P : Program} {ops : Array Oper} {F : Fence} {n : Nat} {C : World → Prop}
theorem run_append_src (w : World) (base : Nat) (t ty e : TypeId) (i : TypeInfo) (z : Value) (size bytes : Nat) (ht : P.underlying t = some (.slice e)) (hi : P.info? e = some i) (hz : i.zero = some z)
  (hsize : i.size = size) (hby : i.bytes = bytes) (hzs : z.cells.size = size) (hsz : 0 < size) (v : Value) (k : Nat) (xs : List Value) (hown : w.ownsRow base e size v k xs)
  (x : Value) (m : Nat) (news : List Value) (hx : SrcOf w x m news) (hl : news.length = m * size) (h1 : ∀ u ∈ news, u.oneCell' = true) (h63 : k + m <= maxLen) (hbytes : (k + m) * bytes <= 140737488355328) (hbase : base <= w.heap.size) :
  ∃ v' w', (Builtin.append_ #[t, t] ty #[v, x]).run P w = .ok v' w' /\ w'.ownsRow base e size v' (k + m) (xs ++ news) /\ w.grownBy w' v.ownBlock := by
 rcases hx with ⟨rfl, rfl, rfl⟩ | ⟨ad, c, rfl, hnews⟩
 ·refine ⟨v, w, ?_, ?_, World.grownBy.refl _ _⟩
  ·exact run_append_owned_none (P := P) (w := w) base t ty e i size ht hi v k xs hown
  ·rw [List.append_nil]; exact hown
 ·obtain ⟨v', w', hr, h2, h3, _⟩ := run_append_own_at (P := P) w base t ty e i z size bytes ht hi hz hsize hby hzs hsz v k xs hown ad m c news hl hnews h1 h63 hbytes hbase
  exact ⟨v', w', hr, h2, h3⟩
theorem wpList_wantedS {Q : Exit -> Act -> World -> Prop} {a : Act} {w : World} {rest : List Oper} {o : Oper} (hw : Region.wanted o (yielded ops a.tmps) = true)
  (h : ∀ K : Act -> World -> Prop, (∀ a w, wpList P ops Q rest a w -> K a w) -> o.wp P a w K Q) : wpList P ops Q (o :: rest) a w := by
 unfold wpList
 rw [if_pos hw]
 exact .inl (h _ fun _ _ h => h)
theorem wpList_appendS {rest : List Oper} {o : Oper} {a : Act} {w : World} {Q : Exit -> Act -> World -> Prop} (hw : Region.wanted o (yielded ops a.tmps) = true) (s x : Operand) (t : TypeId)
  (ho : o.op = .call { callee := .builtin .append, args := #[s, x], argTypes := #[t, t] })
  (base : Nat) (e : TypeId) (i : TypeInfo) (z : Value) (size bytes : Nat) (ht : P.underlying t = some (.slice e)) (hi : P.info? e = some i) (hz : i.zero = some z)
  (hsize : i.size = size) (hby : i.bytes = bytes) (hzs : z.cells.size = size) (hsz : 0 < size)
  (v : Value) (k : Nat) (xs : List Value) (hs : a.eval s = v) (hown : w.ownsRow base e size v k xs)
  (xv : Value) (m : Nat) (news : List Value) (hx : a.eval x = xv) (hsrc : SrcOf w xv m news) (hl : news.length = m * size) (h1 : ∀ u ∈ news, u.oneCell' = true)
  (h63 : k + m <= maxLen) (hbytes : (k + m) * bytes <= 140737488355328) (hbase : base <= w.heap.size)
  (h : ∀ v' w', w'.ownsRow base e size v' (k + m) (xs ++ news) -> w.grownBy w' v.ownBlock -> wpList P ops Q rest (a.put o.dst v') w') :
  wpList P ops Q (o :: rest) a w := by
 refine wpList_wantedS hw fun K hK => ?_
 obtain ⟨v', w', hr, h2, h3⟩ := run_append_src (P := P) w base t o.type e i z size bytes ht hi hz hsize hby hzs hsz v k xs hown xv m news hsrc hl h1 h63 hbytes hbase
 unfold Oper.wp execOp
 simp only [ho, resolve, invoke, builtin, Sem.run_bind, Sem.run_pure, Result.andThen_ok, List.map_toArray, List.map_cons, List.map_nil, hs, hx, hr]
 exact hK _ _ (h v' w' h2 h3)
end
theorem ownsRow_setCells {base : Nat} {e : TypeId} {size g n cap : Nat} (o0 : Nat) : ∀ (vs : List Value) (o : Nat) (w : World) (xs : List Value), o0 <= o -> w.ownsRow base e size (.slice (some ⟨g, 0, none⟩) n cap) n xs ->
  ∃ ys, (w.setCells g o vs).ownsRow base e size (.slice (some ⟨g, 0, none⟩) n cap) n ys /\ Keeps (· ≠ g) w (w.setCells g o vs)
 | [], _, w, xs, _, h => ⟨xs, h, Keeps.refl _ _⟩
 | v :: r, o, w, xs, ho, h => by
  obtain ⟨ys, h1, h2⟩ := ownsRow_setCells o0 r (o + 1) _ _ (by omega) (h.stored o v).1
  exact ⟨ys, h1, ((Keeps.refl (· ≠ g) w).setCell (p := ⟨g, o, none⟩) (fun h => h rfl) v).tr h2⟩
end Go.Proofs.YtbiboekhakbnpaaGreatDoor
namespace Go.Proofs.YtbiboekhakbnpaaGreatDoor
open Go Go.RowKit Go.Shelf Go.Maps

theorem le_trans_S (a b c : BS) (h : (!ltOf compareOf b a) = true) (k : (!ltOf compareOf c b) = true) : (!ltOf compareOf c a) = true := by
 simp only [Bool.not_eq_true'] at *
 cases hca : ltOf compareOf c a with
 | false => rfl
 | true =>
  exfalso
  rw [<- Bool.not_eq_true, ltOf_iff] at h k
  rw [ltOf_iff] at hca
  rcases ltS_total a b with e | e | e
  ·subst e; exact k hca
  ·exact k (ltS_trans hca e)
  ·exact h e
theorem le_total_S (a b : BS) : ((!ltOf compareOf b a) || (!ltOf compareOf a b)) = true := by
 cases hba : ltOf compareOf b a with
 | false => rfl
 | true =>
  cases hab : ltOf compareOf a b with
  | false => rfl
  | true =>
   rw [ltOf_iff] at hba hab
   exact absurd (ltS_trans hba hab) (ltS_irrefl b)
theorem partsOf_sorted (l : List BS) : (partsOf l).Pairwise fun x y => (!ltOf compareOf y x) = true := List.pairwise_mergeSort le_trans_S le_total_S _
theorem partsOf_perm (l : List BS) : (partsOf l).Perm (partsRaw l) := List.mergeSort_perm _ _
end Go.Proofs.YtbiboekhakbnpaaGreatDoor

namespace Go.Proofs.YtbiboekhakbnpaaGreatDoor
open Go Go.RowKit Go.Shelf Go.Maps
attribute [local go_sem] encS

theorem blk_isSl {α : Type} {enc : α -> Value} {w : World} {B : Nat} {c : Array Value} {t : TypeId} {fr : Nat × Nat} {n cap : Nat} (l : List α) (h : w.heap[B]? = some (.cells c t fr)) (hc : c.toList = l.map enc) (hn : n = l.length) (hcap : l.length <= cap) : IsSl enc w (.slice (some ⟨B, 0, none⟩) n cap) l := by
 refine .inr ⟨B, 0, cap, by rw [hn], (Array.getElem?_eq_some_iff.1 h).1, hcap, fun i x hi => ?_⟩
 rw [cell_of_row w B (0 + i) c t fr h, Nat.zero_add, <- Array.getElem?_toList, hc, List.getElem?_map, hi]; rfl
theorem blk_isSets {w : World} {B : Nat} {c : Array Value} {t : TypeId} {n cap : Nat} (l : List BS) (h : Blk w B c t) (hc : c.toList = flatS l) (hn : n = l.length) : IsSets w (.slice (some ⟨B, 0, none⟩) n cap) l := by
 refine .inr ⟨B, 0, cap, by rw [hn], h.lt, fun i s hi j hj => ?_⟩
 rw [h.cell, Nat.zero_add, <- Array.getElem?_toList, hc]
 have := flatS_get l hi hj
 simpa using this
theorem ownsRow_below {w w' : World} {base n size : Nat} {v : Value} {e : TypeId} {l : List Value} (h : w.ownsRow base e size v n l) (hk : Below w.heap.size w w') : w'.ownsRow base e size v n l :=
 ownsRow_keeps h (Keeps.of_below hk fun _ h => h) (fun k e => (h.lt k e).2)

end Go.Proofs.YtbiboekhakbnpaaGreatDoor
namespace Go.Proofs.YtbiboekhakbnpaaGreatDoor
open Go Go.RowKit Go.Shelf Go.Maps

theorem Blk.range {w : World} {b : Nat} {c : Array Value} {t : TypeId} (h : Blk w b c t) : w.rangeAt b 0 c.toList := fun j v hj => by
 rw [Nat.zero_add, h.cell j, <- Array.getElem?_toList]; exact hj
theorem Below.setRow' {A B : World} {n : Nat} (h : Below n A B) {g : Nat} (hg : n <= g) (c : Array Value) : Below n A (B.setRow g c) :=
 ⟨h.os, h.tape, h.output, Nat.le_trans h.size (by simp), fun k hk => (setRow_other B g k c (by omega)).trans (h.block k hk)⟩
theorem Blk.setRow {w : World} {b : Nat} {c c' : Array Value} {t : TypeId} (h : Blk w b c t) : Blk (w.setRow b c') b c' t := setRow_heap w b c c' t _ h
theorem wpList_wantedA {P : Program} {ops : Array Oper} {Q : Exit -> Act -> World -> Prop} {a : Act} {w : World} {rest : List Oper} {o : Oper} (hw : Region.wanted o (yielded ops a.tmps) = true)
  (h : ∀ K : Act -> World -> Prop, (∀ a w, wpList P ops Q rest a w -> K a w) -> o.wp P a w K Q) : wpList P ops Q (o :: rest) a w := by
 unfold wpList
 rw [if_pos hw]
 exact .inl (h _ fun _ _ h => h)
theorem wpList_load_w {P : Program} {ops : Array Oper} {rest : List Oper} {op : Oper} {a : Act} {w : World} {Q : Exit -> Act -> World -> Prop} (hw : Region.wanted op (yielded ops a.tmps) = true) (ty : TypeId) (x : Operand) (ho : op.op = .load ty x)
  (b : Nat) (hx : a.eval x = .pointer (some ⟨b, 0, none⟩)) (cs : Array Value) (d : TypeDesc) (hc : w.rangeAt b 0 cs.toList)
  (hu : P.underlying ty = some d) (hd : d.isRow = true) (hi : (P.info? ty).map (·.size) = some cs.size)
  (h : wpList P ops Q rest (a.put op.dst (.agg cs)) w) : wpList P ops Q (op :: rest) a w :=
 wpList_wantedA hw fun _ hK => wp_load_mid ty x ho b 0 hx cs.toList d hc hu hd (by rw [Array.length_toList]; exact hi) (hK _ _ h)

end Go.Proofs.YtbiboekhakbnpaaGreatDoor

namespace Go.Proofs.YtbiboekhakbnpaaGreatDoor
open Go Go.RowKit

theorem fold_set (o : Nat) (l : List Value) : ∀ (k : Nat) (X : Array Value) (i : Nat), o + k + l.length <= X.size ->
  ((l.zipIdx k).foldl (fun a (x : Value × Nat) => a.setIfInBounds (o + x.2) x.1) X)[i]? = if o + k <= i /\ i < o + k + l.length then l[i - (o + k)]? else X[i]? := by
 induction l with
 | nil => intro k X i _; simp only [List.zipIdx_nil, List.foldl_nil, List.length_nil]; rw [if_neg (by omega)]
 | cons c l ih =>
  intro k X i hs
  rw [List.length_cons] at hs
  rw [List.zipIdx_cons, List.foldl_cons, ih (k + 1) _ i (by simp; omega), List.length_cons]
  by_cases h1 : o + (k + 1) <= i /\ i < o + (k + 1) + l.length
  ·rw [if_pos h1, if_pos (by omega), show i - (o + k) = (i - (o + (k + 1))) + 1 by omega, List.getElem?_cons_succ]
  ·rw [if_neg h1, Array.getElem?_setIfInBounds]
   by_cases h2 : o + k = i
   ·rw [if_pos h2, if_pos (by omega), if_pos (by omega), show i - (o + k) = 0 by omega]; rfl
   ·rw [if_neg h2, if_neg (by omega)]
theorem run_buildSlice_one {P : Program} {t e : TypeId} {i : TypeInfo} {z : Value} {m : Nat} (ht : P.underlying t = some (.slice e)) (hi : P.info? e = some i) (hz : i.zero = some z) (hsz : i.size = m) (hm : 0 < m) (hm2 : m <= 16777216)
  (cs : Array Value) (hc : cs.size = m) (w : World) :
  (Instr.buildSlice t 1 #[(0, .agg cs)]).run P w = .ok (.slice (some ⟨w.heap.size, 0, none⟩) 1 1) (w.alloc (.cells cs e)) := by
 have hfill : ∀ X : Array Value, X.size = m -> Instr.fill (fun i => some (i * m, m)) X [(0, .agg cs)] = some cs := fun X hX => by
  have h1 : (Value.agg cs).cells = cs := rfl
  unfold Instr.fill
  simp only [h1, hc, Nat.zero_mul, Nat.zero_add, hX, ne_eq, not_true, decide_false, Bool.false_or]
  rw [if_neg (by simp)]
  unfold Instr.fill
  congr 1
  rw [<- Array.foldl_toList, Array.toList_zipIdx]
  apply Array.ext_getElem?
  intro j
  have := fold_set 0 cs.toList 0 X j (by rw [Array.length_toList]; omega)
  simp only [Nat.zero_add] at this
  rw [this, Array.length_toList, Nat.sub_zero]
  by_cases hj : j < cs.size
  ·rw [if_pos ⟨Nat.zero_le _, hj⟩, Array.getElem?_toList]
  ·rw [if_neg (fun h => hj h.2), Array.getElem?_eq_none (by omega), Array.getElem?_eq_none (by omega)]
 have hs : ∀ w, (sizeOf e).run P w = .ok m w := fun w => by simp [sizeOf, typeInfo, hi, hsz]
 have hz' : ∀ w, (zeroValue e).run P w = .ok z w := fun w => by simp [zeroValue, typeInfo, hi, hz]
 unfold Instr.buildSlice
 simp only [Sem.run_bind, run_underlying ht, Result.andThen_ok, hs, Nat.one_mul]
 rw [if_neg (by omega), if_neg (by omega)]
 simp only [Sem.run_bind, hz', Result.andThen_ok, Sem.run_pure]
 rw [hfill _ (by simp)]
 rfl
end Go.Proofs.YtbiboekhakbnpaaGreatDoor

namespace Go.Proofs.YtbiboekhakbnpaaGreatDoor
open Go Go.RowKit
section
variable {F : Fence} {n : Nat} {P : Program} {C : World → Prop}

end
end Go.Proofs.YtbiboekhakbnpaaGreatDoor

namespace Go.Proofs.YtbiboekhakbnpaaGreatDoor
open Go Go.RowKit Go.Shelf Go.Maps
attribute [local go_sem] encS

end Go.Proofs.YtbiboekhakbnpaaGreatDoor

namespace Go.Proofs.YtbiboekhakbnpaaGreatDoor
open Go Go.RowKit Go.Shelf Go.Maps

end Go.Proofs.YtbiboekhakbnpaaGreatDoor

namespace Go.Proofs.YtbiboekhakbnpaaGreatDoor
open Go Go.RowKit Go.Shelf Go.Maps


end Go.Proofs.YtbiboekhakbnpaaGreatDoor

namespace Go.Proofs.YtbiboekhakbnpaaGreatDoor
open Go Go.RowKit Go.Shelf Go.Maps

end Go.Proofs.YtbiboekhakbnpaaGreatDoor

namespace Go.Proofs.YtbiboekhakbnpaaGreatDoor
open Go Go.RowKit Go.Shelf Go.Maps

end Go.Proofs.YtbiboekhakbnpaaGreatDoor

namespace Go.Proofs.YtbiboekhakbnpaaGreatDoor
open Go Go.RowKit Go.Shelf Go.Maps
attribute [local go_sem] encS

end Go.Proofs.YtbiboekhakbnpaaGreatDoor
