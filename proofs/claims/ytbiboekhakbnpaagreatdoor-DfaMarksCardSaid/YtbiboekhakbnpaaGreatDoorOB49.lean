/-
  (*maker).make: state after state, row after row; 181 where there are too many.
  dfa.Of: sets as a source of an append; plain facts.
-/
import Derived.Test.YtbiboekhakbnpaaGreatDoorOB46
import Derived.Test.YtbiboekhakbnpaaGreatDoorOB48
set_option maxRecDepth 100000
set_option maxHeartbeats 16000000
open Go.Lib (hid)
namespace Go.Proofs.YtbiboekhakbnpaaGreatDoor
open Go Go.RowKit Go.Shelf Go.Maps

theorem idx_lt {α : Type} [DecidableEq α] {l : List α} {q : α} (h : q ∈ l) : l.idxOf q < l.length := List.idxOf_lt_length_of_mem h
theorem notF {base c x : Nat} {F0 : Nat -> Prop} (h : x < base \/ x = c \/ ¬ F0 x) : x < base \/ ¬ (F0 x /\ x ≠ c) := by
 rcases h with h | h | h
 ·exact .inl h
 ·exact .inr fun h2 => h2.2 h
 ·exact .inr fun h2 => h h2.1
theorem notF2 {base c x : Nat} {F0 : Nat -> Prop} {q : Prop} (h : x < base \/ x = c \/ ¬ F0 x) : x < base \/ ¬ ((F0 x /\ x ≠ c) /\ q) := (notF h).imp id fun h h2 => h h2.1
theorem make_leaves (tmps : Array Value) (c0 : Nat) (ht : tmps[4]?.getD undef = .pointer (some ⟨c0, 0, none⟩)) (R : Ending -> World -> Prop) (W : World) (hB : Blk W c0 #[.int .i64 0] 32) (h : ∀ W', Keeps (fun x => x < W.heap.size /\ x ≠ c0) W W' -> R (.returned (.int .i64 181)) W') :
  Leaves Tryz.prog Tryz.f45 tmps R [{ target := .fn (.func 80) #[.pointer (some ⟨c0, 0, none⟩)], args := #[] }] (.panicking [{ v := .iface 146 (.agg #[]), recovered := false }]) W := by
 refine leaves_cons (f := 80) (args := #[.pointer (some ⟨c0, 0, none⟩)]) (by simp) (by simp [go_sem]) ?_
 refine (catch_panicking ⟨c0, 0, none⟩ (.int .i64 0) [] W (hB.cell 0) (hB.frozen 0) hB.lt).mono ?_
 rintro e u' w'' ⟨rfl, rfl, w2, hk, rfl⟩
 have Gp := hB.below hk hB.lt
 have Gg := Gp.set 0 (.int .i64 181)
 have h1 := Gg.cell 0
 have K : Keeps (fun x => x < W.heap.size /\ x ≠ c0) W (w2.setCell ⟨c0, 0, none⟩ (.int .i64 181)) := (Keeps.of_below hk fun x hx => hx.1 : Keeps (fun x => x < W.heap.size /\ x ≠ c0) W w2).setCell (fun h => h.2 rfl) _
 have h5 := h _ K
 obtain ⟨W2, hW2⟩ : ∃ z, z = w2.setCell ⟨c0, 0, none⟩ (.int .i64 181) := ⟨_, rfl⟩
 rw [<- hW2] at h1 h5 ⊢
 replace h1 : W2.cell? ⟨c0, 0, none⟩ = some (.int .i64 181) := h1
 simp [Leaves, settle, results, Tryz.results45, go_sem, ht, h1]
 exact h5
theorem make_idle (tmps : Array Value) (c0 : Nat) (k : Int) (ht : tmps[4]?.getD undef = .pointer (some ⟨c0, 0, none⟩)) (R : Ending -> World -> Prop) (W : World) (hB : Blk W c0 #[.int .i64 k] 32) (h : R (.returned (.int .i64 k)) W) :
  Leaves Tryz.prog Tryz.f45 tmps R [{ target := .fn (.func 80) #[.pointer (some ⟨c0, 0, none⟩)], args := #[] }] .returning W := by
 refine leaves_cons (f := 80) (args := #[.pointer (some ⟨c0, 0, none⟩)]) (by simp) (by simp [go_sem]) ?_
 refine (catch_idle ⟨c0, 0, none⟩ W).mono ?_
 rintro e u' w'' ⟨rfl, rfl, rfl⟩
 have h1 : w''.cell? ⟨c0, 0, none⟩ = some (.int .i64 k) := hB.cell 0
 simp [Leaves, settle, results, Tryz.results45, go_sem, ht, h1]
 exact h
theorem make_any (F0 : Nat -> Prop) (base mb ob f : Nat) (pv cv lv : Value) (ps : List PT) (ls : List Nat) (ok : PsOk ps) (w : World) (hF0 : ∀ x, w.heap.size <= x -> F0 x) (hM : MkX F0 w base mb ob f pv cv ps [] []) (hf : f <= 4000) (hls : ls.length <= 256) (hlb : ∀ c ∈ ls, c < 256) (hL : ∀ W, Keeps (fun x => x < w.heap.size /\ (x < base \/ ¬ F0 x)) w W -> IsSl encB W lv ls) (hP : ∀ W, Below base w W -> IsPts W pv ps) (hT : ∀ W, Below base w W -> TabW W) :
  Calls Tryz.prog 45 #[.pointer (some ⟨mb, 0, none⟩), lv] w fun e w' => Keeps (fun x => x < w.heap.size /\ (x < base \/ ¬ F0 x)) w w' /\ ((∃ st, mkSt ps ls f = some st /\ e = .returned (.int .i64 0) /\ MkX (fun _ => True) w' base mb ob f pv cv ps st.1 (st.2.map fun r => r.map Int.ofNat)) \/ (mkSt ps ls f = none /\ e = .returned (.int .i64 181))) := by
 obtain ⟨iL, hiL, hzL0, hzL1, hzL2⟩ := info_parts Tryz.infoL
 obtain ⟨iI, hiI, hzI0, hzI1, hzI2⟩ := info_parts Tryz.infoI
 obtain ⟨sv, nv, kv, us, ns, ks, M⟩ := hM
 obtain ⟨pa, pc, rfl⟩ := (hP w (Below.refl _ _)).form
 obtain ⟨la, lc, rfl⟩ := (hL w (Keeps.refl _ _)).form
 obtain ⟨n, hpn⟩ : ∃ z, z = ps.length := ⟨_, rfl⟩
 obtain ⟨m, hlm⟩ : ∃ z, z = ls.length := ⟨_, rfl⟩
 rw [<- hpn] at M hP ⊢
 rw [<- hlm] at hL hls ⊢
 have GO : n <= 64 := by rw [hpn]; exact ok.1
 have Gj : base < w.heap.size := Nat.lt_of_le_of_lt M.bm M.blk.lt
 have Gc : mb < w.heap.size := M.blk.lt
 have MW := hid M
 have Gb := hid hpn
 have GQ := hid hlm
 have HL := hid hL
 have HP := hid hP
 have HT := hid hT
 have OK := hid ok
 have Ga := hid hlb
 have GJ := hid hF0
 have CR : Hid (∀ (b gb : Nat) (h : Value) (W : World), W.cell? ⟨gb, 0, none⟩ = some h -> W.ownsRow b 3 1 h 1 [encZ (-1)] -> b <= W.heap.size ->
  Calls Tryz.prog 82 #[.slice (some ⟨gb, 0, none⟩) 1 1, .int .i64 n] W fun e w' => ∃ u, e = .returned u /\ OwnLL b w' u (List.replicate n [-1]) /\ Below W.heap.size W w') := hid fun b gb h W h1 h2 h3 => repeat_any b gb h n GO W h1 h2 h3
 have m0 : w.cell? ⟨mb, 0, none⟩ = some (.slice pa n pc) := M.blk.cell 0
 clear M hpn hlm hL hP hT ok hlb hF0
 have Gt : ∀ (fn : Fn) (first cap : Array Value) (w : World), (Instr.makeFunc fn first cap).run Tryz.prog w = .ok (.func fn first cap) w := fun _ _ _ _ => rfl
 go_enter_defers Tryz.func45, Tryz.ntmps45
 have m1 : (((w.alloc (.cells #[.int .i64 0] 32)).alloc (.cells #[.int .i64 (-1)] 3)).alloc (.cells #[.slice (some ⟨w.heap.size + 1, 0, none⟩) 1 1] 37)).cell? ⟨mb, 0, none⟩ = some (.slice pa n pc) :=
  ((Keeps.of_below ((((Ext.refl w).alloc _).alloc _).alloc _).below fun _ h => h : Keeps (· < w.heap.size) w _).cell (p := ⟨mb, 0, none⟩) Gc).trans m0
 go_wp2_with fail
 refine (CR.out (w.heap.size + 1) (w.heap.size + 1 + 1) (.slice (some ⟨w.heap.size + 1, 0, none⟩) 1 1) _ (by go_simp) ?_ (by simp)).mono ?_
 ·have h5 : ((w.alloc (.cells #[.int .i64 0] 32)).alloc (.cells #[.int .i64 (-1)] 3)).ownsRow (w.heap.size + 1) 3 1 (.slice (some ⟨w.heap.size + 1, 0, none⟩) 1 1) 1 [.int .i64 (-1)] := by
   have h6 := World.alloc_heap_new (w.alloc (.cells #[.int .i64 0] 32)) (.cells #[.int .i64 (-1)] 3)
   rw [World.size_alloc] at h6
   exact ⟨rfl, .inr ⟨w.heap.size + 1, 1, #[.int .i64 (-1)], rfl, Nat.le_refl _, h6, Nat.le_refl _, by unfold maxLen; omega, rfl, rfl⟩⟩
  exact h5.alloc _
 rintro e w3 ⟨u, rfl, ho3, hk3⟩
 have CA : Hid (∃ wA : World, wA.heap.size = w.heap.size + 1 /\ Below w.heap.size w wA /\ Blk wA w.heap.size #[.int .i64 0] 32 /\ Below wA.heap.size wA w3) := hid ⟨w.alloc (.cells #[.int .i64 0] 32), World.size_alloc _ _, ((Ext.refl w).alloc _).below, Blk.new _ _ _, by
  have h5 := (((Ext.refl (w.alloc (.cells #[.int .i64 0] 32))).alloc (.cells #[.int .i64 (-1)] 3)).alloc (.cells #[.slice (some ⟨w.heap.size + 1, 0, none⟩) 1 1] 37)).below
  exact h5.trans (hk3.mono h5.size)⟩
 have GK := hid ho3
 clear ho3 hk3 m1 m0 CR
 obtain ⟨wA, hA1, hA2, hA3, hA4⟩ := CA.out
 have G3 := hid hA1
 have XA := hid hA2
 have BA := hid hA3
 have X3 := hid hA4
 clear hA1 hA2 hA3 hA4 CA
 have MA : Hid (Mk (fun x => F0 x /\ x ≠ w.heap.size) wA base mb ob f (.slice pa n pc) cv ps [] [] sv nv kv us ns ks) := hid ((MW.out.mono fun x hx h => ⟨h, Nat.ne_of_lt hx⟩).below XA.out)
 have PB : Hid (Below base w wA) := hid (XA.out.mono (Nat.le_of_lt Gj))
 have G7 : Hid (∀ W W', Keeps (fun x => x < wA.heap.size /\ (x < base \/ x = w.heap.size \/ ¬ F0 x)) wA W -> Keeps (fun x => x < W.heap.size /\ x ≠ w.heap.size) W W' -> Keeps (fun x => x < w.heap.size /\ (x < base \/ ¬ F0 x)) w W') := hid fun W W' h1 h2 => by
  have h4 := h1.size
  have h5 := G3.out
  exact ((Keeps.of_below XA.out fun x hx => hx.1 : Keeps (fun x => x < w.heap.size /\ (x < base \/ ¬ F0 x)) w wA).tr (h1.mono fun x hx => ⟨by omega, hx.2.imp id .inr⟩)).tr (h2.mono fun x hx => ⟨by omega, by omega⟩)
 clear MW
 go_wp2_with fail
 refine (state_any (fun x => F0 x /\ x ≠ w.heap.size) base mb ob f (.slice pa n pc) cv ps [] [] OK.out wA w3 ⟨_, _, _, _, _, _, MA.out⟩ X3.out (fun x hx => ⟨GJ.out x (by have := G3.out; omega), by have := G3.out; omega⟩) u (row0 ps) ?_ (row0_in ps) List.nodup_nil (fun p hp => by cases hp) hf (Nat.zero_le _) (fun W hW => HP.out W (PB.out.trans hW)) (fun W hW => HT.out W (PB.out.trans hW))).mono ?_
 ·have h5 := GK.out
  have h6 : row0 ps = List.replicate n [-1] := by unfold row0; rw [List.map_const', Gb.out]
  rw [h6, G3.out]
  exact h5
 rintro e w4 ⟨hk4, hq⟩
 rcases hq with ⟨h1, _⟩ | ⟨h1, h2, rfl, hM4⟩ | ⟨h1, h2, rfl⟩
 ·cases h1
 ·have KA : Hid (Keeps (fun x => x < wA.heap.size /\ (x < base \/ x = w.heap.size \/ ¬ F0 x)) wA w4) := hid ((Keeps.of_below X3.out fun x hx => hx.1 : Keeps (fun x => x < wA.heap.size /\ (x < base \/ x = w.heap.size \/ ¬ F0 x)) wA w3).tr (hk4.mono fun x hx => ⟨hx.1, notF hx.2⟩))
  have M4 := hid hM4
  have GH : 1 <= f := by simp at h2; omega
  clear hk4 hM4 h1 h2 X3 GK MA
  go_wp2
  go_loopw [5] (fun iv wr => ∃ (k : Nat) (rows : List (List (List Int))) (nxs : List (List Nat)), stTo f (mkG ps ls) ls.length (row0 ps) k = some (rows, nxs) /\ k <= rows.length /\ iv = .int .i64 k /\ MkX (fun x => F0 x /\ x ≠ w.heap.size) wr base mb ob f (.slice pa n pc) cv ps rows (nxs.map fun r => r.map Int.ofNat) /\ Keeps (fun x => x < wA.heap.size /\ (x < base \/ x = w.heap.size \/ ¬ F0 x)) wA wr) (fun iv _ => f - (intOf iv).toNat)
  case atStart => exact ⟨0, [row0 ps], [], rfl, Nat.zero_le _, rfl, M4.out, KA.out⟩
  case round =>
   obtain ⟨k, rows, nxs, GB, hk, rfl, hM, hK⟩ := hrel
   obtain ⟨sv1, nv1, kv1, us1, ns1, ks1, M⟩ := hM
   obtain ⟨wo, rfl⟩ : ∃ wo : World, wo = wr := ⟨_, rfl⟩
   have IS := hid (mk_ok GH GB)
   obtain ⟨L, hLn⟩ : ∃ z, z = rows.length := ⟨_, rfl⟩
   have G6 := M.st.1
   rw [<- hLn] at G6 hk
   obtain ⟨sa, sc, rfl⟩ := ownsRow_form G6
   have Gw : L <= f := by rw [hLn]; exact (mk_ok GH GB).le
   have MO := hid M
   have G9 := hid hLn
   have GN := hid GB
   have KO := hid hK
   have m2 : wo.cell? ⟨mb, 2, none⟩ = some (.slice sa L sc) := M.blk.cell 2
   clear GB hK M hLn G6 M4 KA
   by_cases hlt : k < L
   ·have Gr : (k : Int) < L := by omega
    obtain ⟨p, hp⟩ : ∃ p, rows[k]? = some p := ⟨_, List.getElem?_eq_getElem (by have := G9.out; omega)⟩
    have GA := hid hp
    clear hp
    go_wp2
    clear m2
    go_loopw [6, 31] (fun nv2 iv wi => ∃ (j : Nat) (rows2 : List (List (List Int))) (row2 : List Nat), rowTo f (mkG ps ls p) rows j = some (rows2, row2) /\ j <= m /\ iv = .int .i64 j /\ wi.ownsRow wA.heap.size 3 1 nv2 j (row2.map fun t : Nat => .int .i64 t) /\ MkX (fun x => (F0 x /\ x ≠ w.heap.size) /\ nv2.ownBlock ≠ some x) wi base mb ob f (.slice pa n pc) cv ps rows2 (nxs.map fun r => r.map Int.ofNat) /\ Keeps (fun x => x < wA.heap.size /\ (x < base \/ x = w.heap.size \/ ¬ F0 x)) wA wi) (fun _ iv _ => m - (intOf iv).toNat)
    case atStart => exact ⟨0, rows, [], rfl, Nat.zero_le _, rfl, World.ownsRow_nil _ _ _ _, ⟨_, _, _, _, _, _, MO.out.mono fun x _ hx => ⟨hx, fun e => by cases e⟩⟩, KO.out⟩
    case round =>
     obtain ⟨j, rows2, row2, hr2, hj, rfl, ho2, hM2, hK2⟩ := hrel
     obtain ⟨wj, rfl⟩ : ∃ wj : World, wj = wr := ⟨_, rfl⟩
     have RO := hid (rowTo_ok (P := RowIn ps) IS.out.nodup IS.out.le IS.out.all j (fun _ _ => stepR_in (IS.out.all p (List.mem_of_getElem? GA.out)) _) hr2)
     have GF := hid hr2
     have G8 := hid ho2
     have K2 := hid hK2
     have M2 := hid hM2
     clear hr2 ho2 hK2 hM2
     by_cases hlt2 : j < m
     ·have Gs : (j : Int) < m := by omega
      obtain ⟨c, hc⟩ : ∃ c, ls[j]? = some c := ⟨_, List.getElem?_eq_getElem (by have := GQ.out; omega)⟩
      have GD : c < 256 := Ga.out c (List.mem_of_getElem? hc)
      have HG : Hid (mkG ps ls p j = stepR ps p c) := hid (by unfold mkG; rw [List.getD_eq_getElem?_getD, hc]; rfl)
      have PJ : Hid (Below base w wj) := hid (PB.out.trans (K2.out.mono fun x (hx : x < base) => ⟨by have := G3.out; omega, .inl hx⟩ : Keeps (· < base) wA wj).below)
      obtain ⟨lb, lo, rfl, hlb, fl⟩ := (HL.out wj ((Keeps.of_below XA.out fun x hx => hx.1 : Keeps (fun x => x < w.heap.size /\ (x < base \/ ¬ F0 x)) w wA).tr (K2.out.mono fun x hx => ⟨by have := G3.out; omega, hx.2.imp id .inr⟩))).elem hc
      replace fl : wj.cell? ⟨lb, lo + j, none⟩ = some (.int .u8 c) := fl
      obtain ⟨sv2, nv3, kv2, us2, ns2, ks2, M⟩ := M2.out
      obtain ⟨L2, hL2⟩ : ∃ z, z = rows2.length := ⟨_, rfl⟩
      have G4 := M.st.1
      rw [<- hL2] at G4
      obtain ⟨sa2, sc2, rfl⟩ := ownsRow_form G4
      have Gd : L <= L2 := by
       have h5 := RO.out.pre.length_le
       have h6 := G9.out
       simp only at h5
       omega
      have Gh : k < L2 := by omega
      have Gm : (0 : Int) <= k /\ (k : Int) < L2 := by omega
      obtain ⟨g, u, rfl, hbg, hgs, hu, fu, hz⟩ := rowCell G4 Gh
      have GW : rows2[k]? = some p := by
       obtain ⟨ys, hys⟩ := RO.out.pre
       replace hys : rows ++ ys = rows2 := hys
       rw [<- hys, List.getElem?_append_left (by have := G9.out; omega)]
       exact GA.out
      have GT := (M.stI k u p hu GW).1.own
      obtain ⟨ua, uc, rfl⟩ := GT.form
      have Gi := hid GT
      have f0 : wj.cell? ⟨mb, 0, none⟩ = some (.slice pa n pc) := M.blk.cell 0
      have f2 : wj.cell? ⟨mb, 2, none⟩ = some (.slice (some ⟨g, 0, none⟩) L2 sc2) := M.blk.cell 2
      clear G4 hz hu hc hL2 GW GT
      have G5 : wA.heap.size <= wj.heap.size := K2.out.size
      have CS : Hid (∀ (W : World) (v : Value), Below wj.heap.size wj W -> OwnLL wj.heap.size W v (stepR ps p c) -> Calls Tryz.prog 81 #[.pointer (some ⟨mb, 0, none⟩), v] W fun e w' => Keeps (fun x => x < wj.heap.size /\ (x < base \/ ¬ ((F0 x /\ x ≠ w.heap.size) /\ u6.ownBlock ≠ some x))) W w' /\ ((∃ (t : Nat) (rows3 : List (List (List Int))), t <= 4000 /\ rowTo f (mkG ps ls p) rows (j + 1) = some (rows3, row2 ++ [t]) /\ e = .returned (.int .i64 t) /\ MkX (fun x => (F0 x /\ x ≠ w.heap.size) /\ u6.ownBlock ≠ some x) w' base mb ob f (.slice pa n pc) cv ps rows3 (nxs.map fun r => r.map Int.ofNat)) \/ (mkSt ps ls f = none /\ e = .panicked [{ v := .iface 146 (.agg #[]), recovered := false }]))) := hid fun W v hW hv => by
       have Gl : rows2.length <= f := RO.out.le
       refine (state_any (fun x => (F0 x /\ x ≠ w.heap.size) /\ u6.ownBlock ≠ some x) base mb ob f (.slice pa n pc) cv ps rows2 (nxs.map fun r => r.map Int.ofNat) OK.out wj W M2.out hW (fun x hx => ⟨⟨GJ.out x (by have := G3.out; omega), by have := G3.out; omega⟩, fun e => by have := (G8.out.lt x e).2; omega⟩) v (stepR ps p c) hv (stepR_in (IS.out.all p (List.mem_of_getElem? GA.out)) c) RO.out.nodup RO.out.all hf Gl (fun W hW => HP.out W (PJ.out.trans hW)) (fun W hW => HT.out W (PJ.out.trans hW))).mono ?_
       rintro e w' ⟨hk, hq⟩
       refine ⟨hk, ?_⟩
       rcases hq with ⟨h1, rfl, h3⟩ | ⟨h1, h2, rfl, h3⟩ | ⟨h1, h2, rfl⟩
       ·refine .inl ⟨ixR rows2 (stepR ps p c), rows2, ?_, ?_, rfl, h3⟩
        ·have : ixR rows2 (stepR ps p c) < rows2.length := idx_lt h1
         omega
        ·rw [rowTo, GF.out, HG.out]
         exact addR_in h1
       ·refine .inl ⟨rows2.length, rows2 ++ [stepR ps p c], by omega, ?_, rfl, h3⟩
        rw [rowTo, GF.out, HG.out]
        exact addR_new h1 h2
       ·exact .inr ⟨mk_gone GH GN.out GA.out GF.out (by have := GQ.out; omega) (by rw [HG.out]; exact h1) h2, rfl⟩
      go_wp2_with fail
      refine (mstep_any mb (.slice pa n pc) (.slice ua p.length uc) ps OK.out p (IS.out.all p (List.mem_of_getElem? GA.out)) c GD wj f0 (HP.out wj PJ.out) Gi.out.ll).mono ?_
      rintro e w2 ⟨v1, rfl, ho3, hk3⟩
      have GK := hid ho3
      have X3 := hid hk3
      clear ho3 hk3 f0 f2 fl fu
      go_wp2_with fail
      refine (CS.out w2 v1 X3.out GK.out).mono ?_
      rintro e w3 ⟨hk4, hq⟩
      have K4 := hid hk4
      clear hk4
      have GM : Hid (Keeps (fun x => x < wA.heap.size /\ (x < base \/ x = w.heap.size \/ ¬ F0 x)) wA w3) := hid ((K2.out.tr (Keeps.of_below X3.out fun x hx => Nat.lt_of_lt_of_le hx.1 G5)).tr (K4.out.mono fun x hx => ⟨Nat.lt_of_lt_of_le hx.1 G5, notF2 hx.2⟩))
      rcases hq with ⟨t, rows3, ht, hr3, rfl, hM3⟩ | ⟨hno, rfl⟩
      ·have RN : Hid (w3.ownsRow wA.heap.size 3 1 u6 j (row2.map fun t : Nat => .int .i64 t)) := hid (ownsRow_keeps G8.out ((Keeps.of_below X3.out fun x hx => hx.1 : Keeps (fun x => x < wj.heap.size /\ u6.ownBlock = some x) wj w2).tr (K4.out.mono fun x hx => ⟨hx.1, .inr fun h => h.2 hx.2⟩)) fun x hx => ⟨(G8.out.lt x hx).2, hx⟩)
       have Ge := hid hr3
       have M3 := hid hM3
       have GR : wA.heap.size <= w3.heap.size := GM.out.size
       clear hr3 hM3 CS
       go_wp2_with (at_builtin; refine Hid.out ?_)
       refine hid ?_
       refine wpList_append_own_at _ rfl (.tmp 35) (.tmp 48) 37 rfl wA.heap.size 3 iI (.int .i64 0) 1 8 Tryz.underlying37 hiI hzI0 hzI1 hzI2 rfl (by decide) u6 j _ rfl (RN.out.alloc _) ⟨w3.heap.size, 0, none⟩ 1 1 [.int .i64 t] rfl rfl (cell_one _ _ _) (by simp [Value.oneCell']) (by unfold maxLen; omega) (by omega) (by simp; omega) ?_
       intro v' w5 hown' hgrow hh hat
       have GE := hid hown'
       have GI := hid hgrow
       have GU := hid hat
       clear hown' hgrow hh hat
       go_wp2
       go_roundw
       case rel =>
        refine ⟨j + 1, rows3, row2 ++ [t], Ge.out, by omega, by go_num, ?_, ?_, ?_⟩
        ·rw [List.map_append]; exact GE.out
        ·obtain ⟨sv3, nv3, kv3, us3, ns3, ks3, M⟩ := M3.out
         have M4 := M.below ((Ext.refl w3).alloc (.cells #[.int .i64 t] 3)).below
         have M5 := M4.mono (F' := fun x => ((F0 x /\ x ≠ w.heap.size) /\ u6.ownBlock ≠ some x) /\ v'.ownBlock ≠ some x) fun x hx h => ⟨h, fun e => by
          rcases GU.out with h5 | h5
          ·exact h.2 (by rw [<- h5, e])
          ·rw [h5] at e; cases e; simp at hx⟩
         have M6 := M5.keeps (Keeps.of_grown GI.out fun x hx => ⟨hx.1, fun e => hx.2 e.symm⟩ : Keeps (fun x => x < (w3.alloc (.cells #[.int .i64 t] 3)).heap.size /\ u6.ownBlock ≠ some x) _ w5) fun x hx h => ⟨hx, h.1.2⟩
         exact ⟨_, _, _, _, _, _, M6.mono fun x _ h => ⟨h.1.1, h.2⟩⟩
        ·exact (GM.out.alloc (fun x hx => Nat.lt_of_lt_of_le hx.1 GR) _).tr (Keeps.of_grown GI.out fun x hx => ⟨by have := hx.1; simp; omega, fun e => by have := (RN.out.lt x e.symm).1; have := hx.1; omega⟩)
       case measure => simp [intOf]; omega
      ·refine make_leaves _ w.heap.size rfl _ w3 (BA.out.keeps GM.out ⟨by have := G3.out; omega, .inr (.inl rfl)⟩) fun W' hW' => ⟨G7.out w3 W' GM.out hW', .inr ⟨hno, rfl⟩⟩
     ·have Gk : j = m := by omega
      subst Gk
      clear hlt2 hj
      have Gs : ¬ ((j : Int) < j) := by omega
      obtain ⟨sv2, nv3, kv2, us2, ns2, ks2, M⟩ := M2.out
      have GY := G8.out
      obtain ⟨xa, xc, rfl⟩ := ownsRow_form GY
      have GV : (nxs.map fun r => r.map Int.ofNat).length = k := by
       have h5 := IS.out.len
       have h6 := G9.out
       simp only at h5
       rw [List.length_map, h5]
       omega
      have GL := M.nxr.1
      rw [GV] at GL
      obtain ⟨na, nc, rfl⟩ := ownsRow_form GL
      have f5 : wj.cell? ⟨mb, 5, none⟩ = some (.slice na k nc) := M.blk.cell 5
      have M3 := hid (M.mono (F' := fun x => F0 x /\ x ≠ w.heap.size) fun x _ h => h.1)
      have GG := hid GL
      have Gq := hid GV
      have Gv : base <= wj.heap.size := Nat.le_trans M.bm (Nat.le_of_lt M.blk.lt)
      have GP : mb ≠ w.heap.size := M.fm.1.2
      clear M GY GV GL
      go_wp2_with (at_builtin; refine Hid.out ?_)
      refine hid ?_
      refine wpList_append_own_at _ rfl (.tmp 56) (.tmp 58) 29 rfl base 37 iL (.slice none 0 0) 1 24 Tryz.underlying29 hiL hzL0 hzL1 hzL2 rfl (by decide) (.slice na k nc) k ns2 rfl (GG.out.alloc _) ⟨wj.heap.size, 0, none⟩ 1 1 [.slice xa j xc] rfl rfl (cell_one _ _ _) (by simp [Value.oneCell']) (by unfold maxLen; omega) (by omega) (by simp; omega) ?_
      intro v' w5 hown' hgrow hh hat
      obtain ⟨va, vc, rfl⟩ := ownsRow_form hown'
      have GC : some mb ≠ (Value.slice na k nc).ownBlock := fun e => row_ne M3.out.blk GG.out (by decide) mb e.symm rfl
      have B5 := hid ((M3.out.blk.alloc (.cells #[.slice xa j xc] 37)).grown hgrow GC)
      have GE := hid hown'
      have GI := hid hgrow
      have GU := hid hat
      have g5 := B5.out.cell 5
      have z5 := B5.out.frozen 5
      clear hown' hgrow hh hat f5 GC
      go_wp2
      have K9 : Keeps (fun x => x < wj.heap.size /\ x ≠ mb /\ (Value.slice na k nc).ownBlock ≠ some x) wj (w5.setCell ⟨mb, 5, none⟩ (.slice va (k + 1) vc)) := (((Keeps.refl _ wj).alloc (fun x hx => hx.1) _).tr (Keeps.of_grown GI.out fun x hx => ⟨by have := hx.1; simp; omega, fun e => hx.2.2 e.symm⟩)).setCell (fun h => h.2.1 rfl) _
      have K5 : Keeps (· ≠ mb) w5 (w5.setCell ⟨mb, 5, none⟩ (.slice va (k + 1) vc)) := (Keeps.refl _ w5).setCell (fun h => h rfl) _
      have G5 : wA.heap.size <= wj.heap.size := K2.out.size
      have Gn : row2.length = j := RO.out.len
      have e1 : row2.map (fun t : Nat => Value.int .i64 t) = (row2.map Int.ofNat).map encZ := by rw [List.map_map]; rfl
      have GX : (Value.slice va (k + 1) vc).ownBlock = (Value.slice na k nc).ownBlock \/ ∀ x, (Value.slice va (k + 1) vc).ownBlock = some x -> wj.heap.size <= x := GU.out.imp id fun h x e => by rw [h] at e; cases e; simp
      have GS : RowF (fun x => F0 x /\ x ≠ w.heap.size) (w5.setCell ⟨mb, 5, none⟩ (.slice va (k + 1) vc)) base 3 (.slice xa j xc) (row2.map Int.ofNat).length ((row2.map Int.ofNat).map encZ) := by
       rw [<- e1, List.length_map, Gn]
       exact ⟨keepN M3.out.blk GG.out K9 (ownsRow_base G8.out (by have := G3.out; omega)) (by decide) (.inl (by decide)), fun x e => ⟨GJ.out x (by have := (G8.out.lt x e).1; have := G3.out; omega), by have := (G8.out.lt x e).1; have := G3.out; omega⟩⟩
      have MF := Mk.next M3.out Gq.out.symm K9 (B5.out.set 5 _) ⟨ownsRow_keeps GE.out K5 fun x hx => row_ne B5.out GE.out (by decide) x hx, fun x e => by
       rcases GX with h5 | h5
       ·exact M3.out.nxr.2 x (h5.symm.trans e)
       ·exact ⟨GJ.out x (by have := h5 x e; have := G3.out; omega), by have := h5 x e; have := G3.out; omega⟩⟩ GS GX
      have K8 : Keeps (fun x => x < wA.heap.size /\ (x < base \/ x = w.heap.size \/ ¬ F0 x)) wA (w5.setCell ⟨mb, 5, none⟩ (.slice va (k + 1) vc)) := K2.out.tr (K9.mono fun x hx => ⟨Nat.lt_of_lt_of_le hx.1 G5, fun e => by
       rcases hx.2 with h5 | h5 | h5
       ·have := M3.out.bm; omega
       ·exact GP (e.symm.trans h5)
       ·exact h5 (by rw [e]; exact M3.out.fm.1), fun e => by
       rcases hx.2 with h5 | h5 | h5
       ·have := (GG.out.lt x e).1; omega
       ·exact (M3.out.nxr.2 x e).2 h5
       ·exact h5 (M3.out.nxr.2 x e).1⟩)
      have GB : stTo f (mkG ps ls) ls.length (row0 ps) (k + 1) = some (rows2, nxs ++ [row2]) := by
       rw [mk_row GN.out GA.out, <- GQ.out, GF.out]; rfl
      have GZ : k + 1 <= rows2.length := by
       have h5 : rows.length <= rows2.length := RO.out.pre.length_le
       have := G9.out
       omega
      go_roundw
      case rel =>
       refine ⟨k + 1, rows2, nxs ++ [row2], GB, GZ, by go_num, ?_, K8⟩
       rw [List.map_append]
       exact ⟨_, _, _, _, _, _, MF⟩
      case measure => simp [intOf]; omega
   ·have Gf : k = L := by omega
    subst Gf
    clear hlt
    have Gr : ¬ ((k : Int) < k) := by omega
    have B0 := hid (BA.out.keeps KO.out ⟨by have := G3.out; omega, .inr (.inl rfl)⟩)
    have g0 := B0.out.cell 0
    have z0 := B0.out.frozen 0
    go_wp2
    have K9 : Keeps (fun x => x < wo.heap.size /\ x ≠ w.heap.size) wo (wo.setCell ⟨w.heap.size, 0, none⟩ (.int .i64 0)) := (Keeps.refl _ wo).setCell (fun h => h.2 rfl) _
    exact make_idle _ w.heap.size 0 rfl _ _ (B0.out.set 0 _) ⟨G7.out wo _ KO.out K9, .inl ⟨rows, nxs, mk_done GH GN.out (by have := G9.out; show rows.length = k; omega), rfl, _, _, _, _, _, _, (MO.out.keeps K9 fun x hx h => ⟨hx, h.2⟩).mono fun x _ _ => trivial⟩⟩
 ·have KA : Keeps (fun x => x < wA.heap.size /\ (x < base \/ x = w.heap.size \/ ¬ F0 x)) wA w4 := (Keeps.of_below X3.out fun x hx => hx.1 : Keeps (fun x => x < wA.heap.size /\ (x < base \/ x = w.heap.size \/ ¬ F0 x)) wA w3).tr (hk4.mono fun x hx => ⟨hx.1, notF hx.2⟩)
  refine make_leaves _ w.heap.size rfl _ w4 (BA.out.keeps KA ⟨by have := G3.out; omega, .inr (.inl rfl)⟩) fun W' hW' => ⟨G7.out w4 W' KA hW', .inr ⟨?_, rfl⟩⟩
  unfold mkSt
  rw [if_pos (by simpa using h2)]
theorem IsSets.src {w : World} {v : Value} {l : List BS} (h : IsSets w v l) : SrcOf w v l.length (flatS l) := by
 rcases h with ⟨rfl, rfl⟩ | ⟨b, off, cap, rfl, _, hc⟩
 ·exact .inl ⟨rfl, rfl, rfl⟩
 ·refine .inr ⟨⟨b, off, none⟩, cap, rfl, fun j u hj => ?_⟩
  have Gu : j < l.length * 4 := by rw [<- flatS_length]; exact (List.getElem?_eq_some_iff.1 hj).1
  have h1 : l[j / 4]? = some (l[j / 4]'(by omega)) := List.getElem?_eq_getElem (by omega)
  have h2 := flatS_get l h1 (j := j % 4) (by omega)
  rw [show j / 4 * 4 + j % 4 = j by omega, hj] at h2
  rw [Addr.add_mid, show off + j = off + j / 4 * 4 + j % 4 by omega, hc _ _ h1 _ (by omega), <- h2]
theorem allSets_take {ps : List PT} {k : Nat} {x : PT} (h : ps[k]? = some x) : allSets (ps.take (k + 1)) = allSets (ps.take k) ++ x.nf.sets := by
 unfold allSets
 rw [List.take_add_one, h]
 simp
theorem PT.ok_iff (x : PT) : x.ok = true ↔ x.nf.right = true /\ 0 <= x.mark /\ x.mark <= 255 := by
 unfold PT.ok
 simp [and_assoc]
theorem ofE_bad {ps : List PT} {f : Int} (h : ps.length <= 64) {k : Nat} {x : PT} (hx : ps[k]? = some x) (hb : ¬ x.ok = true) : ofE ps f = (⟨[], [], []⟩, 180) := by
 unfold ofE
 rw [if_neg (by omega), if_pos]
 rw [List.all_eq_false]
 exact ⟨x, List.mem_of_getElem? hx, hb⟩
theorem ofE_many {ps : List PT} {f : Int} (h : 64 < ps.length) : ofE ps f = (⟨[], [], []⟩, 5) := by unfold ofE; rw [if_pos h]
theorem all_ok {ps : List PT} (h : ∀ (k : Nat) (x : PT), ps[k]? = some x -> x.ok = true) : ps.all PT.ok = true := List.all_eq_true.2 fun x hx => by
 obtain ⟨i, hi⟩ := List.getElem?_of_mem hx
 exact h i x hi
theorem ofE_fuel {ps : List PT} {f : Int} (h : ps.length <= 64) (ho : ps.all PT.ok = true) (hf : f < 0 \/ 4000 < f) : ofE ps f = (⟨[], [], []⟩, 2) := by
 unfold ofE
 rw [if_neg (by omega), ho, if_neg (by decide), if_pos hf]
theorem rowTo_congr {α : Type} [DecidableEq α] {fuel : Nat} {g g' : Nat -> α} {todo : List α} : ∀ {k : Nat}, (∀ j, j < k -> g j = g' j) -> rowTo fuel g todo k = rowTo fuel g' todo k
 | 0, _ => rfl
 | k + 1, h => by rw [rowTo, rowTo, rowTo_congr fun j hj => h j (by omega), h k (by omega)]
theorem stTo_congr {α : Type} [DecidableEq α] {fuel K : Nat} {f f' : α -> Nat -> α} {p0 : α} (h : ∀ p j, j < K -> f p j = f' p j) : ∀ n, stTo fuel f K p0 n = stTo fuel f' K p0 n
 | 0 => rfl
 | n + 1 => by
  rw [stTo, stTo, stTo_congr h n]
  congr 1
  funext st
  unfold stStep
  cases st.1[n]? with
  | none => rfl
  | some p => simp only [rowTo_congr (h p)]
theorem mkSt_of {ps : List PT} {f : Nat} {ls : List Nat} (hl : ls.length = (partsOf (allSets ps)).length) (h : ∀ k, k < ls.length -> ls.getD k 0 = lb (partsOf (allSets ps)) k) : mkSt ps ls f = ofSt ps f := by
 unfold mkSt ofSt
 rw [hl]
 split
 ·rfl
 ·refine stTo_congr (fun p j hj => ?_) f
  unfold mkG
  rw [h j (by omega)]
theorem ofE_gone {ps : List PT} {f : Nat} (h : ps.length <= 64) (ho : ps.all PT.ok = true) (hf : f <= 4000) (hs : ofSt ps f = none) : ofE ps f = (⟨[], [], []⟩, 181) := by
 unfold ofE
 rw [if_neg (by omega), ho, if_neg (by decide), if_neg (by omega), Int.toNat_natCast, hs]
theorem ofE_done {ps : List PT} {f : Nat} (h : ps.length <= 64) (ho : ps.all PT.ok = true) (hf : f <= 4000) {st : List (List (List Int)) × List (List Nat)} (hs : ofSt ps f = some st) : ofE ps f = (⟨partsOf (allSets ps), st.2.map fun r => r.map Int.ofNat, st.1.map (marksR ps)⟩, 0) := by
 unfold ofE
 rw [if_neg (by omega), ho, if_neg (by decide), if_neg (by omega), Int.toNat_natCast, hs]
end Go.Proofs.YtbiboekhakbnpaaGreatDoor
