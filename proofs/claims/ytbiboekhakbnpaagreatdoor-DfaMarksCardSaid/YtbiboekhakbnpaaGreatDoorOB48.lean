/-
  The closure that (*maker).make defers: recover, and 181 where there were too many states.
  slices.Repeat of a slice with one slice in it.
-/
import Derived.Test.YtbiboekhakbnpaaGreatDoorOB47
import Derived.Defers
import Derived.Recover
import Derived.Test.YtbiboekhakbnpaaGreatDoorOB26
import Derived.Test.YtbiboekhakbnpaaGreatDoorOB01
import Derived.Lib.SlBuf
set_option maxRecDepth 100000
set_option maxHeartbeats 16000000
open Go.Lib (hid)
namespace Go.Proofs.YtbiboekhakbnpaaGreatDoor
open Go Go.RowKit Go.Shelf Go.Maps

theorem catch_idle (p : Addr) (w : World) :
  CallsD Tryz.prog 80 #[.pointer (some p)] .returning w fun e u' w' => e = .returned (.tuple #[]) /\ u' = .returning /\ w' = w := by
 refine callsD_of_wpS Tryz.func80 rfl fun c₀ cs hu => ?_
 apply wpS_seq
 apply wpS_region
 simp [wpOpsS, go_sem, recoverD, hu, Tryz.ntmps80, Exit.thenS]
 refine wpS_of_wp ?_
 go_wp2
 cases c₀
 simp_all [bodyPostS, results, Tryz.results80]

theorem catch_panicking (p : Addr) (x : Value) (older : List PanicEntry) (w : World) (hc : w.cell? p = some x) (hz : w.frozen? p = false) (hp : p.block < w.heap.size) :
  CallsD Tryz.prog 80 #[.pointer (some p)] (.panicking ({ v := .iface 146 (.agg #[]), recovered := false } :: older)) w fun e u' w' =>
   e = .returned (.tuple #[]) /\ u' = .panicking ({ v := .iface 146 (.agg #[]), recovered := true } :: older) /\ ∃ w2, Below w.heap.size w w2 /\ w' = w2.setCell p (.int .i64 181) := by
 refine callsD_of_wpS Tryz.func80 rfl fun c₀ cs hu => ?_
 apply wpS_seq
 apply wpS_region
 simp [wpOpsS, go_sem, recoverD, hu, Tryz.ntmps80, Exit.thenS]
 refine wpS_of_wp ?_
 have GP : ∀ w : World, (Instr.typeAssert (.iface 146 (.agg #[])) 20 146 true).run Tryz.prog w = .ok (.tuple #[.agg #[], .bool true]) w := fun _ => by kernel_rfl
 have hK : Keeps (· < w.heap.size) w (w.alloc (.cells #[] 146)) := Keeps.of_below ((Ext.refl w).alloc _).below fun _ h => h
 have GM : (w.alloc (.cells #[] 146)).cell? p = some x := (hK.cell hp).trans hc
 have GO : (w.alloc (.cells #[] 146)).frozen? p = false := (hK.frozen hp).trans hz
 go_wp2
 refine ⟨rfl, _, rfl, .tuple #[], ?_, rfl, rfl, _, ((Ext.refl w).alloc _).below, rfl⟩
 simp [results, Tryz.results80]
theorem mul64_any (n : Nat) (hn : n <= 64) (w : World) : Calls Tryz.prog 159 #[.int .u64 1, .int .u64 n] w fun e w' => e = .returned (.tuple #[.int .u64 0, .int .u64 n]) /\ w' = w := by
 have a1 : bits .and .u64 (1 : Int) 4294967295 = 1 := by decide
 have a2 : bits .and .u64 (n : Int) 4294967295 = n := by
  have h : ∀ m : Fin 65, bits .and .u64 ((m.val : Nat) : Int) 4294967295 = (m.val : Int) := by decide +kernel
  exact h ⟨n, by omega⟩
 go_enter Tryz.func159, Tryz.ntmps159
 have h0 : (n : Int) / 4294967296 = 0 := by omega
 have a3 : bits .and .u64 (0 : Int) 4294967295 = 0 := by decide
 have a4 : IntKind.u64.wrap 0 = 0 := by decide
 go_wp2
 refine bodyPost_ret (v := .tuple #[.int .u64 0, .int .u64 n]) (by simp [results, Tryz.results159, go_sem]) rfl ⟨rfl, rfl⟩
theorem mul_any (n : Nat) (hn : n <= 64) (w : World) : Calls Tryz.prog 120 #[.int .u64 1, .int .u64 n] w fun e w' => e = .returned (.tuple #[.int .u64 0, .int .u64 n]) /\ w' = w := by
 have CM := hid (mul64_any n hn w)
 go_enter Tryz.func120, Tryz.ntmps120
 go_wp2_with fail
 refine CM.out.mono ?_
 rintro e w2 ⟨rfl, hw⟩
 replace hw := hw.symm
 subst hw
 go_wp2
 refine bodyPost_ret (v := .tuple #[.int .u64 0, .int .u64 n]) (by simp [results, Tryz.results120, go_sem]) rfl ⟨rfl, rfl⟩
theorem made_heads (n : Nat) : (madeCells (Value.slice none 0 0).cells (n * 1)).toList = List.replicate n (.slice none 0 0) := by
 apply List.ext_getElem?
 intro i
 simp only [madeCells, Value.cells, Nat.mul_one, Array.toList_map, Array.toList_range, List.getElem?_map, List.getElem?_replicate]
 rcases Nat.lt_or_ge i n with h | h
 ·rw [List.getElem?_range h, if_pos h]; simp [Nat.mod_one]
 ·rw [List.getElem?_eq_none (by simpa using h), if_neg (by omega)]; rfl
def repC (n m : Nat) (h : Value) : List Value := List.replicate m h ++ List.replicate (n - m) (.slice none 0 0)
theorem repC_len {n m : Nat} (h : Value) (hm : m <= n) : (repC n m h).length = n := by unfold repC; simp; omega
theorem copy_rep {base g n m k : Nat} {h : Value} {W : World} (h1 : h.oneCell' = true) (ho : W.ownsRow base 37 1 (.slice (some ⟨g, 0, none⟩) n n) n (repC n m h)) (hk : m + k ≤ n) (a : Addr) (sl sc : Nat) (hs : ∀ j, j < k → W.cell? (a.add j) = some h) (hkk : k = Nat.min sl (n - m)) (ty : TypeId) :
    ∃ W', (Builtin.copy_ #[29, 29] ty #[.slice (some ⟨g, m, none⟩) (n - m) (n - m), .slice (some a) sl sc]).run Tryz.prog W = .ok (.int .i64 k) W' ∧ W'.ownsRow base 37 1 (.slice (some ⟨g, 0, none⟩) n n) n (repC n (m + k) h) ∧ Keeps (· ≠ g) W W' := by
  rcases ho.2 with ⟨e, _⟩ | ⟨g', cap, cur, e, hb, hg, hc, hcm, hsz, htk⟩
  · cases e
  · cases e
    have G4 : cur.toList = repC n m h := by rw [← htk, List.take_of_length_le]; simp [hsz]
    refine ⟨_, by have := run_copy_row (P := Tryz.prog) W 29 29 ty 37 g m (n - m) (n - m) a sl sc cur 37 (List.replicate k h) Tryz.underlying29 (by kernel_rfl) hg (by rw [List.length_replicate]; exact hkk) (fun j v hj => by
        rw [List.getElem?_replicate] at hj
        split at hj
        · cases hj; exact hs j (by assumption)
        · cases hj) (by rw [List.length_replicate, hsz]; omega) (fun v hv => by rw [List.eq_of_mem_replicate hv]; exact h1)
                  rw [List.length_replicate] at this
                  exact this, ?_, (Keeps.refl _ _).setRow (fun h => h rfl) _⟩
    have G5 : (cur.toList.take m ++ List.replicate k h ++ cur.toList.drop (m + k)) = repC n (m + k) h := by
      rw [G4]
      unfold repC
      rw [List.take_left' (by simp), List.replicate_append_replicate]
      congr 1
      rw [List.drop_append, List.drop_eq_nil_of_le (by simp), List.length_replicate, List.nil_append, List.drop_replicate]
      congr 1
      omega
    rw [G5]
    refine ⟨by rw [repC_len h hk]; omega, .inr ⟨g, n, _, rfl, hb, setRow_heap W g cur _ _ _ hg, hc, hcm, by simp [repC_len h hk], ?_⟩⟩
    rw [List.take_of_length_le]
    simp [repC_len h hk]
theorem effT_copy {P : Program} {Cl : FuncId -> Array Value -> World -> (Ending -> World -> Prop) -> Prop} {Rd : Nat -> FuncId -> Array Value -> Code -> Code -> World -> (Ending -> World -> Prop) -> Prop} {o : Oper} {a : Act} {W W' : World} {post : Value -> World -> Prop} {v : Value} (d s : Operand) (t1 t2 : TypeId)
  (ho : o.op = .call { callee := .builtin .copy, args := #[d, s], argTypes := #[t1, t2] }) (dv sv : Value) (hd : a.eval d = dv) (hs : a.eval s = sv) (hr : (Builtin.copy_ #[t1, t2] o.type #[dv, sv]).run P W = .ok v W') (h : post v W') : effT Cl Rd post ((execOp a.eval o).run P W) := by
 unfold execOp
 simp only [ho, resolve, invoke, builtin, Sem.run_bind, Sem.run_pure, Result.andThen_ok, List.map_toArray, List.map_cons, List.map_nil, hs, hd, hr]
 exact h
def CpM (g n m : Nat) (h : Value) (A B : World) : Prop := Keeps (fun x => x < A.heap.size /\ x ≠ g) A B /\ (A.ownsRow g 37 1 (.slice (some ⟨g, 0, none⟩) n n) n (repC n m h) -> B.ownsRow g 37 1 (.slice (some ⟨g, 0, none⟩) n n) n (repC n m h))
theorem CpM.trans {g n m : Nat} {h : Value} {A B C : World} (h1 : CpM g n m h A B) (h2 : CpM g n m h B C) : CpM g n m h A C := ⟨h1.1.trans h2.1 fun _ hx => ⟨Nat.lt_of_lt_of_le hx.1 h1.1.size, hx.2⟩, fun a => h2.2 (h1.2 a)⟩
theorem CpM.drew {g n m : Nat} {h : Value} {A : World} : CpM g n m h A A.drew := ⟨(Keeps.refl _ _).drew, fun a => a⟩
def EffCp (g n m : Nat) (h v : Value) : Eff (CpM g n m h) := ⟨fun u => u = v, fun _ W => W.ownsRow g 37 1 (.slice (some ⟨g, 0, none⟩) n n) n (repC n m h), v, rfl, fun _ _ _ hm _ h => hm.2 h⟩
theorem repeat_any (b gb : Nat) (h : Value) (n : Nat) (hn : n <= 64) (w : World) (hc : w.cell? ⟨gb, 0, none⟩ = some h) (hh : w.ownsRow b 3 1 h 1 [encZ (-1)]) (hb : b <= w.heap.size) :
  Calls Tryz.prog 82 #[.slice (some ⟨gb, 0, none⟩) 1 1, .int .i64 n] w fun e w' => ∃ u, e = .returned u /\ OwnLL b w' u (List.replicate n [-1]) /\ Below w.heap.size w w' := by
 obtain ⟨iL, hiL, hzL0, hzL1, hzL2⟩ := info_parts Tryz.infoL
 have CM := hid (mul_any n hn)
 have GK : IntKind.u64.wrap (n : Int) = n := by have := IntWalk.u64_in (n : Int) (by omega); exact this
 have GL : IntKind.i64.wrap (n : Int) = n := IntWalk.i64_in _ (by omega)
 have d1 : decide ((n : Int) < 0) = false := decide_eq_false (by omega)
 have d2 : decide ((9223372036854775807 : Int) < (n : Int)) = false := decide_eq_false (by omega)
 have HH := hid hh
 have GI := hid hc
 have GJ := World.block_lt_of_cell? _ _ hc
 clear hh hc
 go_enter Tryz.func82, Tryz.ntmps82
 go_wp2_with fail
 refine (CM.out w).mono ?_
 rintro e w2 ⟨rfl, hw⟩
 replace hw := hw.symm
 subst hw
 go_wp2_with (at_make; refine wpList_make_full _ rfl (.tmp 29) (.tmp 29) 29 rfl w.heap.size 37 iL (.slice none 0 0) 1 Tryz.underlying29 hiL hzL0 hzL1 .i64 .i64 _ _ n rfl rfl rfl rfl (by rw [hzL2]; omega) (by unfold maxLen; omega) (Nat.le_refl _) ?_; intro w3 hr hg; refine Hid.out ?_)
 refine hid ?_
 have GR : w.heap.size < w3.heap.size := by
  rcases hr.2 with ⟨h5, _⟩ | ⟨g, c, cur, h5, _, h6, _⟩
  ·cases h5
  ·cases h5; exact (Array.getElem?_eq_some_iff.1 h6).1
 have G6 : Below w.heap.size w w3 := (Keeps.of_grown hg fun x hx => ⟨hx, fun e => by cases e⟩ : Keeps (· < w.heap.size) w w3).below
 rw [made_heads] at hr
 have G7 : h.oneCell' = true := by obtain ⟨a, c, rfl⟩ := ownsRow_form HH.out; rfl
 have GC : w3.ownsRow w.heap.size 37 1 (.slice (some ⟨w.heap.size, 0, none⟩) n n) n (repC n 0 h) := by unfold repC; rw [Nat.sub_zero]; exact hr
 have GD : w3.cell? ⟨gb, 0, none⟩ = some h := ((Keeps.of_below G6 fun _ h => h : Keeps (· < w.heap.size) w w3).cell (p := ⟨gb, 0, none⟩) GJ).trans GI.out
 obtain ⟨w4, hcp, ho4, hk4⟩ := copy_rep (k := Nat.min 1 n) G7 GC (by rw [Nat.zero_add]; exact Nat.min_le_right _ _) ⟨gb, 0, none⟩ 1 1 (fun j hj => by
  have GH : j = 0 := by have := Nat.lt_of_lt_of_le hj (Nat.min_le_left 1 n); omega
  subst GH
  exact GD) (by rw [Nat.sub_zero]) 3
 rw [Nat.sub_zero] at hcp
 rw [Nat.zero_add] at ho4
 obtain ⟨k0, hk0⟩ : ∃ z, z = Nat.min 1 n := ⟨_, rfl⟩
 rw [<- hk0] at hcp ho4
 have G3 : k0 <= n /\ (n = 0 \/ 1 <= k0) := by rw [hk0]; unfold Nat.min; constructor <;> omega
 have G9 := hid ho4
 have X4 : Hid (Below w.heap.size w w4) := hid (G6.trans (hk4.mono fun x hx => by have h5 : x < w.heap.size := hx; show x ≠ w.heap.size; omega : Keeps (· < w.heap.size) w3 w4).below)
 clear hr GC hg G6 GD ho4 hk4 hk0 CM
 go_wp2_with (at_builtin; refine Lib.wpList_copy_run _ rfl (.tmp 31) (.tmp 32) 29 29 rfl _ _ rfl rfl hcp ?_; clear hcp)
 go_loopw [8] (fun mv wr => ∃ m : Nat, m <= n /\ (n = 0 \/ 1 <= m) /\ mv = .int .i64 m /\ wr.ownsRow w.heap.size 37 1 (.slice (some ⟨w.heap.size, 0, none⟩) n n) n (repC n m h) /\ Below w.heap.size w wr) (fun mv _ => n - (intOf mv).toNat)
 case atStart => exact ⟨k0, G3.1, G3.2, rfl, G9.out, X4.out⟩
 case round =>
  obtain ⟨m, hm, hm1, rfl, ho, hx⟩ := hrel
  obtain ⟨wo, rfl⟩ : ∃ wo : World, wo = wr := ⟨_, rfl⟩
  have HO := hid ho
  have HX := hid hx
  clear ho hx G9 X4 G3
  by_cases hlt : m < n
  ·have GQ : (m : Int) < n := by omega
   have GG : ¬ ((n : Int) < m) := by omega
   have GE : (m : Int) <= n := by omega
   have GN : decide ((m : Int) <= n) = true := decide_eq_true GE
   obtain ⟨k, hk⟩ : ∃ z, z = Nat.min m (n - m) := ⟨_, rfl⟩
   have G8 : m + k <= n /\ 1 <= k /\ k <= m := by rw [hk]; unfold Nat.min; refine ⟨?_, ?_, ?_⟩ <;> omega
   have GF := hid hk
   clear hk
   go_wp2_with fail
   refine RegQ.wp_region_regM (CpM w.heap.size n (m + k) h) CpM.drew (fun _ _ _ h k => h.trans k) (by kernel_rfl) 8 [0, 0, 0, 6, 0, 0, 48, 126, 255, 511] (fun i => i == 7) (by kernel_rfl) (fun i => if i = 7 then EffCp w.heap.size n (m + k) h (.int .i64 k) else Eff.any _) (fun j W => (j = 7) -> W.ownsRow w.heap.size 37 1 (.slice (some ⟨w.heap.size, 0, none⟩) n n) n (repC n m h)) (fun _ _ _ => HO.out) ?_
   intro C hC hne
   have HC := hid hC
   clear hC
   repeat (refine RegQ.regStep (fun K hK => ?_); first | (refine RegQ.regN rfl ?_; try go_simp; refine hK _ _ ?_; clear hK K) | (refine RegQ.regF rfl rfl ?_; unfold floatAt; go_simp; refine hK _ _ ?_; clear hK K))
   refine RegQ.regStep (fun K hK => ?_)
   refine RegQ.regE rfl rfl (EffCp w.heap.size n (m + k) h (.int .i64 k)) rfl (fun W hW hD hN => ?_) (fun v hv => ?_)
   ·have GA := hD rfl
    clear hW hN hK K hD
    obtain ⟨W', e1, e2, e3⟩ := copy_rep (k := k) G7 GA G8.1 ⟨w.heap.size, 0, none⟩ m n (fun j hj => by
     have : (⟨w.heap.size, 0, none⟩ : Addr).add j = ⟨w.heap.size, j, none⟩ := by simp [Addr.add]; omega
     rw [this, GA.cellAt j (by omega)]
     unfold repC
     rw [List.getElem?_append_left (by rw [List.length_replicate]; omega), List.getElem?_replicate, if_pos (by omega)]) GF.out 3
    refine effT_copy (.tmp 41) (.tmp 44) 29 29 rfl _ _ ?_ ?_ e1 ?_
    ·show Value.slice (if n = m then _ else _) _ _ = _
     rw [if_neg (by omega)]
    ·rfl
    ·exact ⟨⟨⟨e3.mono fun x hx => hx.2, fun _ => e2⟩, fun j hj _ _ e => absurd e hj⟩, rfl, e2⟩
   replace hv : v = _ := hv
   subst hv
   go_simp
   refine hK _ _ ?_
   clear hK K
   repeat (refine RegQ.regStep (fun K hK => ?_); first | (refine RegQ.regN rfl ?_; try go_simp; refine hK _ _ ?_; clear hK K) | (refine RegQ.regF rfl rfl ?_; unfold floatAt; go_simp; refine hK _ _ ?_; clear hK K))
   refine RegQ.regNil (fun W hW hH => ?_)
   have GB := (HC.out W).1 hW
   have NR : Hid (W.ownsRow w.heap.size 37 1 (.slice (some ⟨w.heap.size, 0, none⟩) n n) n (repC n (m + k) h)) := hid (hH _ (List.mem_of_getElem? (show _ = some _ from rfl : _[0]? = some _)))
   have XR : Hid (Below w.heap.size w W) := hid (HX.out.trans (GB.1.mono fun x hx => ⟨Nat.lt_of_lt_of_le hx HX.out.size, Nat.ne_of_lt hx⟩ : Keeps (· < w.heap.size) wo W).below)
   clear GB hW hH HC hne HO HX
   go_wp2
   go_roundw
   case rel => exact ⟨m + k, G8.1, by omega, by go_num, NR.out, XR.out⟩
   case measure => simp [intOf]; omega
  ·obtain rfl : m = n := by omega
   have GG : ¬ ((m : Int) < m) := by omega
   go_wp2
   go_ret
   refine ⟨_, rfl, ⟨List.replicate m h, by simp, ?_, fun i u l hu hl => ?_⟩, HX.out⟩
   ·have h5 := ownsRow_base HO.out hb
    unfold repC at h5
    rw [Nat.sub_self, List.replicate_zero, List.append_nil] at h5
    rw [List.length_replicate]
    exact h5
   ·rw [List.getElem?_replicate] at hu hl
    split at hu
    ·cases hu
     rw [if_pos (by assumption)] at hl
     cases hl
     exact ownsRow_below HH.out HX.out
    ·cases hu
end Go.Proofs.YtbiboekhakbnpaaGreatDoor
