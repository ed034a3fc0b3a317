/-
  DfaMarks returns true for any small parts, any bytes; the arguments read behind the call as they did. No condition. A tied card: the three listed tables hold at the call what the program's text lays.
-/
import Derived.Test.YtbiboekhakbnpaaGreatDoorCards
import Derived.Test.YtbiboekhakbnpaaGreatDoorTie
import Derived.Deep.DeepHandedRow
import Derived.Stop.LaidErr
import Derived.Test.YtbiboekhakbnpaaGreatDoorOB53
set_option maxRecDepth 100000
set_option maxHeartbeats 16000000
open Go.Lib (hid)
namespace Go.Proofs.YtbiboekhakbnpaaGreatDoor
open Go Go.RowKit Go.Shelf Go.Maps
def atN (a : NF) (again : Bool) (b : List Nat) : List Int := (PT.mk a (!again) 0).at b
theorem atN_st (a : NF) (again : Bool) (b : List Nat) : a.st (atN a again b) = true := by
 have h := rowAt_in [PT.mk a (!again) 0] b
 have e := rowAt_get [PT.mk a (!again) 0] b
 exact h.2 0 _ _ rfl (by rw [e]; rfl)
theorem atN_snoc (a : NF) (again : Bool) (b : List Nat) (c : Nat) : atN a again (b ++ [c]) = if again then -1 :: a.step (atN a again b) c else a.step (atN a again b) c := by
 unfold atN
 rw [PT.at_snoc]
 unfold PT.step
 cases again <;> rfl
theorem atN_len {a : NF} (rt : Nt a) (again : Bool) (b : List Nat) : (atN a again b).length <= 401 := st_len rt (atN_st a again b)
theorem nfaRun_any (g : Nat) (lb : Array Value) (I : Nat -> World -> (Nat -> Prop) -> Prop) (v bv : Value) (a : NF) (rt : Nt a) (sm : SmN a) (again : Bool) (b : List Nat) (hb : ∀ c ∈ b, c < 256) (hbn : b.length <= 4096) (w0 w : World) (h : IsNf w0 v a) (hbv : IsSl encB w0 bv b)
  (eg : ∀ args w, (callFunc g args).run Tryz.prog w = .ok (.enter g args) w) (F0 : Nat -> Prop) (hI0 : I 0 w F0)
  (hIb : ∀ k W F, I k W F -> Below w0.heap.size w0 W /\ ∀ x, F x -> x < W.heap.size)
  (hIk : ∀ k W W' F, I k W F -> Below W.heap.size W W' -> I k W' F)
  (hat : ∀ k W F u l, k <= b.length -> l = atN a again (b.take k) -> I k W F -> IsSl encZ W u l -> (∀ B off n c, u = .slice (some ⟨B, off, none⟩) n c -> ¬ F B) ->
   Calls Tryz.prog g (#[.int .i64 k, u] ++ lb) W fun e w' => e = .returned (.tuple #[]) /\ ∃ F', I (k + 1) w' F' /\ (∀ x, F' x -> F x \/ W.heap.size <= x) /\ Keeps (fun x => x < W.heap.size /\ ¬ F x) W w') :
  Calls Tryz.prog 55 #[v, bv, .bool again, .func (.func g) #[] lb] w fun e w' => e = .returned (.int .i64 0) /\ ∃ F', I (b.length + 1) w' F' /\ (∀ x, F' x -> F0 x \/ w.heap.size <= x) /\ Keeps (fun x => x < w.heap.size /\ ¬ F0 x) w w' := by
 obtain ⟨iI, hiI, hzI0, hzI1, hzI2⟩ := info_parts Tryz.infoI
 have Gn := hIb 0 w F0 hI0
 have H := hid h
 have GO := hid hbv
 obtain ⟨U0, M0, C0, U1, M1, C1, U2, M2, C2, U3, M3, C3, rfl⟩ : ∃ a0 n0 c0 a1 n1 c1 a2 n2 c2 a3 n3 c3, v = .agg #[.slice a0 n0 c0, .slice a1 n1 c1, .slice a2 n2 c2, .slice a3 n3 c3, .bool a.emp] := by
  obtain ⟨v0, v1, v2, v3, e, _⟩ := id h
  subst e
  obtain ⟨a0, n0, c0, a1, n1, c1, a2, n2, c2, a3, n3, c3, rfl, rfl, rfl, rfl⟩ := h.form4
  exact ⟨_, _, _, _, _, _, _, _, _, _, _, _, rfl⟩
 obtain ⟨n, hn⟩ : ∃ n, n = b.length := ⟨_, rfl⟩
 obtain ⟨ba, bc, rfl⟩ := hbv.form
 rw [<- hn] at hbv hbn ⊢
 have HN := hid hn
 have HB := hid hb
 have Gk := hid hIb
 have GH := hid hIk
 have JQ := hid hat
 have JR := hid hI0
 have Gs := hid Gn.2
 have Jo := hid Gn.1
 have Jc : a.right = true := (nright_iff a).2 rt
 have h4 : ¬ ((4096 : Int) < n) := by omega
 clear h hbv hb hIb hIk hat hI0 Gn hn
 go_enter Tryz.func55, Tryz.ntmps55
 go_wp2_with fail
 refine calls_named ?_
 intro V hV
 have B1 : Hid (Blk V w.heap.size #[.slice U0 M0 C0, .slice U1 M1 C1, .slice U2 M2 C2, .slice U3 M3 C3, .bool a.emp] 44) := hid (by rw [hV]; exact Blk.new w _ _)
 have X1 : Hid (Below w.heap.size w V) := hid (by rw [hV]; exact ((Ext.refl w).alloc _).below)
 clear hV
 have I1 := hid (GH.out _ _ _ _ JR.out X1.out)
 have Y1 : Hid (Below w0.heap.size w0 V) := hid (Gk.out _ _ _ I1.out).1
 refine (nright_any _ a V (H.out.below Y1.out) sm).mono ?_
 rintro e w1 ⟨rfl, hx1⟩
 rw [Jc]
 have B2 := hid (B1.out.below hx1 B1.out.lt)
 have X2 : Hid (Below w.heap.size w w1) := hid (X1.out.trans (hx1.mono X1.out.size))
 have I2 := hid (GH.out _ _ _ _ I1.out hx1)
 have hA : w.heap.size < w1.heap.size := B2.out.lt
 clear hx1 B1 X1 I1 Y1
 go_wp2_with fail
 refine calls_named ?_
 intro V2 hV2
 have BL : Hid (Blk V2 w1.heap.size #[.int .i64 (-1)] 3) := hid (by rw [hV2]; exact Blk.new w1 _ _)
 have XL : Hid (Below w1.heap.size w1 V2) := hid (by rw [hV2]; exact ((Ext.refl w1).alloc _).below)
 clear hV2
 have B3 := hid (B2.out.below XL.out B2.out.lt)
 have X3 : Hid (Below w.heap.size w V2) := hid (X2.out.trans (XL.out.mono X2.out.size))
 have I3 := hid (GH.out _ _ _ _ I2.out XL.out)
 have L3 : Hid (IsSl encZ V2 (.slice (some ⟨w1.heap.size, 0, none⟩) 1 1) [-1]) := hid (.inr ⟨w1.heap.size, 0, 1, rfl, BL.out.lt, Nat.le_refl _, fun i x hi => by
  cases i with
  | zero => cases hi; exact BL.out.cell 0
  | succ i => simp at hi⟩)
 have Gm : ¬ F0 w1.heap.size := fun h => by have := Gs.out _ h; omega
 have JJ : w1.heap.size < V2.heap.size := BL.out.lt
 clear B2 X2 I2 XL
 refine (JQ.out 0 V2 F0 _ [-1] (Nat.zero_le _) rfl I3.out L3.out (fun B off n c e => by cases e; exact Gm)).mono ?_
 rintro e w2 ⟨rfl, F, hI, hF, hk⟩
 have B4 := hid (B3.out.keeps hk ⟨B3.out.lt, fun h => by have := Gs.out _ h; omega⟩)
 have L4 := hid (L3.out.keeps hk fun B off n c e => by cases e; exact ⟨JJ, Gm⟩)
 have I4 := hid hI
 have F4 : Hid (∀ x, F x -> F0 x \/ w.heap.size < x) := hid fun x hx => (hF x hx).imp id fun h => by omega
 have K4 : Hid (Keeps (fun x => x < w.heap.size /\ ¬ F0 x) w w2) := hid ((Keeps.of_below X3.out fun x (hx : x < w.heap.size /\ ¬ F0 x) => hx.1).tr (hk.mono fun x (hx : x < w.heap.size /\ ¬ F0 x) => ⟨by have := hx.1; have := X3.out.size; omega, hx.2⟩))
 clear hI hF hk BL B3 X3 I3 L3 JJ Gm
 go_wp2
 go_loopw [9, 26] (fun lv iv wr => ∃ (k : Nat) (F : Nat -> Prop), k <= n /\ iv = .int .i64 k /\ I (k + 1) wr F /\ (∀ x, F x -> F0 x \/ w.heap.size < x) /\ Keeps (fun x => x < w.heap.size /\ ¬ F0 x) w wr /\ IsSl encZ wr lv (atN a again (b.take k)) /\ Blk wr w.heap.size #[.slice U0 M0 C0, .slice U1 M1 C1, .slice U2 M2 C2, .slice U3 M3 C3, .bool a.emp] 44) (fun _ iv _ => n - (intOf iv).toNat)
 case atStart => exact ⟨0, F, Nat.zero_le _, rfl, I4.out, F4.out, K4.out, L4.out, B4.out⟩
 case round =>
  obtain ⟨k, F5, hk, rfl, hI, hF, hK, hL, hB⟩ := hrel
  obtain ⟨wo, rfl⟩ : ∃ wo : World, wo = wr := ⟨_, rfl⟩
  clear I4 F4 K4 L4 B4
  have HI := hid hI
  have HF := hid hF
  have HK := hid hK
  have HL := hid hL
  have G9 := hid hB
  have Y5 := hid (Gk.out _ _ _ hI).1
  have JG := hid (Gk.out _ _ _ hI).2
  clear hI hF hK hL hB
  by_cases hlt : k < n
  ·have J9 : (k : Int) < n := by omega
   obtain ⟨c, hck⟩ : ∃ c, b[k]? = some c := ⟨_, List.getElem?_eq_getElem (by have := HN.out; omega)⟩
   have hc : c < 256 := HB.out c (List.mem_of_getElem? hck)
   obtain ⟨bb, off, rfl, hbb, d0⟩ := (GO.out.below Y5.out).elem hck
   have d0' : wo.cell? ⟨bb, off + k, none⟩ = some (.int .u8 c) := d0
   have JD : b.take (k + 1) = b.take k ++ [c] := by rw [List.take_add_one, hck]; rfl
   obtain ⟨lk, hlk⟩ : ∃ l, l = atN a again (b.take k) := ⟨_, rfl⟩
   have GE : a.st lk = true := by rw [hlk]; exact atN_st a again _
   have Jr : lk.length <= 401 := st_len rt GE
   rw [<- hlk] at HL
   obtain ⟨la, lc, rfl⟩ := HL.out.form
   obtain ⟨ln, hlnn⟩ : ∃ m, m = lk.length := ⟨_, rfl⟩
   rw [<- hlnn] at HL ⊢
   have Gc := hid hlk
   have GB := hid JD
   obtain ⟨c0, c1, c2, c3, c4⟩ := G9.out.five
   have Gf : lk.length <= 1000000 := by omega
   have Jq := hid hlnn
   clear hlk JD hck d0 hlnn
   go_wp2_with fail
   refine (nstep_any _ _ a rt lk GE c hc wo (H.out.below Y5.out) sm (HL.out) Gf).mono ?_
   rintro e w3 ⟨r, rfl, hown, hx3⟩
   obtain ⟨sx, hsx⟩ : ∃ z, z = (a.step lk c).map encZ := ⟨_, rfl⟩
   obtain ⟨sn, GR⟩ : ∃ z, z = (a.step lk c).length := ⟨_, rfl⟩
   rw [<- hsx, <- GR] at hown
   obtain ⟨ra, rc, rfl⟩ := ownsRow_form hown
   have R0 := hid hown
   have B6 := hid (G9.out.below hx3 G9.out.lt)
   have I6 := hid (GH.out _ _ _ _ HI.out hx3)
   have Ga := hx3.size
   have Jh : w.heap.size < wo.heap.size := G9.out.lt
   have X6 := hid hx3
   have GX := hid hsx
   have Gl := hid GR
   have JS : sn <= 401 := by
    have h1 := atN_len rt again (b.take (k + 1))
    rw [GB.out, atN_snoc, <- Gc.out] at h1
    cases again
    ·have h2 : (a.step lk c).length <= 401 := h1
     omega
    ·have h2 : (-1 :: a.step lk c).length <= 401 := h1
     rw [List.length_cons] at h2
     omega
   have Jl : IntKind.i64.wrap ((k : Int) + 1) = ((k + 1 : Nat) : Int) := by rw [IntWalk.i64_in _ (by omega)]; omega
   clear hown hx3 hsx GR G9 HI HL c0 c1 c2 c3 c4 d0'
   have JE : Hid (∀ W nv l', l' = atN a again (b.take (k + 1)) -> Below w3.heap.size w3 W -> IsSl encZ W nv l' -> (∀ B off n c, nv = .slice (some ⟨B, off, none⟩) n c -> wo.heap.size <= B /\ B < W.heap.size) ->
     Calls Tryz.prog g (#[.int .i64 (k + 1 : Nat), nv] ++ lb) W fun e w' => e = .returned (.tuple #[]) /\ ∃ F', I (k + 1 + 1) w' F' /\ (∀ x, F' x -> F0 x \/ w.heap.size < x) /\ Keeps (fun x => x < w.heap.size /\ ¬ F0 x) w w' /\ IsSl encZ w' nv (atN a again (b.take (k + 1))) /\ Blk w' w.heap.size #[.slice U0 M0 C0, .slice U1 M1 C1, .slice U2 M2 C2, .slice U3 M3 C3, .bool a.emp] 44) := hid fun W nv l' hl' hW hnv hno => by
    have hS := hW.size
    refine (JQ.out (k + 1) W F5 nv l' (by have := HN.out; omega) hl' (GH.out _ _ _ _ I6.out hW) hnv (fun B off n c e hF => by have := JG.out _ hF; have := (hno B off n c e).1; omega)).mono ?_
    rintro e w' ⟨rfl, F', h1, h2, h3⟩
    refine ⟨rfl, F', h1, fun x hx => ?_, ?_, ?_, ?_⟩
    ·rcases h2 x hx with h | h
     ·exact HF.out x h
     ·exact .inr (by omega)
    ·refine (HK.out.tr (Keeps.of_below X6.out fun x (hx : x < w.heap.size /\ ¬ F0 x) => by have := hx.1; omega)).tr ((Keeps.of_below hW fun x (hx : x < w.heap.size /\ ¬ F0 x) => by have := hx.1; omega).tr (h3.mono fun x (hx : x < w.heap.size /\ ¬ F0 x) => ⟨by have := hx.1; omega, fun h => ?_⟩))
     rcases HF.out x h with h | h
     ·exact hx.2 h
     ·have := hx.1; omega
    ·rw [<- hl']
     exact hnv.keeps h3 fun B off n c e => ⟨(hno B off n c e).2, fun h => by have := JG.out _ h; have := (hno B off n c e).1; omega⟩
    ·exact (B6.out.below hW B6.out.lt).keeps h3 ⟨by omega, fun h => by
      rcases HF.out _ h with h | h
      ·have := Gs.out _ h; omega
      ·omega⟩
   cases again with
   | false =>
    have hl' : a.step lk c = atN a false (b.take (k + 1)) := by rw [GB.out, atN_snoc, <- Gc.out]; rfl
    go_wp2_with fail
    refine (JE.out w3 _ (a.step lk c) hl' (Below.refl _ _) (ownsRow_sl (by rw [GX.out] at R0; exact R0.out) Gl.out) (fun B off n c e => by
     cases e
     exact R0.out.lt B rfl)).mono ?_
    rintro e w4 ⟨rfl, F', h1, h2, h3, h4, h5⟩
    have G1 := hid h1
    have G2 := hid h2
    have G3 := hid h3
    have G4 := hid h4
    have G5 := hid h5
    clear h1 h2 h3 h4 h5
    go_wp2
    go_roundw
    case rel => exact ⟨k + 1, F', by omega, by go_num, G1.out, G2.out, G3.out, G4.out, G5.out⟩
    case measure => simp [intOf]; omega
   | true =>
    have hl' : -1 :: a.step lk c = atN a true (b.take (k + 1)) := by rw [GB.out, atN_snoc, <- Gc.out]; rfl
    have O1 : Hid ((w3.alloc (.cells #[.int .i64 (-1)] 3)).ownsRow w3.heap.size 3 1 (.slice (some ⟨w3.heap.size, 0, none⟩) 1 1) 1 [.int .i64 (-1)]) := hid ⟨rfl, .inr ⟨w3.heap.size, 1, #[.int .i64 (-1)], rfl, Nat.le_refl _, World.alloc_heap_new _ _, Nat.le_refl _, by unfold maxLen; omega, rfl, rfl⟩⟩
    go_wp2_with (at_builtin; refine Hid.out ?_)
    refine hid ?_
    refine wpList_appendS rfl (.tmp 36) (.tmp 37) 37 rfl w3.heap.size 3 iI (.int .i64 0) 1 8 Tryz.underlying37 hiI hzI0 hzI1 hzI2 rfl (by decide) _ 1 _ rfl O1.out _ sn sx rfl (SrcOf.own (R0.out.alloc _)) (by rw [GX.out, List.length_map, Nat.mul_one]; exact Gl.out.symm) (fun u hu => by rw [GX.out] at hu; obtain ⟨y, _, rfl⟩ := List.mem_map.1 hu; rfl) (by unfold maxLen; omega) (by omega) (by simp) ?_
    intro v1 w4 hown1 hgrow1
    have XB : Hid (Below w3.heap.size w3 w4) := hid (((Below.refl _ w3).alloc (Nat.le_refl _) _).grown hgrow1 (by simp) (fun c e => by have e2 : some w3.heap.size = some c := e; injection e2 with e2; omega))
    have hN : 1 + sn = (-1 :: a.step lk c).length := by rw [List.length_cons, <- Gl.out]; omega
    have hX : [.int .i64 (-1)] ++ sx = (-1 :: a.step lk c).map encZ := by rw [GX.out]; rfl
    rw [hN, hX] at hown1
    have S1 : Hid (IsSl encZ w4 v1 (-1 :: a.step lk c)) := hid (ownsRow_sl hown1 rfl)
    have Gd := hid hown1.lt
    obtain ⟨sm9, hsm⟩ : ∃ z, z = (-1 :: a.step lk c).length := ⟨_, rfl⟩
    rw [<- hsm] at hown1
    obtain ⟨a6, c6, rfl⟩ := ownsRow_form hown1
    clear hown1 hgrow1 hN hX hsm O1
    go_wp2_with fail
    refine (JE.out w4 _ (-1 :: a.step lk c) hl' XB.out S1.out (fun B off n c e => by
     cases e
     have := Gd.out B rfl
     omega)).mono ?_
    rintro e w5 ⟨rfl, F', h1, h2, h3, h4, h5⟩
    have G1 := hid h1
    have G2 := hid h2
    have G3 := hid h3
    have G4 := hid h4
    have G5 := hid h5
    clear h1 h2 h3 h4 h5
    go_wp2
    go_roundw
    case rel => exact ⟨k + 1, F', by omega, by go_num, G1.out, G2.out, G3.out, G4.out, G5.out⟩
    case measure => simp [intOf]; omega
  ·obtain rfl : k = n := by omega
   have Jt : ¬ ((k : Int) < k) := by omega
   go_wp2
   go_ret
   exact ⟨rfl, F5, HI.out, fun x hx => (HF.out x hx).imp id fun h => Nat.le_of_lt h, HK.out⟩
theorem Blk.set1 {w : World} {b : Nat} {x : Value} {t : TypeId} (h : Blk w b #[x] t) (y : Value) : Blk (w.setCell ⟨b, 0, none⟩ y) b #[y] t := by
 have := h.set 0 y
 have e : (#[x] : Array Value).setIfInBounds 0 y = #[y] := rfl
 rwa [e] at this
theorem eg_run1 : ∀ args w, (callFunc 91 args).run Tryz.prog w = .ok (.enter 91 args) w := fun args w => by kernel_rfl
theorem eg_search1 : ∀ args w, (callFunc 56 args).run Tryz.prog w = .ok (.enter 56 args) w := fun args w => by kernel_rfl
theorem nrun1_any (k : Int) (p q : Option Addr) (n c m d B : Nat) (W : World) (hB : Blk W B #[.slice q m d] 37) :
  Calls Tryz.prog 91 #[.int .i64 k, .slice p n c, .pointer (some ⟨B, 0, none⟩)] W fun e w' => e = .returned (.tuple #[]) /\ Blk w' B #[.slice p n c] 37 /\ Keeps (· ≠ B) W w' := by
 have h0 : W.cell? ⟨B, 0, none⟩ = some (.slice q m d) := hB.cell 0
 have HB := hid hB
 have hf : W.frozen? ⟨B, 0, none⟩ = false := hB.frozen _
 clear hB
 go_enter Tryz.func91, Tryz.ntmps91
 go_wp2
 refine bodyPost_end (results_none rfl _ _ _) rfl ⟨rfl, ?_, (Keeps.refl _ W).setCell (p := ⟨B, 0, none⟩) (fun h => h rfl) _⟩
 exact HB.out.set1 _
def RunI (a : NF) (b : List Nat) (w0 : World) (B k : Nat) (W : World) (F : Nat -> Prop) : Prop :=
 Below w0.heap.size w0 W /\ (∀ x, F x ↔ x = B) /\ ∃ q m d, Blk W B #[.slice q m d] 37 /\ (k = 0 \/ IsSl encZ W (.slice q m d) (atN a false (b.take (k - 1))))
theorem nfRun_any (v bv : Value) (a : NF) (rt : Nt a) (sm : SmN a) (b : List Nat) (hb : ∀ c ∈ b, c < 256) (hbn : b.length <= 4096) (w : World) (h : IsNf w v a) (hbv : IsSl encB w bv b) :
  Calls Tryz.prog 53 #[v, bv] w fun e w' => ∃ u, e = .returned (.tuple #[u, .int .i64 0]) /\ IsSl encZ w' u (atN a false b) /\ Below w.heap.size w w' := by
 have CR : Hid (∀ B V, w.heap.size <= B -> Below w.heap.size w V -> Blk V B #[.slice none 0 0] 37 -> Calls Tryz.prog 55 #[v, bv, .bool false, .func (.func 91) #[] #[.pointer (some ⟨B, 0, none⟩)]] V fun e w' => e = .returned (.int .i64 0) /\ ∃ q m d, Blk w' B #[.slice q m d] 37 /\ IsSl encZ w' (.slice q m d) (atN a false b) /\ Below w.heap.size w w') := hid fun B V hB hV J5 => by
  refine (nfaRun_any 91 #[.pointer (some ⟨B, 0, none⟩)] (RunI a b w B) v bv a rt sm false b hb hbn w V h hbv eg_run1 (· = B) ⟨hV, fun _ => Iff.rfl, _, _, _, J5, .inl rfl⟩ (fun k W F hI => ?_) (fun k W W' F hI hk => ?_) (fun k W F u l hk hl hI hu hno => ?_)).mono ?_
  ·obtain ⟨h1, h2, q, m, d, h3, h4⟩ := hI
   exact ⟨h1, fun x hx => by rw [(h2 x).1 hx]; exact h3.lt⟩
  ·obtain ⟨h1, h2, q, m, d, h3, h4⟩ := hI
   exact ⟨h1.trans (hk.mono h1.size), h2, q, m, d, h3.below hk h3.lt, h4.imp id fun h => h.below hk⟩
  ·obtain ⟨h1, h2, q, m, d, h3, h4⟩ := hI
   obtain ⟨p, c, rfl⟩ := hu.form
   refine (nrun1_any k p q l.length c m d B W h3).mono ?_
   rintro e w' ⟨rfl, g1, g2⟩
   refine ⟨rfl, (· = B), ⟨?_, fun _ => Iff.rfl, p, _, c, g1, .inr ?_⟩, fun x hx => .inl ((h2 x).2 hx), g2.mono fun x (hx : x < W.heap.size /\ ¬ F x) e => hx.2 ((h2 x).2 e)⟩
   ·exact h1.trans (g2.mono fun x (hx : x < w.heap.size) => by show x ≠ B; omega : Keeps (· < w.heap.size) W w').below
   ·rw [Nat.add_sub_cancel, <- hl]
    exact hu.keeps g2 fun B' off n c e => fun e2 => hno B' off n c e ((h2 B').2 e2)
  ·rintro e w' ⟨rfl, F, ⟨h1, h2, q, m, d, h3, h4⟩, _, _⟩
   refine ⟨rfl, q, m, d, h3, ?_, h1⟩
   rcases h4 with h4 | h4
   ·omega
   ·rw [Nat.add_sub_cancel, List.take_length] at h4
    exact h4
 obtain ⟨a0, c0, a1, n1, c1, a2, n2, c2, a3, n3, c3, rfl⟩ := h.form5
 obtain ⟨ba, bc, rfl⟩ := hbv.form
 generalize a.sets.length = n0 at *
 generalize b.length = m at *
 clear h hbv rt sm hb hbn
 go_enter Tryz.func53, Tryz.ntmps53
 go_wp2_with fail
 refine calls_named ?_
 intro V hV
 have BB : Hid (Blk V (w.heap.size + 1) #[.slice none 0 0] 37) := hid (by rw [hV]; simpa using Blk.new (w.alloc (.cells #[.slice a0 n0 c0, .slice a1 n1 c1, .slice a2 n2 c2, .slice a3 n3 c3, .bool a.emp] 44)) _ _)
 have X1 : Hid (Below w.heap.size w V) := hid (by rw [hV]; exact (((Ext.refl w).alloc _).alloc _).below)
 clear hV
 refine (CR.out _ V (by omega) X1.out BB.out).mono ?_
 rintro e w1 ⟨rfl, q, m2, d, h3, h4, h5⟩
 have H3 := hid h3
 have H4 := hid h4
 have H5 := hid h5
 have e0 : w1.cell? ⟨w.heap.size + 1, 0, none⟩ = some (.slice q m2 d) := h3.cell 0
 clear h3 h4 h5 BB X1
 go_wp2
 refine bodyPost_ret (v := .tuple #[.slice q m2 d, .int .i64 0]) (by simp [results, Tryz.results53, go_sem]) rfl ⟨_, rfl, H4.out, H5.out⟩
theorem nfMatches_any (v bv : Value) (a : NF) (rt : Nt a) (sm : SmN a) (b : List Nat) (hb : ∀ c ∈ b, c < 256) (hbn : b.length <= 4096) (w : World) (h : IsNf w v a) (hbv : IsSl encB w bv b) :
  Calls Tryz.prog 22 #[v, bv] w fun e w' => e = .returned (.tuple #[.bool (a.acc (atN a false b)), .int .i64 0]) /\ Below w.heap.size w w' := by
 have CR : Hid (∀ V, Below w.heap.size w V -> Calls Tryz.prog 53 #[v, bv] V fun e w' => ∃ u, e = .returned (.tuple #[u, .int .i64 0]) /\ IsSl encZ w' u (atN a false b) /\ Below V.heap.size V w') := hid fun V hV => nfRun_any v bv a rt sm b hb hbn V (h.below hV) (hbv.below hV)
 have CA : Hid (∀ V u, Below w.heap.size w V -> IsSl encZ V u (atN a false b) -> Calls Tryz.prog 54 #[v, u] V fun e w' => e = .returned (.bool (a.acc (atN a false b))) /\ Below V.heap.size V w') := hid fun V u hV hu => naccepts_any v u a rt _ (atN_st a false b) V (h.below hV) sm hu (by have := atN_len rt false b; omega)
 obtain ⟨a0, c0, a1, n1, c1, a2, n2, c2, a3, n3, c3, rfl⟩ := h.form5
 obtain ⟨ba, bc, rfl⟩ := hbv.form
 generalize a.sets.length = n0 at *
 generalize a.acc (atN a false b) = R at *
 generalize atN a false b = L at *
 generalize b.length = m at *
 clear h hbv rt sm hb hbn
 go_enter Tryz.func22, Tryz.ntmps22
 go_wp2_with fail
 refine calls_named ?_
 intro V hV
 have B1 : Hid (Blk V w.heap.size #[.slice a0 n0 c0, .slice a1 n1 c1, .slice a2 n2 c2, .slice a3 n3 c3, .bool a.emp] 44) := hid (by rw [hV]; exact Blk.new w _ _)
 have X1 : Hid (Below w.heap.size w V) := hid (by rw [hV]; exact ((Ext.refl w).alloc _).below)
 clear hV
 refine (CR.out V X1.out).mono ?_
 rintro e w1 ⟨u, rfl, hu, hx⟩
 have B2 := hid (B1.out.below hx B1.out.lt)
 have X2 := hid (X1.out.trans (hx.mono X1.out.size))
 have HU := hid hu
 obtain ⟨ua, uc, rfl⟩ := hu.form
 clear hx B1 X1 hu
 obtain ⟨i0, i1, i2, i3, i4⟩ := B2.out.five
 go_wp2_with fail
 refine (CA.out w1 _ X2.out HU.out).mono ?_
 rintro e w2 ⟨rfl, hx⟩
 have X3 := hid (X2.out.trans (hx.mono X2.out.size))
 clear hx i0 i1 i2 i3 i4
 go_wp2
 refine bodyPost_ret (v := .tuple #[.bool R, .int .i64 0]) (by simp [results, Tryz.results22, go_sem]) rfl ⟨rfl, X3.out⟩
def hitsN (a : NF) (b : List Nat) (k : Nat) : List Int := ((List.range k).filter fun i => a.acc (atN a true (b.take i))).map Int.ofNat
theorem hitsN_succ (a : NF) (b : List Nat) (k : Nat) : hitsN a b (k + 1) = if a.acc (atN a true (b.take k)) then hitsN a b k ++ [(k : Int)] else hitsN a b k := by
 unfold hitsN
 rw [List.range_succ, List.filter_append, List.map_append]
 by_cases h : a.acc (atN a true (b.take k)) = true <;> simp [h]
theorem hitsN_len (a : NF) (b : List Nat) (k : Nat) : (hitsN a b k).length <= k := by
 unfold hitsN
 rw [List.length_map]
 exact Nat.le_trans (List.length_filter_le _ _) (by rw [List.length_range]; exact Nat.le_refl _)
def SearchO (B base : Nat) (W : World) (rv : Value) (ys : List Value) (w' : World) : Prop :=
 ∃ rv' n', Blk w' B #[rv'] 37 /\ w'.ownsRow base 3 1 rv' n' ys /\ (rv'.ownBlock = rv.ownBlock \/ ∃ x, rv'.ownBlock = some x /\ W.heap.size <= x) /\ Keeps (fun x => x < W.heap.size /\ x ≠ B /\ rv.ownBlock ≠ some x) W w'
theorem nsearch1_any (k : Nat) (u : Value) (a : NF) (v0 v1 v2 v3 : Value) (rt : Nt a) (sm : SmN a) (l : List Int) (GE : a.st l = true) (A B base n : Nat) (rv : Value) (xs : List Value) (hn : n <= 5000) (W : World) (hA : Blk W A #[v0, v1, v2, v3, .bool a.emp] 44) (hnf : IsNf W (.agg #[v0, v1, v2, v3, .bool a.emp]) a) (hu : IsSl encZ W u l)
  (hB : Blk W B #[rv] 37) (ho : W.ownsRow base 3 1 rv n xs) (hBb : B < base) (hbW : base <= W.heap.size) :
  Calls Tryz.prog 56 #[.int .i64 k, u, .pointer (some ⟨A, 0, none⟩), .pointer (some ⟨B, 0, none⟩)] W fun e w' => e = .returned (.tuple #[]) /\ SearchO B base W rv (if a.acc l then xs ++ [.int .i64 k] else xs) w' := by
 obtain ⟨iI, hiI, hzI0, hzI1, hzI2⟩ := info_parts Tryz.infoI
 have CA : Hid (∀ V, Below W.heap.size W V -> Calls Tryz.prog 54 #[.agg #[v0, v1, v2, v3, .bool a.emp], u] V fun e w' => e = .returned (.bool (a.acc l)) /\ Below V.heap.size V w') := hid fun V hV => naccepts_any _ u a rt l GE V (hnf.below hV) sm (hu.below hV) (by have := st_len rt GE; omega)
 obtain ⟨a0, n0, c0, a1, n1, c1, a2, n2, c2, a3, n3, c3, rfl, rfl, rfl, rfl⟩ := hnf.form4
 obtain ⟨ua, uc, rfl⟩ := hu.form
 obtain ⟨ra, rc, rfl⟩ := ownsRow_form ho
 obtain ⟨R, hR⟩ : ∃ R, R = a.acc l := ⟨_, rfl⟩
 rw [<- hR] at CA ⊢
 generalize l.length = m at *
 have HB := hid hB
 have HO := hid ho
 obtain ⟨i0, i1, i2, i3, i4⟩ := hA.five
 clear hnf hu GE rt sm hB ho hA hR
 go_enter Tryz.func56, Tryz.ntmps56
 go_wp2_with fail
 refine (CA.out W (Below.refl _ _)).mono ?_
 rintro e w1 ⟨rfl, hx⟩
 have X1 := hid hx
 have B1 := hid (HB.out.below hx HB.out.lt)
 have O1 := hid (ownsRow_below HO.out hx)
 have Jf := hx.size
 have b0 : w1.cell? ⟨B, 0, none⟩ = some (.slice ra n rc) := B1.out.cell 0
 have J5 := HB.out.lt
 clear hx i0 i1 i2 i3 i4 CA
 cases R with
 | false =>
  go_wp2
  refine bodyPost_end (results_none rfl _ _ _) rfl ⟨rfl, _, _, B1.out, O1.out, .inl rfl, Keeps.of_below X1.out fun x (hx : x < W.heap.size /\ _) => hx.1⟩
 | true =>
  go_wp2_with (at_builtin; refine Hid.out ?_)
  refine hid ?_
  refine wpList_append_own_at _ rfl (.tmp 9) (.tmp 11) 37 rfl base 3 iI (.int .i64 0) 1 8 Tryz.underlying37 hiI hzI0 hzI1 hzI2 rfl (by decide) _ _ _ rfl (O1.out.alloc _) ⟨w1.heap.size, 0, none⟩ 1 1 [.int .i64 k] rfl rfl (cell_one _ _ _) (by simp [Value.oneCell']) (by unfold maxLen; omega) (by omega) (by simp; omega) ?_
  intro v' w2 hown' hgrow hh hat
  have JK := hid hown'
  have HG := hid hgrow
  have HT := hid hat
  obtain ⟨pa3, pc3, rfl⟩ := ownsRow_form hown'
  clear hown' hgrow hh hat
  have Jk := HG.out.size
  have e2 : (w1.alloc (.cells #[.int .i64 k] 3)).heap.size = w1.heap.size + 1 := by simp
  have g1 : Below w1.heap.size w1 (w1.alloc (.cells #[.int .i64 k] 3)) := ((Ext.refl w1).alloc _).below
  have Gu := HO.out.lt
  have JP : Keeps (fun x => x < W.heap.size /\ x ≠ B /\ (Value.slice ra n rc).ownBlock ≠ some x) W w2 := ((Keeps.of_below X1.out fun x (hx : x < W.heap.size /\ _) => hx.1).tr (Keeps.of_below g1 fun x (hx : x < W.heap.size /\ _) => Nat.lt_of_lt_of_le hx.1 Jf)).tr (Keeps.of_grown HG.out fun x (hx : x < W.heap.size /\ x ≠ B /\ (Value.slice ra n rc).ownBlock ≠ some x) => ⟨by have := hx.1; omega, fun e => hx.2.2 e.symm⟩)
  have GW : Blk w2 B #[.slice ra n rc] 37 := (B1.out.below g1 B1.out.lt).grown HG.out fun e => by have := (Gu B e.symm).1; omega
  have b2 : w2.cell? ⟨B, 0, none⟩ = some (.slice ra n rc) := GW.cell 0
  have b3 : w2.frozen? ⟨B, 0, none⟩ = false := GW.frozen _
  have GD := hid GW
  have JV := hid JP
  clear GW JP g1 Gu
  go_wp2
  refine bodyPost_end (results_none rfl _ _ _) rfl ?_
  refine ⟨rfl, .slice pa3 (n + 1) pc3, n + 1, GD.out.set1 _, ownsRow_keeps JK.out ((Keeps.refl (fun x => x ≠ B) w2).setCell (p := ⟨B, 0, none⟩) (fun h => h rfl) _) (fun x e => ?_), ?_, JV.out.setCell (p := ⟨B, 0, none⟩) (fun h => h.2.1 rfl) _⟩
  ·have := (JK.out.lt x e).1
   show x ≠ B
   omega
  ·rcases HT.out with e | e
   ·exact .inl e
   ·exact .inr ⟨_, e, by omega⟩
def SearchI (a : NF) (b : List Nat) (w0 : World) (v0 v1 v2 v3 : Value) (A B base k : Nat) (W : World) (F : Nat -> Prop) : Prop :=
 Below w0.heap.size w0 W /\ base <= W.heap.size /\ Blk W A #[v0, v1, v2, v3, .bool a.emp] 44 /\ ∃ rv n, Blk W B #[rv] 37 /\ W.ownsRow base 3 1 rv n ((hitsN a b k).map encZ) /\ ∀ x, F x ↔ (x = B \/ rv.ownBlock = some x)
theorem nfSearch_any (v bv : Value) (a : NF) (rt : Nt a) (sm : SmN a) (b : List Nat) (hb : ∀ c ∈ b, c < 256) (hbn : b.length <= 4096) (w : World) (h : IsNf w v a) (hbv : IsSl encB w bv b) :
  Calls Tryz.prog 23 #[v, bv] w fun e w' => ∃ u, e = .returned (.tuple #[u, .int .i64 0]) /\ IsSl encZ w' u (hitsN a b (b.length + 1)) /\ Below w.heap.size w w' := by
 have h' := h
 obtain ⟨v0, v1, v2, v3, rfl, _⟩ := h'
 have CR : Hid (∀ V, Below w.heap.size w V -> V.heap.size = w.heap.size + 2 -> Blk V w.heap.size #[v0, v1, v2, v3, .bool a.emp] 44 -> Blk V (w.heap.size + 1) #[.slice none 0 0] 37 -> Calls Tryz.prog 55 #[.agg #[v0, v1, v2, v3, .bool a.emp], bv, .bool true, .func (.func 56) #[] #[.pointer (some ⟨w.heap.size, 0, none⟩), .pointer (some ⟨w.heap.size + 1, 0, none⟩)]] V fun e w' => e = .returned (.int .i64 0) /\ ∃ q m d, Blk w' (w.heap.size + 1) #[.slice q m d] 37 /\ IsSl encZ w' (.slice q m d) (hitsN a b (b.length + 1)) /\ Below w.heap.size w w') := hid fun V hV hVs hA hB => by
  refine (nfaRun_any 56 #[.pointer (some ⟨w.heap.size, 0, none⟩), .pointer (some ⟨w.heap.size + 1, 0, none⟩)] (SearchI a b w v0 v1 v2 v3 w.heap.size (w.heap.size + 1) (w.heap.size + 2)) _ bv a rt sm true b hb hbn w V h hbv eg_search1 (· = w.heap.size + 1) ⟨hV, by omega, hA, .slice none 0 0, 0, hB, World.ownsRow_nil _ _ _ _, fun x => ⟨.inl, fun h => h.elim id fun e => by cases e⟩⟩ (fun k W F hI => ?_) (fun k W W' F hI hk => ?_) (fun k W F u l hk hl hI hu hno => ?_)).mono ?_
  ·obtain ⟨h1, h2, h3, rv, n, h4, h5, h6⟩ := hI
   refine ⟨h1, fun x hx => ?_⟩
   rcases (h6 x).1 hx with rfl | e
   ·exact h4.lt
   ·exact (h5.lt x e).2
  ·obtain ⟨h1, h2, h3, rv, n, h4, h5, h6⟩ := hI
   exact ⟨h1.trans (hk.mono h1.size), Nat.le_trans h2 hk.size, h3.below hk h3.lt, rv, n, h4.below hk h4.lt, ownsRow_below h5 hk, h6⟩
  ·obtain ⟨h1, h2, h3, rv, n, h4, h5, h6⟩ := hI
   have hn : n = (hitsN a b k).length := by
    have := h5.1
    rw [List.length_map, Nat.mul_one] at this
    exact this.symm
   refine (nsearch1_any k u a v0 v1 v2 v3 rt sm l (by rw [hl]; exact atN_st a true _) w.heap.size (w.heap.size + 1) (w.heap.size + 2) n rv _ (by have := hitsN_len a b k; omega) W h3 (h.below h1) hu h4 h5 (by omega) h2).mono ?_
   rintro e w' ⟨rfl, rv', n', g1, g2, g3, g4⟩
   have JH : Keeps (· < w.heap.size + 1) W w' := g4.mono fun x (hx : x < w.heap.size + 1) => ⟨by omega, by omega, fun e => by have := (h5.lt x e).1; omega⟩
   refine ⟨rfl, fun x => x = w.heap.size + 1 \/ rv'.ownBlock = some x, ⟨h1.trans (JH.mono fun x (hx : x < w.heap.size) => by show x < _; omega : Keeps (· < w.heap.size) W w').below, Nat.le_trans h2 g4.size, h3.keeps JH (by show w.heap.size < _; omega), rv', n', g1, ?_, fun _ => Iff.rfl⟩, fun x hx => ?_, g4.mono fun x (hx : x < W.heap.size /\ ¬ F x) => ⟨hx.1, fun e => hx.2 ((h6 x).2 (.inl e)), fun e => hx.2 ((h6 x).2 (.inr e))⟩⟩
   ·rw [hitsN_succ, <- hl]
    by_cases hacc : a.acc l = true
    ·rw [if_pos hacc] at g2 ⊢
     rw [List.map_append]
     exact g2
    ·rw [if_neg hacc] at g2 ⊢
     exact g2
   ·rcases hx with rfl | e
    ·exact .inl ((h6 _).2 (.inl rfl))
    ·rcases g3 with g3 | ⟨y, e2, hy⟩
     ·exact .inl ((h6 x).2 (.inr (by rw [<- g3, e])))
     ·rw [e2] at e
      cases e
      exact .inr hy
  ·rintro e w' ⟨rfl, F, ⟨h1, h2, h3, rv, n, h4, h5, h6⟩, _, _⟩
   obtain ⟨q, d, rfl⟩ := ownsRow_form h5
   have hn := h5.1
   rw [List.length_map, Nat.mul_one] at hn
   exact ⟨rfl, q, n, d, h4, ownsRow_sl h5 hn.symm, h1⟩
 obtain ⟨a0, n0, c0, a1, n1, c1, a2, n2, c2, a3, n3, c3, rfl, rfl, rfl, rfl⟩ := h.form4
 obtain ⟨ba, bc, rfl⟩ := hbv.form
 generalize hitsN a b (b.length + 1) = L at *
 generalize b.length = m at *
 clear h hbv rt sm hb hbn
 go_enter Tryz.func23, Tryz.ntmps23
 go_wp2_with fail
 refine calls_named ?_
 intro V hV
 have BA : Hid (Blk V w.heap.size #[.slice a0 n0 c0, .slice a1 n1 c1, .slice a2 n2 c2, .slice a3 n3 c3, .bool a.emp] 44) := hid (by rw [hV]; exact (Blk.new w _ _).alloc _)
 have BB : Hid (Blk V (w.heap.size + 1) #[.slice none 0 0] 37) := hid (by rw [hV]; simpa using Blk.new (w.alloc (.cells #[.slice a0 n0 c0, .slice a1 n1 c1, .slice a2 n2 c2, .slice a3 n3 c3, .bool a.emp] 44)) _ _)
 have X1 : Hid (Below w.heap.size w V) := hid (by rw [hV]; exact (((Ext.refl w).alloc _).alloc _).below)
 have S1 : Hid (V.heap.size = w.heap.size + 2) := hid (by rw [hV]; simp)
 clear hV
 refine (CR.out V X1.out S1.out BA.out BB.out).mono ?_
 rintro e w1 ⟨rfl, q, m2, d, h3, h4, h5⟩
 have H3 := hid h3
 have H4 := hid h4
 have H5 := hid h5
 have e0 : w1.cell? ⟨w.heap.size + 1, 0, none⟩ = some (.slice q m2 d) := h3.cell 0
 clear h3 h4 h5 BB X1
 go_wp2
 refine bodyPost_ret (v := .tuple #[.slice q m2 d, .int .i64 0]) (by simp [results, Tryz.results23, go_sem]) rfl ⟨_, rfl, H4.out, H5.out⟩
def wantL (P : List PT) (b : List Nat) (k : Nat) : List Int := ((P.take k).filter fun x => x.nf.acc (x.at b)).map PT.mark
theorem at_atN (x : PT) (b : List Nat) : x.at b = atN x.nf (!x.beg) b := by
 unfold atN PT.at
 congr 1
 funext l c
 unfold PT.step
 rw [Bool.not_not]
theorem hitsN_has (a : NF) (b : List Nat) : (hitsN a b (b.length + 1)).contains (b.length : Int) = a.acc (atN a true b) := by
 rw [Bool.eq_iff_iff, List.contains_iff_mem]
 unfold hitsN
 rw [List.mem_map]
 constructor
 ·rintro ⟨i, hi, e⟩
  obtain ⟨_, h2⟩ := List.mem_filter.1 hi
  have e2 : (i : Int) = (b.length : Int) := e
  obtain rfl : i = b.length := by omega
  rwa [List.take_length] at h2
 ·intro h
  exact ⟨b.length, List.mem_filter.2 ⟨List.mem_range.2 (by omega), by rw [List.take_length]; exact h⟩, rfl⟩
theorem wantL_snoc {P : List PT} {b : List Nat} {k : Nat} {x : PT} (h : P[k]? = some x) : wantL P b (k + 1) = if x.nf.acc (x.at b) then wantL P b k ++ [x.mark] else wantL P b k := by
 unfold wantL
 rw [List.take_add_one, h]
 by_cases e : x.nf.acc (x.at b) = true <;> simp [e]
theorem wantL_len (P : List PT) (b : List Nat) (k : Nat) : (wantL P b k).length <= P.length := by
 unfold wantL
 rw [List.length_map]
 refine Nat.le_trans (List.length_filter_le _ _) ?_
 rw [List.length_take]
 omega
theorem dfaMarksLaw_any (v bv : Value) (l : List (List (Nat × Nat × Nat) × Bool × Nat)) (hl9 : l.length <= 1000000000000000) (b : List Nat) (hb : ∀ c ∈ b, c < 256) (w : World) (h : IsS18 w v l) (hbv : IsSl encB w bv b) (hT : ∀ W, Below w.heap.size w W -> TabW W) :
  Calls Tryz.prog 6 #[v, bv] w fun e w' => e = .returned (.bool true) /\ Below w.heap.size w w' := by
 have HT := hid hT
 have PK := parts18_ps h
 have CM : Hid (∀ W, Below w.heap.size w W -> Calls Tryz.prog 10 #[v] W fun e w' => ∃ u, e = .returned (.tuple #[u, .bool true]) /\ OwnPts W.heap.size w' u (parts18 l) /\ Below W.heap.size W w') := hid fun W hW => made18_any v l hl9 W (h.below hW)
 obtain ⟨sa, sc, rfl⟩ := h.form
 have Gj : (parts18 l).length <= 4 := by rw [parts18_len]; omega
 obtain ⟨P, hP⟩ : ∃ P, P = parts18 l := ⟨_, rfl⟩
 rw [<- hP] at PK CM Gj
 generalize l.length = sn at *
 clear h hP hT
 obtain ⟨d, code, hdc⟩ : ∃ d code, ofE P 300 = (d, code) := ⟨_, _, rfl⟩
 have J6 := ofE_two PK (f := 300) (by decide) (by decide)
 rw [hdc] at J6
 obtain ⟨n0, hn0⟩ : ∃ n, n = d.cl.length := ⟨_, rfl⟩
 obtain ⟨n1, hn1⟩ : ∃ n, n = d.nx.length := ⟨_, rfl⟩
 obtain ⟨n2, hn2⟩ : ∃ n, n = d.mr.length := ⟨_, rfl⟩
 have TT : Hid (∀ A, Below w.heap.size w A -> ∀ V, Below A.heap.size A V -> TabW V) := hid fun A hA V hV => HT.out V (hA.trans (hV.mono hA.size))
 have CO : Hid (∀ W u, Below w.heap.size w W -> IsPts W u P -> Calls Tryz.prog 11 #[u, .int .i64 300] W (OfAt n0 n1 n2 code d W)) := hid fun W u hW hu => of_named PK hdc hn0 hn1 hn2 W u hu (TT.out W hW)
 have Jg := hid PK
 have JF := hid hdc
 have Jp := hid hn0
 have Ji := hid hn1
 have Jn := hid hn2
 obtain ⟨pm, hpm⟩ : ∃ m, m = P.length := ⟨_, rfl⟩
 have JU : pm <= 4 := by rw [hpm]; exact Gj
 have GL := hid hpm
 have J8 := hid hb
 have GO := hid hbv
 obtain ⟨ba, bc, rfl⟩ := hbv.form
 obtain ⟨bn, hbn⟩ : ∃ n, n = b.length := ⟨_, rfl⟩
 obtain ⟨bm, hbm⟩ : ∃ m, m = min bn 40 := ⟨_, rfl⟩
 have Jd : min (bn : Int) 40 = (bm : Int) := by omega
 have GS : bm <= bn := by omega
 have Gw : bm <= 40 := by omega
 rw [<- hbn] at GO hbv ⊢
 have JZ : bm <= bc := Nat.le_trans GS hbv.cap
 obtain ⟨bb, hbb⟩ : ∃ x, x = b.take bm := ⟨_, rfl⟩
 have GB : Hid (∀ W, Below w.heap.size w W -> IsSl encB W (.slice ba bm bc) bb) := hid fun W hW => by rw [hbb]; exact ((GO.out.below hW).take bm GS)
 have GD : Hid (∀ c ∈ bb, c < 256) := hid fun c hc => by rw [hbb] at hc; exact J8.out c (List.mem_of_mem_take hc)
 have GU : Hid (bm = bb.length) := hid (by rw [hbb, List.length_take]; omega)
 clear PK hdc hn0 hn1 hn2 hpm Gj hb hbv hbn hbm hbb J8 GO
 go_enter Tryz.func6, Tryz.ntmps6
 go_wp2_with fail
 refine (awake18_any w HT.out).mono ?_
 rintro e w1 ⟨rfl, hx⟩
 have X1 := hid hx
 clear hx
 go_wp2_with fail
 refine (CM.out w1 X1.out).mono ?_
 rintro e w2 ⟨u, rfl, ho, hx⟩
 obtain ⟨pa, pc, rfl⟩ := ho.form
 have OP := hid (show OwnPts w1.heap.size w2 (.slice pa pm pc) P by rw [GL.out]; exact ho)
 have X2 := hid (X1.out.trans (hx.mono X1.out.size))
 rw [<- GL.out]
 clear ho hx CM
 go_wp2_with fail
 refine (CO.out w2 _ X2.out OP.out.pts).mono ?_
 rintro e w3 ⟨a0, c0, a1, c1, a2, c2, rfl, hd, hx⟩
 have X3 := hid (X2.out.trans (hx.mono X2.out.size))
 have OD := hid hd
 have JO := hid (OP.out.below hx)
 have JX := X1.out.size
 have Jb := hx.size
 clear hd hx CO
 rcases J6 with h0 | h0
 case inr =>
  replace h0 : code = 181 := h0
  subst h0
  go_wp2
  go_ret
  exact ⟨rfl, X3.out.trans ((((Ext.refl _).alloc _).below).mono X3.out.size)⟩
 case inl =>
 replace h0 : code = 0 := h0
 subst h0
 have RT : Hid (Rt d) := hid (ofE_right JF.out)
 have SD : Hid (Sm d) := hid RT.out.sm8
 go_upto_region 5 with fail
 refine wp_named ?_
 intro V hV
 have BD : Hid (Blk V w3.heap.size #[.slice a0 n0 c0, .slice a1 n1 c1, .slice a2 n2 c2] 31) := hid (by rw [hV]; exact Blk.new w3 _ _)
 have XV : Hid (Below w3.heap.size w3 V) := hid (by rw [hV]; exact ((Ext.refl w3).alloc _).below)
 clear hV
 have J7 := hid (OD.out.below XV.out)
 have J3 := hid (JO.out.below XV.out)
 have X4 := hid (X3.out.trans (XV.out.mono X3.out.size))
 clear OD OP JO XV X3
 obtain ⟨b0, b1, b2⟩ := OwnDf.mk3 BD.out
 go_wp2_with fail
 refine (dfaMarks_any _ _ d RT.out SD.out bb GD.out (by rw [<- GU.out]; omega) V J7.out.df (GB.out V X4.out)).mono ?_
 rintro e w4 ⟨um, rfl, ho, hx⟩
 obtain ⟨mg, hmg⟩ : ∃ m, m = d.mr.getD (runD d 0 bb) [] := ⟨_, rfl⟩
 rw [<- hmg] at ho
 obtain ⟨gn, hgn⟩ : ∃ n, n = mg.length := ⟨_, rfl⟩
 rw [<- hgn] at ho
 obtain ⟨ga, gc, rfl⟩ := ownsRow_form ho
 have Gv := hid ho
 have J4 := hid hmg
 have Gr := hid hgn
 have X5 := hid (X4.out.trans (hx.mono X4.out.size))
 have JN := hid (J7.out.below hx)
 have Gy := hid (J3.out.below hx)
 have B5 := hid (BD.out.below hx BD.out.lt)
 clear ho hmg hgn hx b0 b1 b2 BD J3
 obtain ⟨b0, b1, b2⟩ := OwnDf.mk3 B5.out
 go_wp2_with fail
 refine (right_any _ d w4 JN.out.df SD.out).mono ?_
 rintro e w5 ⟨rfl, hx⟩
 rw [(right_iff d).2 RT.out]
 have X6 := hid (X5.out.trans (hx.mono X5.out.size))
 have Je := hid (Gy.out.below hx)
 have GG := hid (ownsRow_below Gv.out hx)
 clear hx b0 b1 b2 B5 Gy JN Gv
 have JI : Hid (∀ x ∈ P, Nt x.nf /\ SmN x.nf /\ 0 <= x.mark /\ x.mark <= 255) := hid Jg.out.ok
 go_wp2
 go_loopw [10, 60] (fun pv iv wr => ∃ k n : Nat, k <= pm /\ iv = .int .i64 k /\ wr.ownsRow w5.heap.size 3 1 pv n ((wantL P bb k).map encZ) /\ Below w5.heap.size w5 wr) (fun _ iv _ => pm - (intOf iv).toNat)
 case atStart => exact ⟨0, 0, Nat.zero_le _, rfl, World.ownsRow_nil _ _ _ _, Below.refl _ _⟩
 case round =>
  obtain ⟨k, rn, hk, rfl, hrow, hx⟩ := hrel
  obtain ⟨wo, rfl⟩ : ∃ wo : World, wo = wr := ⟨_, rfl⟩
  have GP : rn = (wantL P bb k).length := by have := hrow.1; simpa using this.symm
  have Jj : rn <= 4 := by have := wantL_len P bb k; rw [<- GL.out] at this; omega
  obtain ⟨ra, rc, rfl⟩ := ownsRow_form hrow
  have G6 := hid hrow
  have HX := hid hx
  have JW := hid GP
  have X7 := hid (X6.out.trans (hx.mono X6.out.size))
  have Jm := hx.size
  clear hrow hx GP
  by_cases hlt : k < pm
  ·have J9 : (k : Int) < (pm : Int) := by omega
   obtain ⟨x, hxk⟩ : ∃ x, P[k]? = some x := ⟨_, List.getElem?_eq_getElem (by have := GL.out; omega)⟩
   obtain ⟨g, off, y0, y1, y2, y3, rfl, hg, hnf, q0, q1, q2, q3, q4, q5, q6⟩ := (Je.out.pts.below HX.out).elem hxk
   obtain ⟨nt, sm, mk0, mk1⟩ := JI.out x (List.mem_of_getElem? hxk)
   obtain ⟨U0, M0, C0, U1, M1, C1, U2, M2, C2, U3, M3, C3, rfl, rfl, rfl, rfl⟩ := hnf.form4
   obtain ⟨A, hA⟩ : ∃ A, A = x.nf.acc (x.at bb) := ⟨_, rfl⟩
   have GF := wantL_snoc (b := bb) hxk
   rw [<- hA] at GF
   have NT := hid nt
   have SX := hid sm
   have JC := hid hnf
   have HA := hid hA
   have Gx := hid GF
   clear nt sm hnf hA GF hxk
   try simp only [Nat.add_zero] at q0
   go_upto_region 15 with fail
   refine wp_named ?_
   intro V6 hV6
   have BX : Hid (Blk V6 wo.heap.size #[.slice U0 M0 C0, .slice U1 M1 C1, .slice U2 M2 C2, .slice U3 M3 C3, .bool x.nf.emp, .bool x.beg, .int .i64 x.mark] 46) := hid (by rw [hV6]; exact Blk.new wo _ _)
   have GM : Hid (Below wo.heap.size wo V6) := hid (by rw [hV6]; exact ((Ext.refl wo).alloc _).below)
   clear hV6 q0 q1 q2 q3 q4 q5 q6
   have X8 := hid (X7.out.trans (GM.out.mono X7.out.size))
   have Gp := hid (JC.out.below GM.out)
   have GQ := hid (ownsRow_below G6.out GM.out)
   have GZ := hid (HX.out.trans (GM.out.mono HX.out.size))
   clear JC G6 GM
   obtain ⟨r0, r1, r2, r3, r4, r5, r6⟩ := BX.out.seven
   go_wp2_with fail
   refine (nfMatches_any _ _ x.nf NT.out SX.out bb GD.out (by rw [<- GU.out]; omega) V6 Gp.out (GB.out V6 X8.out)).mono ?_
   rintro e w6 ⟨rfl, hx⟩
   have GY := hid (BX.out.below hx BX.out.lt)
   have X9 := hid (X8.out.trans (hx.mono X8.out.size))
   have JL := hid (Gp.out.below hx)
   have GT := hid (ownsRow_below GQ.out hx)
   have Gq := hid (GZ.out.trans (hx.mono GZ.out.size))
   clear hx BX X8 Gp GQ GZ r0 r1 r2 r3 r4 r5 r6
   obtain ⟨r0, r1, r2, r3, r4, r5, r6⟩ := GY.out.seven
   go_wp2_with fail
   refine (nfSearch_any _ _ x.nf NT.out SX.out bb GD.out (by rw [<- GU.out]; omega) w6 JL.out (GB.out w6 X9.out)).mono ?_
   rintro e w7 ⟨us, rfl, hu, hx⟩
   have Gt := hid (GY.out.below hx GY.out.lt)
   have G7 := hid (ownsRow_below GT.out hx)
   have G8 := hid (Gq.out.trans (hx.mono Gq.out.size))
   obtain ⟨hs, hhs⟩ : ∃ h, h = hitsN x.nf bb (bb.length + 1) := ⟨_, rfl⟩
   have GR : hs.length <= 1000000 := by have := hitsN_len x.nf bb (bb.length + 1); rw [<- hhs, <- GU.out] at this; omega
   rw [<- hhs] at hu
   obtain ⟨ua, uc, rfl⟩ := hu.form
   obtain ⟨un, hun⟩ : ∃ n, n = hs.length := ⟨_, rfl⟩
   rw [<- hun] at hu ⊢
   have HU := hid hu
   have GK : x.beg = false -> hs.contains (bm : Int) = A := fun e => by
    rw [hhs, GU.out, hitsN_has, HA.out, at_atN, e]
    rfl
   have Gg : x.beg = true -> x.nf.acc (atN x.nf false bb) = A := fun e => by rw [HA.out, at_atN, e]; rfl
   obtain ⟨is, hisv⟩ : ∃ i, i = x.nf.acc (atN x.nf false bb) := ⟨_, rfl⟩
   rw [<- hisv] at Gg ⊢
   have GC := hid GK
   have Ge := hid Gg
   clear hu hx GY JL GT Gq r0 r1 r2 r3 r4 r5 r6 hhs hun GK Gg hisv
   obtain ⟨r0, r1, r2, r3, r4, r5, r6⟩ := Gt.out.seven
   obtain ⟨xb, hxb⟩ : ∃ b, b = x.beg := ⟨_, rfl⟩
   rw [<- hxb] at r5 GC Ge
   clear r0 r1 r2 r3 r4 hxb
   go_upto_region 19 with fail
   go_cut [97] from 82 to 97 (fun v wx => v = .bool A /\ wx = w7)
   case first =>
    cases xb with
    | true =>
     obtain rfl := Ge.out rfl
     cases is
     ·go_wp2_with fail
      go_meet
      exact ⟨rfl, rfl⟩
     ·go_wp2_with fail
      go_meet
      exact ⟨rfl, rfl⟩
    | false =>
     have JY := hid (GC.out rfl)
     go_wp2_with fail
     refine (containsI_any _ hs (bm : Int) w7 HU.out GR).mono ?_
     rintro e w8 ⟨rfl, hw⟩
     replace hw := hw.symm
     subst hw
     rw [JY.out]
     go_wp2_with fail
     go_meet
     exact ⟨rfl, rfl⟩
   case rest =>
   obtain ⟨rfl, hwc⟩ := hcut
   replace hwc := hwc.symm
   subst hwc
   clear GC Ge
   cases A with
   | false =>
    go_wp2
    go_roundw
    case rel => exact ⟨k + 1, rn, by omega, by go_num, by rw [Gx.out]; exact G7.out, G8.out⟩
    case measure => simp [intOf]; omega
   | true =>
    obtain ⟨iI, hiI, hzI0, hzI1, hzI2⟩ := info_parts Tryz.infoI
    have Js : w5.heap.size <= w7.heap.size := G8.out.size
    go_wp2_with (at_builtin; refine Hid.out ?_)
    refine hid ?_
    refine wpList_append_own_at _ rfl (.tmp 98) (.tmp 101) 37 rfl w5.heap.size 3 iI (.int .i64 0) 1 8 Tryz.underlying37 hiI hzI0 hzI1 hzI2 rfl (by decide) _ _ _ rfl (G7.out.alloc _) ⟨w7.heap.size, 0, none⟩ 1 1 [.int .i64 x.mark] rfl rfl (cell_one _ _ _) (by simp [Value.oneCell']) (by unfold maxLen; omega) (by omega) (by simp; omega) ?_
    intro v' w9 hown' hgrow hh hat
    obtain ⟨pa3, pc3, rfl⟩ := ownsRow_form hown'
    have GI : Hid (w9.ownsRow w5.heap.size 3 1 (.slice pa3 (rn + 1) pc3) (rn + 1) ((wantL P bb (k + 1)).map encZ)) := hid (by rw [Gx.out, if_pos (by trivial), List.map_append]; exact hown')
    have Gh : Hid (Below w5.heap.size w5 w9) := hid ((G8.out.alloc G8.out.size _).grown hgrow (by have := G8.out.size; simp; omega) (fun c e => (G7.out.lt c e).1))
    clear hown' hgrow hh hat
    go_wp2
    go_roundw
    case rel => exact ⟨k + 1, rn + 1, by omega, by go_num, GI.out, Gh.out⟩
    case measure => simp [intOf]; omega
  ·obtain rfl : k = pm := by omega
   have J9 : ¬ ((k : Int) < (k : Int)) := by omega
   obtain ⟨ws, hws⟩ : ∃ ws, ws = wantL P bb k := ⟨_, rfl⟩
   rw [<- hws] at G6 JW
   have GN : ws = (P.filter fun x => x.nf.acc (x.at bb)).map PT.mark := by
    rw [hws]
    unfold wantL
    rw [GL.out, List.take_length]
   have JA : mg = Lib.compact (sortZ ws) := by
    obtain ⟨st, f1, f2, f3, f4⟩ := ofE_zero JF.out
    rw [J4.out, f4, run_marks (by omega) f3 bb GD.out, marks_behind (fun x hx => (JI.out x hx).2.2) bb, GN]
   have JT := hid JA
   have GJ := hid (ownsRow_below GG.out HX.out)
   clear hws GN JA hlt hk
   go_wp2_with fail
   refine (sortI_any w5.heap.size _ rn ws wo G6.out (by omega)).mono ?_
   rintro e w8 ⟨rfl, ho, hkp⟩
   have R8 := hid ho
   have K8 := hid hkp
   clear ho hkp
   have JM : ∀ c, (Value.slice ga gn gc).ownBlock = some c -> c < w5.heap.size := fun c e => (GG.out.lt c e).2
   have Gz := hid JM
   clear JM
   have GV := hid (ownsRow_keeps GJ.out K8.out fun c e => ⟨(GJ.out.lt c e).2, fun e2 => by have := Gz.out c e; have := (G6.out.lt c e2).1; omega⟩)
   go_wp2_with fail
   refine (compactI_any w5.heap.size _ rn (sortZ ws) w8 R8.out (by omega)).mono ?_
   rintro e w9 ⟨u9, rfl, ho, hkp⟩
   have K9 := hid hkp
   have Gb := hid (ownsRow_keeps GV.out K9.out fun c e => ⟨(GV.out.lt c e).2, fun e2 => by have := Gz.out c e; have := (G6.out.lt c e2).1; omega⟩)
   rw [<- JT.out, <- Gr.out] at ho
   obtain ⟨va, vc, rfl⟩ := ownsRow_form ho
   have R9 := hid ho
   clear ho hkp
   have Gi : mg.length <= 1000000 := by
    rw [J4.out, List.getD_eq_getElem?_getD]
    cases h : d.mr[runD d 0 bb]? with
    | none => simp
    | some l => exact SD.out.mks l (List.mem_of_getElem? h)
   have JB : Hid (Below w.heap.size w w9) := hid (X7.out.trans ((K8.out.mono fun c (hc : c < w.heap.size) => ⟨by have := X7.out.size; omega, fun e => by have := (G6.out.lt c e).1; have := X6.out.size; omega⟩ : Keeps (· < w.heap.size) wo w8).tr (K9.out.mono fun c (hc : c < w.heap.size) => ⟨by have := X7.out.size; have := K8.out.size; omega, fun e => by have := (R8.out.lt c e).1; have := X6.out.size; omega⟩ : Keeps (· < w.heap.size) w8 w9)).below)
   go_wp2_with fail
   refine (slEqual_any _ _ mg mg w9 (ownsRow_sl Gb.out Gr.out) (ownsRow_sl R9.out Gr.out) Gi).mono ?_
   rintro e wA ⟨rfl, hx⟩
   rw [beq_self_eq_true]
   have Ja := hid (JB.out.trans (hx.below.mono JB.out.size))
   clear hx
   go_wp2
   go_ret
   exact ⟨rfl, Ja.out⟩
end Go.Proofs.YtbiboekhakbnpaaGreatDoor
namespace Go.Proofs.YtbiboekhakbnpaaGreatDoor
open Go Go.ChangeShapes Go.WideShapes Go.ChangeAt Go.RowKit
theorem q_gTab : Tryz.prog.globalNamed "internal/strconv.uint64pow10" = some 0 := by kernel_rfl
theorem q_gTabType : (Tryz.prog.globals[0]?).map (·.type) = some 251 := by kernel_rfl
theorem q_cellsT : Tryz.prog.cellsOf 251 = 20 := by kernel_rfl
theorem q_cellsE : Tryz.prog.cellsOf 68 = 1 := by kernel_rfl
theorem q_table {W : World} (h : laidMetH Tryz.prog Rows.dfaMarksRow.laid W) : TabW W := by
 have h1 : laidMet Tryz.prog [("math/bits.deBruijn32tab", Rows.laid_math_bits_deBruijn32tab), ("math/bits.deBruijn64tab", Rows.laid_math_bits_deBruijn64tab), ("internal/strconv.uint64pow10", Lib.tabData .u64 Lib.pow10Tab)] W := h
 exact Lib.tabIs_of_head (rest := []) q_gTab q_gTabType Tryz.underlying251 Tryz.underlying68 q_cellsE q_cellsT h1.tail.tail
noncomputable def q_fill (cs : Array Value) : Obj -> Obj
 | .cells _ t frozen => .cells cs t frozen
 | o => o
noncomputable def q_world (os : Os) : World :=
 { World.holding Tryz.prog os ⟨#[], #[], []⟩ with heap := (((World.holding Tryz.prog os ⟨#[], #[], []⟩).heap.modify 0 (q_fill (((List.range 20).map fun i => .int .u64 ((10 ^ i : Nat) : Int)).toArray))).modify 1 (q_fill ((([0, 1, 28, 2, 29, 14, 24, 3, 30, 22, 20, 15, 25, 17, 4, 8, 31, 27, 13, 23, 21, 19, 16, 7, 26, 12, 18, 6, 11, 5, 10, 9] : List Int).map (.int .u8)).toArray))).modify 2 (q_fill ((([0, 1, 56, 2, 57, 49, 28, 3, 61, 58, 42, 50, 38, 29, 17, 4, 62, 47, 59, 36, 45, 43, 51, 22, 53, 39, 33, 30, 24, 18, 12, 5, 63, 55, 48, 27, 60, 41, 37, 16, 46, 35, 44, 21, 52, 32, 23, 11, 54, 26, 40, 15, 34, 20, 31, 10, 25, 14, 19, 9, 13, 8, 7, 6] : List Int).map (.int .u8)).toArray)) }
theorem q_met (os : Os) : laidMet Tryz.prog Rows.dfaMarksRow.laid ((q_world os).forCall (fun _ _ => 0) ⟨#[], #[.slice none 0 0, .slice none 0 0], []⟩).memory :=
 laidMet_of_run' 8 (by kernel_rfl) (by kernel_rfl)
theorem q_reads (os : Os) {H : Type} (enc : TypeId × Value -> H) : ∃ places, DataW.whole enc Tryz.prog ((q_world os).forCall (fun _ _ => 0) ⟨#[], #[.slice none 0 0, .slice none 0 0], []⟩).memory Tryz.f6.params.toList Rows.dfaMarksSpec.vars false (#[.slice none 0 0, .slice none 0 0] : Array Value).toList 8 = some ([.nil, .nil], [], places) :=
 ⟨[], by kernel_rfl⟩
theorem q_lifted (os : Os) (started : os.Started) (H : Type) (enc : TypeId × Value -> H) (F : Stop.Interp) :
  ReturnsInHanded {} Tryz.checked os 6 .any ((OpenSpec.ofChange Rows.dfaMarksSpec).preRow enc Tryz.prog Tryz.f6 Rows.dfaMarksRow.domain false Rows.dfaMarksRow.laid) (((OpenSpec.ofChange Rows.dfaMarksSpec).at F).post enc Tryz.prog Tryz.f6 false true false false) := by
 obtain ⟨places, hx⟩ := q_reads os enc
 refine returnsInHanded_of_row (C := Tryz.checked) (s := OpenSpec.ofChange Rows.dfaMarksSpec) Tryz.own started (by kernel_rfl) Tryz.func6
  (witness_row_at (enc := enc) (C := Tryz.checked) false (q_world os) #[.slice none 0 0, .slice none 0 0] rfl (by kernel_rfl) (by kernel_rfl) (by kernel_rfl)
   (OpenSpec.preRow_of_cond 8 hx (by kernel_rfl) (fun k hk => by cases hk) (by kernel_rfl) (q_met os))) ?_
 intro W base args ds gs before hval0 hW _ _ hsz0 hL _ _
 have GA : ∀ (j : Nat) t v, Tryz.f6.params[j]? = some t -> args[j]? = some v -> Value.okWide Tryz.prog W .any base t v := hval0
 have hT : ∀ V, Below W.heap.size W V -> TabW V := fun V hV => (q_table hL).below hV
 have GF : DataW.Whole enc Tryz.prog Tryz.f6.params.toList Rows.dfaMarksSpec.vars false W args.toList ds gs before := hW
 have hW' := GF
 obtain ⟨p, q, hA0, hV, rfl, hfz, hnd⟩ := GF
 have hA : DataW.TrodAll enc Tryz.prog W 0 (fun _ => true) true Tryz.f6.params.toList args.toList ds p := hA0
 have Ga : (DataW.weightsEach Tryz.prog (Tryz.f6.params.toList ++ Rows.dfaMarksSpec.plain.varTypes Tryz.prog) (ds ++ gs)).all (· <= reachBytes) = true := hsz0
 rw [Tryz.params6] at hA GA Ga
 obtain ⟨v0, v1, d0, d1, p0, p1, rfl, rfl, rfl, h0, h1⟩ := trodAll_two hA
 obtain ⟨l0, s0, g0⟩ := open_s18 (GA 0 _ v0 rfl rfl) h0 (sized_arg Ga (j := 0) rfl rfl)
 obtain ⟨l1, _, r1, s1⟩ := open_bytesB (GA 1 _ v1 rfl rfl) h1
 refine (dfaMarksLaw_any v0 v1 l0 g0 l1 r1 W s0 s1 hT).mono fun e W' ⟨he, hw⟩ => ⟨_, he, ?_⟩
 exact law_post (s := Rows.dfaMarksSpec) Tryz.laidOut rfl (by rw [Tryz.params6]; exact of_decide_eq_true (by kernel_rfl)) rfl Tryz.underlying4 rfl hW' hw
theorem q_said : Rows.DfaMarksSaid :=
 OpenClaim.holds_of_cond 6 Tryz.f6 rfl rfl rfl rfl rfl rfl rfl ⟨rfl, rfl, rfl, rfl, rfl⟩ rfl rfl rfl rfl rfl (by kernel_rfl) Tryz.func6 (by kernel_rfl)
  (of_decide_eq_true (by kernel_rfl)) (by unfold Func.isWrapper; first | (rw [if_pos (by decide +kernel)]; kernel_rfl) | (rw [if_neg (by decide +kernel)]; exact ⟨rfl, rfl⟩))
  (fun os started H enc _ F => by rw [OpenClaim.pre_eq_preRow]; exact q_lifted os started H enc F)
theorem q_plain (f : FuncId) (fn : Func) (hf : Tryz.pinned.checked.prog.funcNamed "repartee/reparteelaw18.DfaMarks" = some f) (hfn : Tryz.pinned.checked.prog.funcs[f]? = some fn) :
  true = Tryz.pinned.checked.prog.looks [] /\ ∀ (j : Nat) t, fn.params[j]? = some t -> Tryz.pinned.checked.prog.wantsStandIn t = false := by
 obtain rfl : f = 6 := Option.some.inj ((show Tryz.prog.funcNamed "repartee/reparteelaw18.DfaMarks" = some 6 by kernel_rfl).symm.trans hf) |>.symm
 obtain rfl : fn = Tryz.f6 := (Option.some.inj (Tryz.func6.symm.trans hfn)).symm
 refine ⟨by kernel_rfl, fun j t ht => ?_⟩
 rw [Tryz.params6] at ht
 have h2 : t = 22 \/ t = 23 := by
  have := Array.mem_of_getElem? ht
  simpa using this
 rcases h2 with rfl | rfl
 ·exact (show Tryz.prog.wantsStandIn 22 = false by kernel_rfl)
 ·exact (show Tryz.prog.wantsStandIn 23 = false by kernel_rfl)
theorem omarks_card : Rows.DfaMarksCardSaid :=
 Claim7.holds_tied_plain_at .later [] _ _ _ _ q_said (fun _ h => by cases h) (by kernel_rfl) (fun _ h => by cases h) dfaMarks_row_tie rfl ⟨rfl, rfl⟩ (by kernel_rfl) rfl q_plain (by kernel_rfl)
end Go.Proofs.YtbiboekhakbnpaaGreatDoor
