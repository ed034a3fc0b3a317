/-
  The law's word. Printed by wip/gen/word.py.
-/
import Derived.Test.YtbiboekhakbnpaaGreatDoorOB11
import Derived.Test.YtbiboekhakbnpaaGreatDoorOB23
import Derived.Test.YtbiboekhakbnpaaGreatDoorOB44
import Derived.Test.YtbiboekhakbnpaaGreatDoorOB14
import Derived.Test.YtbiboekhakbnpaaGreatDoorOB12
import Derived.Lib.OthersKept
set_option maxRecDepth 100000
set_option maxHeartbeats 16000000
open Go.Lib (hid)
namespace Go.Proofs.YtbiboekhakbnpaaGreatDoor
open Go Go.RowKit Go.Shelf Go.Maps
attribute [local go_sem] encS

def setApp (lo : Nat) (v : Value) (n : Nat) (xs ns0 : List Value) : Ap3.App := ⟨70, 4, v, n, xs, 1, lo, fun ns _ => ns = ns0, fun _ _ _ _ h => h⟩
def nxApp8 (lo : Nat) (v : Value) (n : Nat) (us : List Value) : Ap3.App := ⟨37, 1, v, n, us, 1, lo, fun ns _ => ns = [.slice none 0 0], fun _ _ _ _ h => h⟩
def folK (k : Nat) : List (List Int) := (List.range k).map fun i => if i + 1 < k then [(i : Int) + 1] else []
theorem folK_len (k : Nat) : (folK k).length = k := by simp [folK]
theorem folK_get {k i : Nat} (h : i < k) : (folK k)[i]? = some (if i + 1 < k then [(i : Int) + 1] else []) := by
 unfold folK
 rw [List.getElem?_map, List.getElem?_range h]; rfl
theorem heap_new_at8 {w : World} {o : Obj} {b : Nat} (e : w.heap.size = b) : (w.alloc o).heap[b]? = some o := e ▸ World.alloc_heap_new w o
theorem keeps_iterAt (W : World) (k : Nat) (s : ByteArray) (p : Nat) : Keeps (· ≠ k) W (W.iterAt k s p) where
 os := rfl
 tape := rfl
 output := rfl
 size := by rw [Lib.iterAt_size]; exact Nat.le_refl _
 keep := fun i hi => Lib.iterAt_other W k i s p hi

theorem word18_any (s : ByteArray) (l : List Nat) (hsl : s.data.toList.map (·.toNat) = l) (hal : ∀ c ∈ l, c < 128) (h1 : 1 <= l.length) (hn : l.length <= 1000) (w : World) :
  Calls Tryz.prog 36 #[.string s] w fun e w' => ∃ u, e = .returned u /\ OwnNf w.heap.size w' u (wordN l) /\ Below w.heap.size w w' := by
 obtain ⟨iS, hiS, hzS0, hzS1, hzS2⟩ := info_parts Tryz.infoS
 obtain ⟨iL, hiL, hzL0, hzL1, hzL2⟩ := info_parts Tryz.infoL
 obtain ⟨n, hnn⟩ : ∃ n, n = l.length := ⟨_, rfl⟩
 have hsz : s.size = n := by rw [hnn, <- hsl]; simp
 rw [<- hnn] at h1 hn
 have HBY : Hid (∀ (k : Nat) (hk : k < s.size), ∃ c, l[k]? = some c /\ (s[k]'hk).toNat = c /\ c < 128) := hid fun k hk => by
  have hk' : k < s.data.toList.length := by simpa using hk
  have e : l[k]? = some (s.data.toList[k]).toNat := by rw [<- hsl, List.getElem?_map, List.getElem?_eq_getElem hk']; rfl
  exact ⟨_, e, by rw [Array.getElem_toList]; rfl, hal _ (List.mem_of_getElem? e)⟩
 have CO : Hid (∀ (k c : Nat), k < s.size -> l[k]? = some c -> ∀ W, Calls Tryz.prog 37 #[.string (s.extract k (k + 1))] W fun e w' => e = .returned (.agg (encS (letW [c]))) /\ Below W.heap.size W w') := hid fun k c hk hc W => by
  refine one18_any (s.extract k (k + 1)) [c] ?_ (by simp) W
  have hk' : k < s.data.size := hk
  rw [<- hsl, List.getElem?_map, Array.getElem?_toList, Array.getElem?_eq_getElem hk'] at hc
  have hc' : (s.data[k]).toNat = c := by simpa using hc
  apply List.ext_getElem?
  intro j
  have e2 : (s.extract k (k + 1)).data = s.data.extract k (k + 1) := ByteArray.data_extract
  rw [e2, List.getElem?_map, Array.getElem?_toList, Array.getElem?_extract]
  have : min (k + 1) s.data.size = k + 1 := by omega
  rw [this]
  cases j with
  | zero => rw [if_pos (by omega), Nat.add_zero, Array.getElem?_eq_getElem hk']; simp [hc']
  | succ j => rw [if_neg (by omega)]; rfl
 have HNN := hid hnn
 have hw0 : IntKind.i64.wrap ((n : Int) - 1) = (n : Int) - 1 := IntWalk.i64_in _ (by omega)
 clear hsl hal hnn
 have hsz' : ((s.size : Nat) : Int) = n := by omega
 go_enter Tryz.func36, Tryz.ntmps36
 go_wp2
 refine wp_named ?_
 intro V hV
 have R0 : Hid (Blk V w.heap.size #[.slice none 0 0, .slice none 0 0, .slice none 0 0, .slice none 0 0, .bool false] 44) := hid (by rw [hV]; exact ((((Blk.new w _ _).alloc _).alloc _).alloc _).alloc _)
 have A1 : Hid (Blk V (w.heap.size + 1) #[.int .i64 0] 3) := hid (by rw [hV]; exact ((((Blk.new (w.alloc _) _ _).at (by simp)).alloc _).alloc _).alloc _)
 have A2 : Hid (Blk V (w.heap.size + 2) #[.int .i64 ((n : Int) - 1)] 3) := hid (by rw [hV]; exact (((Blk.new ((w.alloc _).alloc _) _ _).at (by simp)).alloc _).alloc _)
 have B3 : Hid (Blk V (w.heap.size + 3) #[.slice none 0 0, .slice none 0 0, .slice (some ⟨w.heap.size + 1, 0, none⟩) 1 1, .slice (some ⟨w.heap.size + 2, 0, none⟩) 1 1, .bool false] 44) := hid (by rw [hV]; exact ((Blk.new (((w.alloc _).alloc _).alloc _) _ _).at (by simp)).alloc _)
 have IT : Hid (V.heap[w.heap.size + 4]? = some (.stringIter s 0)) := hid (by rw [hV]; exact heap_new_at8 (by simp))
 have XV : Hid (Below w.heap.size w V) := hid (by rw [hV]; exact (((((Ext.refl w).alloc _).alloc _).alloc _).alloc _ |>.alloc _).below)
 have hszV : V.heap.size = w.heap.size + 5 := by rw [hV]; simp [World.iter]
 clear hV
 go_loopw [4] (fun _ wr => ∃ (k : Nat) (u0 u1 : Value), k <= n /\ wr.heap[w.heap.size + 4]? = some (.stringIter s k) /\ Blk wr (w.heap.size + 3) #[u0, u1, .slice (some ⟨w.heap.size + 1, 0, none⟩) 1 1, .slice (some ⟨w.heap.size + 2, 0, none⟩) 1 1, .bool false] 44 /\ wr.ownsRow (w.heap.size + 5) 70 4 u0 k (flatS ((l.take k).map fun c => letW [c])) /\ OwnLL (w.heap.size + 5) wr u1 (folK k) /\ Keeps (fun x => x < w.heap.size + 3) V wr /\ w.heap.size + 5 <= wr.heap.size) (fun _ wr => n - wr.iterPos (w.heap.size + 4))
 case atStart => exact ⟨0, _, _, Nat.zero_le _, IT.out, B3.out, World.ownsRow_nil _ _ _ _, OwnLL.nil _ _, Keeps.refl _ _, by omega⟩
 case round =>
  obtain ⟨k, u0, u1, hk, hit, hb, h0, h1', hx, hszo⟩ := hrel
  obtain ⟨wo, rfl⟩ : ∃ wo : World, wo = wr := ⟨_, rfl⟩
  have hpos : wo.iterPos (w.heap.size + 4) = k := iterPos_of hit
  by_cases hlt : k < n
  ·have hks : k < s.size := by omega
   obtain ⟨c, hlc, hc, hc1⟩ := HBY.out k hks
   have hnx : ∀ ty, (Instr.next (.pointer (some ⟨w.heap.size + 4, 0, none⟩)) true ty).run Tryz.prog wo = _ := fun ty => Lib.run_next_ascii_at wo (w.heap.size + 4) s k ty hit hks (by omega)
   have CC := hid (CO.out k c hks hlc)
   have hw1 : IntKind.i64.wrap ((k : Int) + 1) = (k : Int) + 1 := IntWalk.i64_in _ (by omega)
   have hki : (k : Int) < n := by omega
   have hki1 : (k : Int) + 1 <= n := by omega
   have hki2 : (k : Int) <= (k : Int) + 1 := by omega
   have hki3 : (0 : Int) <= k := by omega
   go_wp2
   clear hnx
   refine wp_named ?_
   intro wo1 hV1
   have hkI : Keeps (· ≠ w.heap.size + 4) wo wo1 := by rw [hV1]; exact keeps_iterAt _ _ _ _
   have hIT : wo1.heap[w.heap.size + 4]? = some (.stringIter s (k + 1)) := by rw [hV1]; exact Lib.iterAt_heap _ _ _ _ _ hit
   have hs1 : wo1.heap.size = wo.heap.size := by rw [hV1]; exact Lib.iterAt_size _ _ _ _
   have HIT := hid hIT
   have HB := hid (hb.keeps hkI (by omega))
   have h0 := ownsRow_keeps h0 hkI fun x e => by have := (h0.lt x e).1; show x ≠ _; omega
   have h1' := h1'.keeps hkI fun x g1 _ => by show x ≠ _; omega
   have HX := hid (hx.tr (hkI.mono fun x (hx : x < w.heap.size + 3) => by show x ≠ _; omega))
   clear hV1 hkI hIT hit hb hx
   obtain ⟨us, u1', u2', u3'⟩ := h1'
   have hus : us.length = k := by rw [u1', folK_len]
   rw [hus] at u2'
   obtain ⟨na, nc, rfl⟩ := ownsRow_form h0
   obtain ⟨ma, mc, rfl⟩ := ownsRow_form u2'
   obtain ⟨xs, hxs⟩ : ∃ x, x = flatS ((l.take k).map fun c => letW [c]) := ⟨_, rfl⟩
   rw [<- hxs] at h0
   have U0 := hid h0
   have U2 := hid u2'
   have U3 := hid u3'
   have HXS := hid hxs
   have HUS := hid hus
   have HLC := hid hlc
   have L1 : Hid (∀ x, (Value.slice na k nc).ownBlock = some x -> x < wo1.heap.size /\ w.heap.size + 5 <= x) := hid fun x e => ⟨(h0.lt x e).2, (h0.lt x e).1⟩
   have L2 : Hid (∀ x, (Value.slice ma k mc).ownBlock = some x -> x < wo1.heap.size /\ w.heap.size + 5 <= x) := hid fun x e => ⟨(u2'.lt x e).2, (u2'.lt x e).1⟩
   have FAR : Hid (Far (.slice na k nc) (.slice ma k mc)) := hid (ownBlock_ne (by decide) h0 u2')
   clear h0 u1' u2' u3' hxs hus hlc hc
   have hlo : w.heap.size + 5 <= wo1.heap.size := by omega
   obtain ⟨PL, hPL⟩ : ∃ PL : List Ap3.App, PL = [(setApp wo1.heap.size (.slice na k nc) k xs (encS (letW [c])).toList), (nxApp8 wo1.heap.size (.slice ma k mc) k us)] := ⟨_, rfl⟩
   have hp0 : PL[0]? = some (setApp wo1.heap.size (.slice na k nc) k xs (encS (letW [c])).toList) := by rw [hPL]; rfl
   have hp1 : PL[1]? = some (nxApp8 wo1.heap.size (.slice ma k mc) k us) := by rw [hPL]; rfl
   have hall : ∀ q ∈ PL, q = (setApp wo1.heap.size (.slice na k nc) k xs (encS (letW [c])).toList) \/ q = (nxApp8 wo1.heap.size (.slice ma k mc) k us) := fun q hq => by rw [hPL] at hq; simpa using hq
   have OKA : Hid (Ap3.AppOk wo1 PL) := hid ⟨fun q hq => by rcases hall q hq with rfl | rfl <;> exact Nat.le_refl _, fun q hq x e => by
    rcases hall q hq with rfl | rfl
    ·have := L1.out x e; omega
    ·have := L2.out x e; omega, fun i j q q' hi hj hij => by
    have hl : PL.length = 2 := by rw [hPL]; rfl
    have h1 := (List.getElem?_eq_some_iff.1 hi).1
    have h2 := (List.getElem?_eq_some_iff.1 hj).1
    rcases (show i = 0 \/ i = 1 by omega) with rfl | rfl <;> rcases (show j = 0 \/ j = 1 by omega) with rfl | rfl <;> (first | (exact absurd rfl hij) | skip) <;> (first | rw [hp0] at hi | rw [hp1] at hi) <;> (first | rw [hp0] at hj | rw [hp1] at hj) <;> cases hi <;> cases hj
    ·exact FAR.out
    ·exact FAR.out.symm⟩
   have hnp : ∀ x, (x < w.heap.size + 5 \/ wo1.heap.size <= x) -> ¬ ∃ q ∈ PL, q.v.ownBlock = some x := fun x hx ⟨q, hq, e⟩ => by
    rcases hall q hq with rfl | rfl
    ·have := L1.out x e; omega
    ·have := L2.out x e; omega
   have HALL := hid hall
   have HNP := hid hnp
   clear hPL hall hnp
   refine RegG.wp_region_regM (Ap3.MoveA (w.heap.size + 5) wo1 PL) (Ap3.MoveA.drew) (fun _ _ _ h k => h.trans k) (by kernel_rfl) 15 [0, 1, 0, 0, 0, 16, 60, 124, 252, 511, 0, 1024, 0, 8191, 4095, 32767, 65535, 131071] (fun i => i == 7 || i == 8 || i == 9 || i == 12 || i == 13) (by kernel_rfl) (fun j => none) (fun j hj => (by first | rfl | (have hj2 : 18 <= j := hj; first | exact if_neg (by omega) | (split <;> first | omega | rfl)))) (by kernel_rfl) (fun i => if i = 7 then RegG.Eff.det _ (.agg (encS (letW [c]))) else if i = 8 then Ap3.EffA.boxA (w.heap.size + 5) wo1 PL 1 (encS (letW [c])) 70 else if i = 9 then Ap3.EffA.app (w.heap.size + 5) wo1 PL (setApp wo1.heap.size (.slice na k nc) k xs (encS (letW [c])).toList) (List.mem_of_getElem? hp0) else if i = 12 then Ap3.EffA.boxA (w.heap.size + 5) wo1 PL 1 #[.slice none 0 0] 37 else if i = 13 then Ap3.EffA.app (w.heap.size + 5) wo1 PL (nxApp8 wo1.heap.size (.slice ma k mc) k us) (List.mem_of_getElem? hp1) else RegG.Eff.any _) ?_
   intro C hC hne
   have HC := hid hC
   have hin : ∀ {x : Nat}, x < wo1.heap.size -> (¬ ∃ q ∈ PL, q.v.ownBlock = some x) -> ∀ W : { W // C W }, W.1.heap[x]? = wo1.heap[x]? := fun {x} h1 h2 W => ((hC W.1).1 W.2).keeps.keep x ⟨h1, h2⟩
   have o1 : ∀ W : { W // C W }, W.1.cell? ⟨w.heap.size + 3, 0, none⟩ = some (.slice na k nc) := fun W => (HB.out.same (hin HB.out.lt (HNP.out _ (by omega)) W)).cell 0
   have o2 : ∀ W : { W // C W }, W.1.cell? ⟨w.heap.size + 3, 1, none⟩ = some (.slice ma k mc) := fun W => (HB.out.same (hin HB.out.lt (HNP.out _ (by omega)) W)).cell 1
   clear hC hin
   repeat (refine RegG.regStep (fun K hK => ?_); first | (refine RegG.regN rfl ?_; try go_simp; refine hK _ _ ?_; clear hK K) | (refine RegG.regF rfl rfl ?_; unfold floatAt; go_simp; refine hK _ _ ?_; clear hK K))
   refine RegG.regStep (fun K hK => ?_)
   refine RegG.regE rfl rfl (RegG.Eff.det _ (.agg (encS (letW [c])))) rfl (fun W hW hN => ?_) (fun v hv => ?_)
   ·have hM := (HC.out W).1 hW
    clear hW
    go_simp
    refine effT_call ((CC.out W).mono ?_)
    rintro e w2 ⟨rfl, hx⟩
    exact ⟨_, rfl, .below hx, rfl, trivial⟩
   replace hv : v = _ := hv
   subst hv
   go_simp
   refine hK _ _ ?_
   clear hK K
   repeat (refine RegG.regStep (fun K hK => ?_); first | (refine RegG.regN rfl ?_; try go_simp; refine hK _ _ ?_; clear hK K) | (refine RegG.regF rfl rfl ?_; unfold floatAt; go_simp; refine hK _ _ ?_; clear hK K))
   refine RegG.regStep (fun K hK => ?_)
   refine RegG.regE rfl rfl (Ap3.EffA.boxA (w.heap.size + 5) wo1 PL 1 (encS (letW [c])) 70) rfl (fun W hW hN => ?_) (fun v hv => ?_)
   ·have hM := (HC.out W).1 hW
    clear hW hN hK K
    exact effT_build1 28 70 _ rfl Tryz.underlying28 hiS hzS0 hzS1 (by decide) (by decide) (encS (letW [c])) rfl rfl ⟨.below ((Ext.refl _).alloc _).below, ⟨_, rfl⟩, fun b hb => by cases hb; exact ⟨Blk.new _ _ _, OKA.out.fresh hM.size⟩⟩
   obtain ⟨x8, rfl⟩ := hv
   go_simp
   refine hK _ _ ?_
   clear hK K
   repeat (refine RegG.regStep (fun K hK => ?_); first | (refine RegG.regN rfl ?_; try go_simp; refine hK _ _ ?_; clear hK K) | (refine RegG.regF rfl rfl ?_; unfold floatAt; go_simp; refine hK _ _ ?_; clear hK K))
   refine RegG.regStep (fun K hK => ?_)
   refine RegG.regE rfl rfl (Ap3.EffA.app (w.heap.size + 5) wo1 PL (setApp wo1.heap.size (.slice na k nc) k xs (encS (letW [c])).toList) (List.mem_of_getElem? hp0)) rfl (fun W hW hN => ?_) (fun v hv => ?_)
   ·have hM := (HC.out W).1 hW
    have hnb := hN.at 0 rfl (by kernel_rfl) x8 rfl
    clear hW hK K
    exact Ap3.effT_appendA (w0 := wo1) (PL := PL) (p := (setApp wo1.heap.size (.slice na k nc) k xs (encS (letW [c])).toList)) (.tmp 17) (.tmp 24) 28 rfl iS (.agg #[.int .u64 0, .int .u64 0, .int .u64 0, .int .u64 0]) 32 Tryz.underlying28 hiS hzS0 hzS1 hzS2 rfl (show (0 : Nat) < 4 from by decide) OKA.out hp0 rfl (hM.old _ (List.mem_of_getElem? hp0) U0.out) ⟨x8, 0, none⟩ 1 rfl (encS (letW [c])).toList rfl rfl (news_blk hnb.1) (by intro u hu; simp [encS] at hu; rcases hu with rfl | rfl | rfl | rfl <;> rfl) (by show k + 1 <= maxLen; unfold maxLen; omega) (by show (k + 1) * 32 <= _; omega) (Nat.le_trans (by omega) hM.size) (show (0 : Nat) < 1 from by decide) hM.size (fun v W2 g1 g2 g3 _ => ⟨g1, g2, g3⟩)
   obtain ⟨na3, nc3, hv2⟩ := hv
   replace hv2 : v = .slice na3 (k + 1) nc3 := hv2
   subst hv2
   go_simp
   refine hK _ _ ?_
   clear hK K
   repeat (refine RegG.regStep (fun K hK => ?_); first | (refine RegG.regN rfl ?_; try go_simp; refine hK _ _ ?_; clear hK K) | (refine RegG.regF rfl rfl ?_; unfold floatAt; go_simp; refine hK _ _ ?_; clear hK K))
   refine RegG.regStep (fun K hK => ?_)
   refine RegG.regE rfl rfl (Ap3.EffA.boxA (w.heap.size + 5) wo1 PL 1 #[.slice none 0 0] 37) rfl (fun W hW hN => ?_) (fun v hv => ?_)
   ·have hM := (HC.out W).1 hW
    clear hW hK K
    (go_simp; exact ⟨.below ((Ext.refl _).alloc _).below, ⟨_, rfl⟩, fun b hb => by cases hb; exact ⟨Blk.new _ _ _, OKA.out.fresh hM.size⟩⟩)
   obtain ⟨x12, rfl⟩ := hv
   go_simp
   refine hK _ _ ?_
   clear hK K
   repeat (refine RegG.regStep (fun K hK => ?_); first | (refine RegG.regN rfl ?_; try go_simp; refine hK _ _ ?_; clear hK K) | (refine RegG.regF rfl rfl ?_; unfold floatAt; go_simp; refine hK _ _ ?_; clear hK K))
   refine RegG.regStep (fun K hK => ?_)
   refine RegG.regE rfl rfl (Ap3.EffA.app (w.heap.size + 5) wo1 PL (nxApp8 wo1.heap.size (.slice ma k mc) k us) (List.mem_of_getElem? hp1)) rfl (fun W hW hN => ?_) (fun v hv => ?_)
   ·have hM := (HC.out W).1 hW
    have hnb := hN.at 0 rfl (by kernel_rfl) x12 rfl
    clear hW hK K
    exact Ap3.effT_appendA (w0 := wo1) (PL := PL) (p := (nxApp8 wo1.heap.size (.slice ma k mc) k us)) (.tmp 27) (.tmp 28) 29 rfl iL (.slice none 0 0) 24 Tryz.underlying29 hiL hzL0 hzL1 hzL2 rfl (show (0 : Nat) < 1 from by decide) OKA.out hp1 rfl (hM.old _ (List.mem_of_getElem? hp1) U2.out) ⟨x12, 0, none⟩ 1 rfl [.slice none 0 0] rfl rfl (news_blk hnb.1) (by intro u hu; simp at hu; rw [hu]; rfl) (by show k + 1 <= maxLen; unfold maxLen; omega) (by show (k + 1) * 24 <= _; omega) (Nat.le_trans (by omega) hM.size) (show (0 : Nat) < 1 from by decide) hM.size (fun v W2 g1 g2 g3 _ => ⟨g1, g2, g3⟩)
   obtain ⟨ma3, mc3, hv2⟩ := hv
   replace hv2 : v = .slice ma3 (k + 1) mc3 := hv2
   subst hv2
   go_simp
   refine hK _ _ ?_
   clear hK K
   repeat (refine RegG.regStep (fun K hK => ?_); first | (refine RegG.regN rfl ?_; try go_simp; refine hK _ _ ?_; clear hK K) | (refine RegG.regF rfl rfl ?_; unfold floatAt; go_simp; refine hK _ _ ?_; clear hK K))
   refine RegG.regNil (fun W7 hW hH => ?_)
   have hM := (HC.out W7).1 hW
   have Q1 : Hid (Ap3.After (w.heap.size + 5) wo1 (nxApp8 wo1.heap.size (.slice ma k mc) k us) W7 (.slice ma3 (k + 1) mc3)) := hid (hH _ (List.mem_of_getElem? (show _ = some _ from rfl : _[0]? = some _)))
   have Q0 : Hid (Ap3.After (w.heap.size + 5) wo1 (setApp wo1.heap.size (.slice na k nc) k xs (encS (letW [c])).toList) W7 (.slice na3 (k + 1) nc3)) := hid (hH _ (List.mem_of_getElem? (show _ = some _ from rfl : _[2]? = some _)))
   have K7 : Hid (Keeps (fun x => x < wo1.heap.size /\ ¬ ∃ q ∈ PL, q.v.ownBlock = some x) wo1 W7) := hid hM.keeps
   have KR : Hid (∀ (bs m : Nat) (u : Value) (ys : List Value), wo1.ownsRow bs 3 1 u m ys -> W7.ownsRow bs 3 1 u m ys) := hid (by
    intro bs m u ys ho
    refine ownsRow_keeps ho K7.out fun x hx => ⟨(ho.lt x hx).2, ?_⟩
    rintro ⟨q, hq, hqb⟩
    rcases HALL.out q hq with rfl | rfl
    ·rcases ownBlock_ne (by decide) ho U0.out with h5 | h5
     ·rw [h5] at hx; cases hx
     ·exact h5 (hx.trans hqb.symm)
    ·rcases ownBlock_ne (by decide) ho U2.out with h5 | h5
     ·rw [h5] at hx; cases hx
     ·exact h5 (hx.trans hqb.symm))
   have B7 := hid (HB.out.keeps K7.out ⟨HB.out.lt, HNP.out _ (.inl (by omega))⟩)
   have IT7 : Hid (W7.heap[w.heap.size + 4]? = some (.stringIter s (k + 1))) := hid ((K7.out.keep _ ⟨by omega, HNP.out _ (.inl (by omega))⟩).trans HIT.out)
   have X7 : Hid (Keeps (fun x => x < w.heap.size + 3) V W7) := hid (HX.out.tr (K7.out.mono fun x (hx : x < w.heap.size + 3) => ⟨by omega, HNP.out x (by omega)⟩))
   have O7 : Hid (W7.ownsRow (w.heap.size + 5) 70 4 (.slice na3 (k + 1) nc3) (k + 1) (flatS ((l.take (k + 1)).map fun c => letW [c]))) := hid (by
    obtain ⟨⟨ns, h5, h6⟩, _⟩ := Q0.out
    replace h6 : ns = (encS (letW [c])).toList := h6
    subst h6
    rw [List.take_add_one, HLC.out, Option.toList_some, List.map_append, flatS_append, <- HXS.out]
    replace h5 : W7.ownsRow (w.heap.size + 5) 70 4 (.slice na3 (k + 1) nc3) (k + 1) (xs ++ (encS (letW [c])).toList) := h5
    have e : flatS ([c].map fun c => letW [c]) = (encS (letW [c])).toList := by simp [flatS]
    rw [e]
    exact h5)
   have P7 : Hid (W7.ownsRow (w.heap.size + 5) 37 1 (.slice ma3 (k + 1) mc3) (k + 1) (us ++ [.slice none 0 0])) := hid (by
    obtain ⟨⟨ns, h5, h6⟩, _⟩ := Q1.out
    replace h6 : ns = [.slice none 0 0] := h6
    subst h6
    exact h5)
   have P8 : Hid (∀ (i : Nat) (u : Value) (l : List Int), us[i]? = some u -> (folK k)[i]? = some l -> W7.ownsRow (w.heap.size + 5) 3 1 u l.length (l.map encZ)) := hid fun i u l hu hl => KR.out _ _ _ _ (U3.out i u l hu hl)
   have hs7 : wo1.heap.size <= W7.heap.size := K7.out.size
   clear hM hW hH HC o1 o2 hp0 hp1 OKA HALL HNP K7 KR HB HIT HX Q0 Q1 L1 L2 U0 U2 U3 HXS FAR hne
   obtain ⟨k0, k1, k2, k3, k4⟩ := B7.out.five
   have z0 := B7.out.frozen 0
   have z1 := B7.out.frozen 1
   have kg : Keeps (· ≠ w.heap.size + 3) W7 ((W7.setCell ⟨w.heap.size + 3, 0, none⟩ (.slice na3 (k + 1) nc3)).setCell ⟨w.heap.size + 3, 1, none⟩ (.slice ma3 (k + 1) mc3)) :=
    ((Keeps.refl _ _).setCell (p := ⟨w.heap.size + 3, 0, none⟩) (fun h => h rfl) _).setCell (p := ⟨w.heap.size + 3, 1, none⟩) (fun h => h rfl) _
   obtain ⟨W8, hW8⟩ : ∃ W8, W8 = ((W7.setCell ⟨w.heap.size + 3, 0, none⟩ (.slice na3 (k + 1) nc3)).setCell ⟨w.heap.size + 3, 1, none⟩ (.slice ma3 (k + 1) mc3)) := ⟨_, rfl⟩
   rw [<- hW8] at kg
   have B8 : Hid (Blk W8 (w.heap.size + 3) #[.slice na3 (k + 1) nc3, .slice ma3 (k + 1) mc3, .slice (some ⟨w.heap.size + 1, 0, none⟩) 1 1, .slice (some ⟨w.heap.size + 2, 0, none⟩) 1 1, .bool false] 44) := hid (by rw [hW8]; exact (B7.out.set 0 _).set 1 _)
   have IT8 : Hid (W8.heap[w.heap.size + 4]? = some (.stringIter s (k + 1))) := hid ((kg.keep _ (by show w.heap.size + 4 ≠ _; omega)).trans IT7.out)
   have X8 : Hid (Keeps (fun x => x < w.heap.size + 3) V W8) := hid (X7.out.tr (kg.mono fun x (hx : x < w.heap.size + 3) => by show x ≠ _; omega))
   have O8 := hid (ownsRow_keeps O7.out kg fun x e => by have := (O7.out.lt x e).1; show x ≠ _; omega)
   have R8 := hid (ownsRow_keeps P7.out kg fun x e => by have := (P7.out.lt x e).1; show x ≠ _; omega)
   have S8 : Hid (∀ (i : Nat) (u : Value) (l : List Int), us[i]? = some u -> (folK k)[i]? = some l -> W8.ownsRow (w.heap.size + 5) 3 1 u l.length (l.map encZ)) := hid fun i u l hu hl => by
    have h5 := P8.out i u l hu hl
    exact ownsRow_keeps h5 kg fun x e => by have := (h5.lt x e).1; show x ≠ _; omega
   have hs8 : W7.heap.size <= W8.heap.size := kg.size
   clear kg O7 P7 P8 X7 IT7 B7
   go_upto_if 33 with fail
   rw [<- hW8]
   clear hW8 k0 k1 k2 k3 k4 z0 z1
   by_cases hk0 : k = 0
   ·subst hk0
    have hk1 : ¬ ((0 : Int) < ((0 : Nat) : Int)) := by decide
    go_wp2
    go_roundw
    case rel =>
     refine ⟨1, _, _, by omega, IT8.out, B8.out, O8.out, ?_, X8.out, by omega⟩
     refine ⟨us ++ [.slice none 0 0], by rw [List.length_append, HUS.out, folK_len]; rfl, by rw [List.length_append, HUS.out]; exact R8.out, fun i u l hu hl => ?_⟩
     have hi := (List.getElem?_eq_some_iff.1 hl).1
     rw [folK_len] at hi
     obtain rfl : i = 0 := by omega
     rw [List.getElem?_append_right (by rw [HUS.out]; omega), HUS.out] at hu
     cases hu
     cases hl
     exact World.ownsRow_nil _ _ _ _
    case measure =>
     rw [iterPos_of IT8.out]
     omega
   ·have hk1 : (0 : Int) < k := by omega
    have hk2 : IntKind.i64.wrap ((k : Int) - 1) = ((k - 1 : Nat) : Int) := by rw [IntWalk.i64_in _ (by omega)]; omega
    have hk3 : ((k - 1 : Nat) : Int) < ((k : Int) + 1) := by omega
    have hk4 : k - 1 < k + 1 := by omega
    obtain ⟨g, uo, e1, hg1, hg2, hgu, gc, gf⟩ := rowCell R8.out hk4
    have e2 : ma3 = some ⟨g, 0, none⟩ := e1
    subst e2
    have m1 : W8.cell? ⟨w.heap.size + 3, 1, none⟩ = some (.slice (some ⟨g, 0, none⟩) (k + 1) mc3) := B8.out.cell 1
    go_wp2
    go_roundw
    case rel =>
     have kg : Keeps (· ≠ g) W8 (W8.setCell ⟨g, k - 1, none⟩ (.slice (some ⟨W8.heap.size, 0, none⟩) 1 1)) := (Keeps.refl _ _).setCell (p := ⟨g, k - 1, none⟩) (fun h => h rfl) _
     have ksz : (W8.setCell ⟨g, k - 1, none⟩ (.slice (some ⟨W8.heap.size, 0, none⟩) 1 1)).heap.size = W8.heap.size := by simp
     have rw8 := (R8.out.stored (k - 1) (.slice (some ⟨W8.heap.size, 0, none⟩) 1 1)).1.alloc (.cells #[.int .i64 k] 3)
     have far : ∀ {e : TypeId} {size m : Nat} {u : Value} {ys : List Value}, W8.ownsRow (w.heap.size + 5) e size u m ys -> e ≠ 37 -> ((W8.setCell ⟨g, k - 1, none⟩ (.slice (some ⟨W8.heap.size, 0, none⟩) 1 1)).alloc (.cells #[.int .i64 k] 3)).ownsRow (w.heap.size + 5) e size u m ys := fun h he => (ownsRow_keeps h kg fun x hx e2 => by
      rcases ownBlock_ne he h R8.out with h5 | h5
      ·rw [h5] at hx; cases hx
      ·exact h5 (hx.trans (by rw [e2]; rfl))).alloc _
     have xk : Keeps (fun x => x < w.heap.size + 3) W8 ((W8.setCell ⟨g, k - 1, none⟩ (.slice (some ⟨W8.heap.size, 0, none⟩) 1 1)).alloc (.cells #[.int .i64 k] 3)) := (kg.mono fun x (hx : x < w.heap.size + 3) => by show x ≠ g; omega).alloc (fun y hy => by have : y < w.heap.size + 3 := hy; omega) _
     refine ⟨k + 1, _, _, by omega, (heap_alloc_old _ _ (by rw [ksz]; omega)).trans ((kg.keep _ (by show w.heap.size + 4 ≠ g; omega)).trans IT8.out), (B8.out.keeps kg (by omega)).alloc _, far O8.out (by decide), ?_, X8.out.tr xk, by simp; omega⟩
     have hlen : ((us ++ [Value.slice none 0 0]).set (k - 1) (.slice (some ⟨W8.heap.size, 0, none⟩) 1 1)).length = k + 1 := by rw [List.length_set, List.length_append, HUS.out]; rfl
     refine ⟨(us ++ [Value.slice none 0 0]).set (k - 1) (.slice (some ⟨W8.heap.size, 0, none⟩) 1 1), by rw [hlen, folK_len], by rw [hlen]; exact rw8, fun i u l hu hl => ?_⟩
     have hi := (List.getElem?_eq_some_iff.1 hl).1
     rw [folK_len] at hi
     rw [folK_get hi] at hl
     by_cases ei : i = k - 1
     ·subst ei
      rw [List.getElem?_set_self (by rw [List.length_append, HUS.out]; simp; omega)] at hu
      cases hu
      rw [if_pos (by omega)] at hl
      cases hl
      refine ⟨rfl, .inr ⟨W8.heap.size, 1, #[.int .i64 k], rfl, by omega, heap_new_at8 ksz, Nat.le_refl _, by unfold maxLen; omega, rfl, ?_⟩⟩
      ·have : ((k - 1 : Nat) : Int) + 1 = k := by omega
       simp only [List.map_cons, List.map_nil, encZ]
       rw [<- this]; simp
     ·rw [List.getElem?_set_ne (fun h => ei h.symm)] at hu
      by_cases ek : i < k
      ·rw [List.getElem?_append_left (by rw [HUS.out]; exact ek)] at hu
       rw [if_pos (by omega)] at hl
       cases hl
       refine far (S8.out i u _ hu ?_) (by decide)
       rw [folK_get ek, if_pos (by omega)]
      ·obtain rfl : i = k := by omega
       rw [List.getElem?_append_right (by rw [HUS.out]; omega), HUS.out, Nat.sub_self] at hu
       cases hu
       rw [if_neg (by omega)] at hl
       cases hl
       exact World.ownsRow_nil _ _ _ _
    case measure =>
     have kg : Keeps (· ≠ g) W8 (W8.setCell ⟨g, k - 1, none⟩ (.slice (some ⟨W8.heap.size, 0, none⟩) 1 1)) := (Keeps.refl _ _).setCell (p := ⟨g, k - 1, none⟩) (fun h => h rfl) _
     rw [hpos, iterPos_of ((heap_alloc_old _ _ (by simp; omega)).trans ((kg.keep _ (by show w.heap.size + 4 ≠ g; omega)).trans IT8.out))]
     omega
  ·obtain rfl : k = n := by omega
   have hks : ¬ k < s.size := by omega
   have hnx : ∀ ty, (Instr.next (.pointer (some ⟨w.heap.size + 4, 0, none⟩)) true ty).run Tryz.prog wo = _ := fun ty => Lib.run_next_end_at wo (w.heap.size + 4) s k ty hit hks
   obtain ⟨ua, uc, rfl⟩ := ownsRow_form h0
   obtain ⟨fa, fc, rfl⟩ := h1'.form
   rw [folK_len] at *
   have R9 := hid (R0.out.keeps hx (by show w.heap.size < _; omega))
   have C1 := hid (A1.out.keeps hx (by show w.heap.size + 1 < _; omega))
   have C2 := hid (A2.out.keeps hx (by show w.heap.size + 2 < _; omega))
   have HB := hid hb
   have H0 := hid h0
   have H1 := hid h1'
   have HX := hid (XV.out.trans (hx.mono fun x (h : x < w.heap.size) => by show x < _; omega : Keeps (· < w.heap.size) V wo).below)
   have htk : (l.take k).map (fun c => letW [c]) = (wordN l).sets := by rw [HNN.out, List.take_length]; rfl
   rw [htk] at H0
   have HFK : Hid (folK k = (wordN l).fol) := hid (by unfold folK wordN; rw [HNN.out])
   obtain ⟨k0, k1, k2, k3, k4⟩ := HB.out.five
   obtain ⟨y0, y1, y2, y3, y4⟩ := R9.out.five
   have z0 := R9.out.frozen 0
   have z1 := R9.out.frozen 1
   have z2 := R9.out.frozen 2
   have z3 := R9.out.frozen 3
   have z4 := R9.out.frozen 4
   clear h0 h1' hb hx hit
   go_wp2
   refine post_named ?_
   intro W9 hW9
   have E9 : Hid (Blk W9 w.heap.size #[.slice ua k uc, .slice fa k fc, .slice (some ⟨w.heap.size + 1, 0, none⟩) 1 1, .slice (some ⟨w.heap.size + 2, 0, none⟩) 1 1, .bool false] 44 /\ Keeps (· ≠ w.heap.size) wo W9) := by
    rw [hW9]
    exact hid ⟨R9.out.set5, keeps_set5 _ _ _ _ _ _ _⟩
   clear hW9 z0 z1 z2 z3 z4 y0 y1 y2 y3 y4 k0 k1 k2 k3 k4
   obtain ⟨m0, m1, m2, m3, m4⟩ := E9.out.1.five
   refine bodyPost_ret (v := .agg #[.slice ua k uc, .slice fa k fc, .slice (some ⟨w.heap.size + 1, 0, none⟩) 1 1, .slice (some ⟨w.heap.size + 2, 0, none⟩) 1 1, .bool false]) (by simp [results, Tryz.results36, go_sem, m0, m1, m2, m3, m4]) rfl ⟨_, rfl, ⟨_, _, _, _, rfl, ?_, ?_, ?_, ?_⟩, HX.out.trans (E9.out.2.mono fun x (hx : x < w.heap.size) => by show x ≠ w.heap.size; omega : Keeps (· < w.heap.size) wo W9).below⟩
   ·have h5 := ownsRow_base (ownsRow_keeps H0.out E9.out.2 fun x e => by have := (H0.out.lt x e).1; show x ≠ _; omega) (show w.heap.size <= w.heap.size + 5 by omega)
    have e : (wordN l).sets.length = k := by rw [HNN.out]; simp [wordN]
    rw [e]; exact h5
   ·rw [<- HFK.out]
    exact (H1.out.keeps E9.out.2 fun x g1 _ => by show x ≠ _; omega).base (by omega)
   ·have D1 := C1.out.keeps E9.out.2 (by omega)
    exact ⟨rfl, .inr ⟨w.heap.size + 1, 1, #[.int .i64 0], rfl, by omega, D1, Nat.le_refl _, by unfold maxLen; omega, rfl, rfl⟩⟩
   ·have D2 := C2.out.keeps E9.out.2 (by omega)
    refine ⟨rfl, .inr ⟨w.heap.size + 2, 1, #[.int .i64 ((k : Int) - 1)], rfl, by omega, D2, Nat.le_refl _, by unfold maxLen; omega, rfl, ?_⟩⟩
    rw [HNN.out]; rfl
end Go.Proofs.YtbiboekhakbnpaaGreatDoor
