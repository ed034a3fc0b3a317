/-
  Walks of package alphabet: the iterator 'members'; made, Of.
-/
import Derived.Test.YtokkgbcjjaiaeaaAlph1
namespace Go.Proofs.Ytokkgbcjjaiaeaa
open Go Go.RowKit Go.Shelf Go.Maps
attribute [local go_sem] encS Oper.semAt_some wide_fn wide_depth

theorem members_call (ad : Option Addr) (w : World) : Calls Try.prog 94 #[.pointer ad] w fun e w' => e = .returned (.func (.func 110) #[] #[.pointer (some ⟨w.heap.size, 0, none⟩)]) ∧ w' = w.alloc (.cells #[.pointer ad] 31 (0, 0)) := by
  go_enter Try.func94, Try.ntmps94
  go_wp2
  go_ret
  exact ⟨rfl, rfl⟩

/-- Where a slice of sets lies, its row at block g. -/
def RowAt (w : World) (g : Nat) (sa : Option Addr) (p : List BS) : Prop := g < w.heap.size ∧ ∀ i s, p[i]? = some s → sa = some ⟨g, 0, none⟩ ∧ ∀ j, j < 4 → w.cell? ⟨g, i * 4 + j, none⟩ = (encS s)[j]?
theorem RowAt.keeps {w w' : World} {g : Nat} {sa : Option Addr} {p : List BS} (h : RowAt w g sa p) {R : Nat → Prop} (hk : Keeps R w w') (hr : R g) : RowAt w' g sa p :=
  ⟨Nat.lt_of_lt_of_le h.1 hk.size, fun i s hi => ⟨(h.2 i s hi).1, fun j hj => (hk.cell (p := ⟨g, i * 4 + j, none⟩) hr).trans ((h.2 i s hi).2 j hj)⟩⟩

theorem ownsRow_bytes {w : World} {base n : Nat} {v : Value} {l : List Nat} (h : w.ownsRow base 5 1 v n (l.map encB)) (hn : n = l.length) : ∃ g a cap, v = .slice a n cap ∧ (n = 0 ∨ a = some ⟨g, 0, none⟩ ∧ base ≤ g ∧ g < w.heap.size ∧ ∀ i c : Nat, l[i]? = some c → w.cell? ⟨g, i, none⟩ = some (.int .u8 c)) := by
  rcases h.2 with ⟨h1, h2⟩ | ⟨g, cap, cur, hv, hb, hg, _, _, hs, ht⟩
  · exact ⟨0, none, 0, by rw [h1, h2], .inl h2⟩
  · refine ⟨g, _, cap, hv, .inr ⟨rfl, hb, (Array.getElem?_eq_some_iff.1 hg).1, fun i c hi => ?_⟩⟩
    have hlt : i < l.length := (List.getElem?_eq_some_iff.1 hi).1
    have hc : w.cell? ⟨g, i, none⟩ = cur[i]? := by simp [World.cell?, hg]
    have h3 : cur[i]? = (l.map encB)[i]? := by
      rw [← ht, List.getElem?_take, if_pos (by omega)]; simp
    rw [hc, h3, List.getElem?_map, hi]; rfl

set_option maxRecDepth 100000 in
set_option maxHeartbeats 2000000 in
/-- THE ITERATOR: the bytes of all classes, with their numbers. -/
theorem members_seq (p : List BS) (bx ab g n cap : Nat) (sa : Option Addr) (w : World) (hp : n = p.length) (hn : p.length ≤ 256) (hbx : w.cell? ⟨bx, 0, none⟩ = some (.pointer (some ⟨ab, 0, none⟩))) (hbs : bx < w.heap.size)
    (hab : w.cell? ⟨ab, 256, none⟩ = some (.slice sa n cap)) (has : ab < w.heap.size) (hr : RowAt w g sa p) :
    Seq false Try.prog 110 #[.pointer (some ⟨bx, 0, none⟩)] (fun x : Nat × Nat => #[.int .i64 x.1, .int .u8 x.2]) (· = g) (pairsOf p) w := by
  intro l J Jx W hK hJ hJx hY h0
  have c0 : W.cell? ⟨bx, 0, none⟩ = _ := (hK.cell (p := ⟨bx, 0, none⟩) hbs).trans hbx
  have c1 : W.cell? ⟨ab, 256, none⟩ = _ := (hK.cell (p := ⟨ab, 256, none⟩) has).trans hab
  have hr1 : RowAt W g sa p := hr.keeps hK hr.1
  have HY := Lib.hid hY
  have HB := Lib.hid fun s W => bytes_any s W
  have HR1 := Lib.hid hr1
  have HJ := Lib.hid hJ
  have HP := Lib.hid hp
  have hn' : n ≤ 256 := by omega
  clear hY hbx hab hbs has hr hr1 hJx hK hJ hp hn
  refine callsIn_wide (n := 0).1 ?_
  refine callsIn_of_wp Try.func110 rfl trivial ?_ rfl
  simp only [Try.ntmps110, List.size_toArray, List.length_cons, List.length_nil, Nat.reduceAdd, Nat.reduceSub, Array.replicate_succ, Array.replicate_zero, List.push_toArray, List.append_toArray, List.nil_append, List.cons_append]
  gi_wp2
  gi_loopw [12] (fun i wr => ∃ (k : Nat) (T : Nat → Prop), k ≤ n ∧ i = .int .i64 k ∧ J (pairsOf (p.take k)) T wr ∧ (∀ k, T k → W.heap.size ≤ k ∧ k < wr.heap.size) ∧ Keeps (· = g) W wr)
    (fun i _ => n - (intOf i).toNat)
  case atStart =>
    exact ⟨0, fun _ => False, by omega, rfl, h0, fun _ h => h.elim, Keeps.refl _ _⟩
  case round =>
    clear c0 c1 h0
    obtain ⟨wo, rfl⟩ : ∃ wo : World, wo = wr := ⟨_, rfl⟩
    obtain ⟨k, T, hk, rfl, hj, hT, hR⟩ := hrel
    have HJo := Lib.hid hj
    have HT := Lib.hid hT
    have HR := Lib.hid hR
    clear hj hT hR
    by_cases hlt : k < n
    · obtain ⟨s, hs⟩ : ∃ s, p[k]? = some s := ⟨_, List.getElem?_eq_getElem (by have := HP.out; omega)⟩
      obtain ⟨hsa, hcs⟩ := (HR1.out.keeps HR.out rfl).2 k s hs
      subst hsa
      have d0 : wo.cell? ⟨g, k * 4, none⟩ = some (.int .u64 (wd s 0).toNat) := hcs 0 (by decide)
      have d1 : wo.cell? ⟨g, k * 4 + 1, none⟩ = some (.int .u64 (wd s 1).toNat) := hcs 1 (by decide)
      have d2 : wo.cell? ⟨g, k * 4 + 2, none⟩ = some (.int .u64 (wd s 2).toNat) := hcs 2 (by decide)
      have d3 : wo.cell? ⟨g, k * 4 + 3, none⟩ = some (.int .u64 (wd s 3).toNat) := hcs 3 (by decide)
      have HPT := Lib.hid (pairsOf_take hs)
      have HPX := Lib.hid (pairsOf_prefix hs)
      have HBL : Hid (∀ c ∈ bytesTo s 256, c < 256) := fun c h => bytesTo_lt h
      have HBs := Lib.hid (HB.out s)
      have hlen : (bytesTo s 256).length ≤ 256 := by unfold bytesTo; exact Nat.le_trans (List.length_filter_le _ _) (by simp)
      clear hcs hs
      generalize bytesTo s 256 = bs at HPT HPX HBL HBs hlen
      obtain ⟨m, hm⟩ : ∃ m, m = bs.length := ⟨_, rfl⟩
      rw [← hm] at HBs hlen
      have HM := Lib.hid hm
      clear hm
      gi_wp2_with (gi_at_call 111; refine (callsIn_wide.2 (HBs.out _)).mono ?_; rintro e w1 ⟨v, rfl, h1, h2⟩; obtain ⟨gb, ba, bcap, rfl, h3⟩ := ownsRow_bytes h1 HM.out; have H2 := Lib.hid h2; have H3 := Lib.hid h3; clear h1 h2 h3)
      obtain ⟨T', hT'⟩ : ∃ T' : Nat → Prop, T' = fun x => T x ∨ (0 < m ∧ x = gb) := ⟨_, rfl⟩
      have hx1 : Below wo.heap.size wo w1 := ((Ext.refl wo).alloc _).below.trans (H2.out.mono (by simp))
      have hsz : wo.heap.size ≤ w1.heap.size := hx1.size
      have hTb : ∀ x, T' x → W.heap.size ≤ x ∧ x < w1.heap.size := fun x hx => by
        rw [hT'] at hx
        rcases hx with hx | ⟨h0, rfl⟩
        · have := HT.out x hx; omega
        · rcases H3.out with h | ⟨_, h1, h2, _⟩
          · omega
          · have := HR.out.size; simp at h1; omega
      have hj1 : J (pairsOf (p.take k)) T' w1 := HJ.out _ T T' wo w1 HJo.out HT.out hTb (fun x hx => by rw [hT']; exact .inl hx) (fun x hx => by
        rw [hT'] at hx
        rcases hx with hx | ⟨h0, rfl⟩
        · exact .inl hx
        · rcases H3.out with h | ⟨_, h1, h2, _⟩
          · omega
          · simp at h1; exact .inr (by omega)) ⟨Keeps.of_below hx1 fun _ h => h.1, fun h => (by cases h)⟩
      have hk1 : Keeps (· = g) W w1 := HR.out.tr (Keeps.of_below hx1 fun x h => by have h1 := (HR1.out.keeps HR.out rfl).1; rw [show x = g from h]; exact h1)
      have H3' : Hid (m = 0 ∨ ba = some ⟨gb, 0, none⟩ ∧ T' gb ∧ ∀ i c : Nat, bs[i]? = some c → w1.cell? ⟨gb, i, none⟩ = some (.int .u8 c)) := by
        by_cases hm0 : m = 0
        · exact .inl hm0
        · rcases H3.out with h | ⟨h1, _, _, h4⟩
          · exact absurd h hm0
          · exact .inr ⟨h1, by rw [hT']; exact .inr ⟨by omega, rfl⟩, h4⟩
      have HJ1 := Lib.hid hj1
      have HK1 := Lib.hid hk1
      have HTb := Lib.hid hTb
      clear hT' hx1 hsz hTb hj1 hk1 H3 H2 HJo HT HR d0 d1 d2 d3 HBs
      gi_loopw [20] (fun i w2 => ∃ j : Nat, j ≤ m ∧ i = .int .i64 j ∧ J (pairsOf (p.take k) ++ (bs.take j).map fun c => (k, c)) T' w2 ∧ Keeps (fun x => x = g ∨ T' x) w1 w2) (fun i _ => m - (intOf i).toNat)
      case atStart =>
        refine ⟨0, by omega, rfl, ?_, Keeps.refl _ _⟩
        rw [List.take_zero, List.map_nil, List.append_nil]; exact HJ1.out
      case round =>
        obtain ⟨w2, rfl⟩ : ∃ w2 : World, w2 = wr := ⟨_, rfl⟩
        obtain ⟨j, hj, rfl, hjj, hkk⟩ := hrel
        have HJJ := Lib.hid hjj
        have HKK := Lib.hid hkk
        clear hjj hkk HJ1
        by_cases hjm : j < m
        · obtain ⟨hba, hg, hcb⟩ := H3'.out.resolve_left (by omega)
          subst hba
          obtain ⟨c, hc⟩ : ∃ c, bs[j]? = some c := ⟨_, List.getElem?_eq_getElem (by have := HM.out; omega)⟩
          have hc256 : c < 256 := HBL.out c (List.mem_of_getElem? hc)
          have e0 : w2.cell? ⟨gb, j, none⟩ = some (.int .u8 c) := (HKK.out.cell (p := ⟨gb, j, none⟩) (.inr hg)).trans (hcb j c hc)
          have htk : (bs.take (j + 1)).map (fun c => (k, c)) = (bs.take j).map (fun c => (k, c)) ++ [(k, c)] := by rw [List.take_add_one, hc]; simp
          have hpx : (pairsOf (p.take k) ++ (bs.take j).map fun c => (k, c)) ++ [(k, c)] <+: pairsOf p := by
            have := HPX.out (j + 1)
            rw [htk, ← List.append_assoc] at this; exact this
          obtain ⟨fn, tm, asg, bd, hy, hRd⟩ := HY.out _ (k, c) T' w2 hpx (fun x hx => ⟨(HTb.out x hx).1, Nat.lt_of_lt_of_le (HTb.out x hx).2 HKK.out.size⟩) (HK1.out.tr (HKK.out.mono fun x hx => .inl hx)) HJJ.out
          have HRd := Lib.hid hRd
          have HTK := Lib.hid htk
          have HPJ := Lib.hid hpx
          clear hRd hg hcb hc htk hpx
          dsimp only at hy
          gi_wp2
          refine HRd.out.mono ?_
          rintro e W2 (⟨rfl, hj2, hk2⟩ | ⟨rfl, hj2, hk2⟩)
          · have HJ2 := Lib.hid hj2
            have HK2 := Lib.hid hk2
            clear hj2 hk2 hy
            gi_wp2
            go_roundw
            case rel =>
              refine ⟨j + 1, by omega, by go_num, ?_, HKK.out.tr (HK2.out)⟩
              rw [HTK.out, ← List.append_assoc]; exact HJ2.out
            case measure => simp [intOf]; omega
          · have HJ2 := Lib.hid hj2
            have HK2 := Lib.hid hk2
            clear hj2 hk2 hy
            gi_wp2
            refine bodyPost_ret (results_none rfl _ _ _) rfl ?_
            exact ⟨⟨_, rfl⟩, T', fun x hx => ⟨(HTb.out x hx).1, Nat.lt_of_lt_of_le (HTb.out x hx).2 (Nat.le_trans HKK.out.size HK2.out.size)⟩, .inr ⟨_, HPJ.out, HJ2.out⟩⟩
        · obtain rfl : j = m := by omega
          gi_wp2
          go_roundw
          case rel =>
            refine ⟨k + 1, T', by omega, by go_num, ?_, fun x hx => ⟨(HTb.out x hx).1, Nat.lt_of_lt_of_le (HTb.out x hx).2 HKK.out.size⟩, HK1.out.tr (HKK.out.mono fun x hx => .inl hx)⟩
            rw [HPT.out]
            have := HJJ.out
            rwa [HM.out, List.take_length] at this
          case measure => simp [intOf]; omega
    · obtain rfl : k = n := by omega
      gi_wp2
      refine bodyPost_end (results_none rfl _ _ _) rfl ?_
      refine ⟨⟨_, rfl⟩, T, HT.out, .inl ?_⟩
      have := HJo.out
      rwa [HP.out, List.take_length] at this

theorem ownsRow_rowAt {w : World} {base n : Nat} {v : Value} {p : List BS} (h : w.ownsRow base 25 4 v n (flatS p)) (hn : n = p.length) : ∃ sa cap, v = .slice sa n cap ∧ ((p = [] ∧ n = 0) ∨ ∃ g, RowAt w g sa p) := by
  rcases h.2 with ⟨h1, h2⟩ | ⟨g, cap, cur, hv, hb, hg, _⟩
  · exact ⟨none, 0, by rw [h1, h2], .inl ⟨List.eq_nil_of_length_eq_zero (by omega), h2⟩⟩
  · refine ⟨_, cap, hv, .inr ⟨g, (Array.getElem?_eq_some_iff.1 hg).1, fun i s hi => ?_⟩⟩
    obtain ⟨g', cap', h6, h7, h8, h9⟩ := ownsRow_elem h hn hi
    rw [hv] at h6; cases h6
    exact ⟨rfl, h9⟩

theorem zeroCells_al (v : Value) : Try.zeroCells60.setIfInBounds 256 v = alCells (tabFold []) v := by kernel_rfl

set_option maxRecDepth 100000 in
set_option maxHeartbeats 2000000 in
theorem made_any (p : List BS) (v : Value) (base : Nat) (w : World) (h : w.ownsRow base 25 4 v p.length (flatS p)) (hb : base ≤ w.heap.size) (hp : p.length ≤ 256) :
    Calls Try.prog 66 #[v] w fun e w' => ∃ b, e = .returned (.pointer (some ⟨b, 0, none⟩)) ∧ IsAl w' base (.pointer (some ⟨b, 0, none⟩)) p ∧ Below w.heap.size w w' := by
  have eg : ∀ args w, (callFunc 110 args).run Try.prog w = .ok (.enter 110 args) w := enters_of Try.func110 (by kernel_rfl) rfl
  obtain ⟨n, hn⟩ : ∃ n, n = p.length := ⟨_, rfl⟩
  rw [← hn] at h
  obtain ⟨sa, cap, rfl, hrow⟩ := ownsRow_rowAt h hn
  have H := Lib.hid h
  have HR := Lib.hid hrow
  have HN := Lib.hid hn
  have HP := Lib.hid hp
  have HB := Lib.hid hb
  clear h hrow hn hp hb
  refine calls_of_wp_marks Try.func66 rfl ?_
  simp only [Try.ntmps66, List.size_toArray, List.length_cons, List.length_nil, Nat.reduceAdd, Nat.reduceSub, Array.replicate_succ, Array.replicate_zero, List.push_toArray, List.append_toArray, List.nil_append, List.cons_append]
  go_wp2_with (go_at_call 94; refine (members_call _ _).mono ?_; rintro e w1 ⟨rfl, rfl⟩)
  rw [zeroCells_al]
  refine wp_named ?_
  intro W0 hW0
  have hab : Blk W0 w.heap.size (alCells (tabFold []) (.slice sa n cap)) 60 := by rw [hW0]; exact ((Blk.new _ _ _).alloc _).alloc _
  have hbx : Blk W0 (w.heap.size + 1) #[.pointer (some ⟨w.heap.size, 0, none⟩)] 31 := by rw [hW0]; exact ((Blk.new _ _ _).at (by simp)).alloc _
  have hcl : Blk W0 (w.heap.size + 1 + 1) #[.pointer (some ⟨w.heap.size, 0, none⟩)] 31 := by rw [hW0]; exact (Blk.new _ _ _).at (by simp)
  have hx0 : Ext w W0 := by rw [hW0]; exact (((Ext.refl w).alloc _).alloc _).alloc _
  have hsz : W0.heap.size = w.heap.size + 1 + 1 + 1 := by rw [hW0]; simp
  clear hW0
  obtain ⟨g, hg, hr⟩ : ∃ g, (g ≠ w.heap.size ∧ g ≠ w.heap.size + 1 ∧ g < W0.heap.size) ∧ RowAt W0 g sa p := by
    rcases HR.out with ⟨h1, _⟩ | ⟨g, h1⟩
    · exact ⟨w.heap.size + 1 + 1, ⟨by omega, by omega, by omega⟩, by omega, fun i s hi => by rw [h1] at hi; simp at hi⟩
    · exact ⟨g, ⟨by have := h1.1; omega, by have := h1.1; omega, by have := h1.1; omega⟩, h1.keeps hx0.keeps h1.1⟩
  have hseq := members_seq p (w.heap.size + 1 + 1) w.heap.size g n cap sa W0 HN.out HP.out (hcl.cell 0) hcl.lt (by rw [hab.cell 256, alCells_list (tabFold_length _)]) hab.lt hr
  clear hr hcl
  refine wp_range1 hseq (by rfl) eg (by intro _; rfl) (by intro k hk; rw [show k = g from hk]; exact hg.2.2)
    (fun xs _ W => Blk W w.heap.size (alCells (tabFold xs) (.slice sa n cap)) 60 ∧ Blk W (w.heap.size + 1) #[.pointer (some ⟨w.heap.size, 0, none⟩)] 31 ∧ Below w.heap.size w W)
    (fun _ _ _ _ => False)
    (fun xs T T' W W' ⟨h1, h2, h3⟩ hT _ _ _ hk => ⟨h1.stab hT hk (by omega), h2.stab hT hk (by omega), belowStab h3 hT hk (Nat.le_refl _) (by omega)⟩)
    (fun c xs T T' W W' h => h.elim)
    ⟨hab, hbx, hx0.below⟩
    (fun x => ⟨#[.slice sa n cap, undef, .pointer none, .pointer (some ⟨w.heap.size + 1, 0, none⟩), .int .i64 x.1, .int .u8 x.2, .slice sa n cap, .agg (alCells (tabFold []) (.slice sa n cap)), .pointer (some ⟨w.heap.size, 0, none⟩), .pointer (some ⟨w.heap.size, 0, none⟩),
      .func (.func 110) #[] #[.pointer (some ⟨w.heap.size + 1 + 1, 0, none⟩)], .int .i64 x.1, .int .u8 x.2, undef, undef, undef, undef, undef, undef, undef, undef], []⟩) ?assign ?body ?done ?stop
  case assign =>
    intro l x W K hK
    gi_wp2
    exact hK
  case body =>
    rintro l pre ⟨k, c⟩ T W hpre hT _ hTl hl ⟨g1, g2, g3⟩
    have hmem : (k, c) ∈ pairsOf p := hpre.subset (by simp)
    obtain ⟨s, h1, hc256, _⟩ := mem_pairsOf.1 hmem
    have hk256 : k < 256 := by have := (List.getElem?_eq_some_iff.1 h1).1; have := HP.out; dsimp only at *; omega
    dsimp only at hc256
    obtain ⟨y, hy⟩ : ∃ y, (tabFold pre)[c]? = some y := ⟨_, List.getElem?_eq_getElem (by rw [tabFold_length]; exact hc256)⟩
    have c0 : W.cell? ⟨w.heap.size + 1, 0, none⟩ = some (.pointer (some ⟨w.heap.size, 0, none⟩)) := g2.cell 0
    have c1 : W.cell? ⟨w.heap.size, c, none⟩ = some (.int .u8 y) := (g1.cell c).trans (alCells_tab hy)
    have f1 := g1.frozen c
    have hset := g1.set c (.int .u8 k)
    rw [alCells_set (by rw [tabFold_length]; exact hc256)] at hset
    have hts := tabFold_snoc pre (k, c)
    rw [← hts] at hset
    have HSET := Lib.hid hset
    have HG2 := Lib.hid (g2.other (p := ⟨w.heap.size, c, none⟩) (by simp) (.int .u8 k))
    have HG3 := Lib.hid (g3.setCell (p := ⟨w.heap.size, c, none⟩) (Nat.le_refl _) (.int .u8 k))
    have HT := Lib.hid hT
    have HG := Lib.hid hg
    have HSZ := Lib.hid hsz
    clear hset hts g1 g2 g3 hT hy h1 hmem hTl hl hg hsz hab hbx hx0 hpre hseq
    gi_wp2
    refine ⟨(Keeps.refl _ _).setCell (fun h => ?_) _, HSET.out, HG2.out, HG3.out⟩
    have hgg := HG.out
    have hss := HSZ.out
    rcases h with h | h
    · exact hgg.1 h.symm
    · have := (HT.out _ h).1; dsimp only at this; omega
  case done =>
    rintro D T W hD hTD hT ⟨g1, g2, g3⟩ hDD
    have c0 : W.cell? ⟨w.heap.size + 1, 0, none⟩ = some (.pointer (some ⟨w.heap.size, 0, none⟩)) := g2.cell 0
    have G1 := Lib.hid g1
    have G3 := Lib.hid g3
    have HD := Lib.hid hD
    have HSZ := Lib.hid hsz
    have HDD := Lib.hid hDD
    clear g1 g2 g3 hsz hT hTD hDD hD hg hab hbx hx0 hseq
    dsimp only
    go_wp2
    refine markPost_ret rfl HDD.out (results_tmp rfl _ _ _) ⟨_, rfl, .inr ⟨_, _, rfl, HB.out, G1.out.put (by have := HD.out; have := HSZ.out; omega) _, ?_, HP.out⟩, ((Keeps.of_below G3.out (fun _ h => h)).putObj (by have := HD.out; have := HSZ.out; omega) _).below⟩
    have h1 := ownsRow_keeps H.out (Keeps.of_below G3.out fun _ h => h) (fun k e => (H.out.lt k e).2)
    rw [HN.out] at h1
    rw [← HN.out, HN.out]
    exact ownsRow_putObj h1 _ HDD.out rfl
  case stop => rintro D c pre T W _ _ _ _ h _; exact h.elim
end Go.Proofs.Ytokkgbcjjaiaeaa
