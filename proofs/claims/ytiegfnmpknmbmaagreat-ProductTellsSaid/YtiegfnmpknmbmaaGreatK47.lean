/-
  The law for drawn regions once more: the pointers that plain allocs give are pairwise other ones. Printed by wip/gen/regd.py.
-/
import Derived.Test.YtiegfnmpknmbmaaGreatK01
import Derived.MapKept
namespace Go.Proofs.YtiegfnmpknmbmaaGreat
open Go Go.RowKit

/-- A plain alloc: always wanted, and it gives the next block. -/
def AllocAt (P : Program) (Cl : FuncId → Array Value → World → (Ending → World → Prop) → Prop) (Rd : Nat → FuncId → Array Value → Code → Code → World → (Ending → World → Prop) → Prop) (eff : Nat → Bool) (i : Nat) (o : Oper) : Prop :=
  eff i = true ∧ (∀ y, Region.wanted o y = true) ∧ ∀ (a : Act) (W : World) (X : Value → World → Prop), effT Cl Rd X ((execOp a.eval o).run P W) → effT Cl Rd (fun v W' => X v W' ∧ v = .pointer (some ⟨W.heap.size, 0, none⟩) ∧ W.heap.size < W'.heap.size) ((execOp a.eval o).run P W)
/-- The pointers that were given. -/
def AllocsApart (al : Nat → Bool) (m : Nat) (val : Nat → Value) : Prop := ∀ j k, j < m → k < m → al j = true → al k = true → j ≠ k → val j ≠ val k
structure OldAl (al : Nat → Bool) (L : Nat → Prop) (val : Nat → Value) (W : World) : Prop where
  old : ∀ j, L j → al j = true → ∃ b, val j = .pointer (some ⟨b, 0, none⟩) ∧ b < W.heap.size
  ne : ∀ j k, L j → L k → al j = true → al k = true → j ≠ k → val j ≠ val k
theorem OldAl.start {al : Nat → Bool} {L : Nat → Prop} {val : Nat → Value} {W : World} (h : ∀ j, ¬ L j) : OldAl al L val W := ⟨fun j hj => absurd hj (h j), fun j _ hj => absurd hj (h j)⟩
theorem OldAl.apart {al : Nat → Bool} {L : Nat → Prop} {val : Nat → Value} {W : World} {m : Nat} (h : OldAl al L val W) (hL : ∀ j, j < m → L j) : AllocsApart al m val := fun j k hj hk h1 h2 h3 => h.ne j k (hL j hj) (hL k hk) h1 h2 h3
theorem OldAl.skip {al : Nat → Bool} {L L' : Nat → Prop} {val : Nat → Value} {W : World} {i : Nat} (h : OldAl al L val W) (hi : al i = false) (hL : ∀ j, L' j → L j ∨ j = i) : OldAl al L' val W := by
  have key : ∀ j, L' j → al j = true → L j := fun j hj ha => (hL j hj).resolve_right fun e => by subst e; rw [hi] at ha; cases ha
  exact ⟨fun j hj ha => h.old j (key j hj ha) ha, fun j k hj hk h1 h2 h3 => h.ne j k (key j hj h1) (key k hk h2) h1 h2 h3⟩
theorem OldAl.step {al : Nat → Bool} {L L' : Nat → Prop} {val val' : Nat → Value} {W W' : World} {i : Nat} (h : OldAl al L val W) (hs : W.heap.size ≤ W'.heap.size) (hL : ∀ j, L' j → L j ∨ j = i) (hv : ∀ j, L j → val' j = val j) (hi : ¬ L i)
    (hn : al i = true → val' i = .pointer (some ⟨W.heap.size, 0, none⟩) ∧ W.heap.size < W'.heap.size) : OldAl al L' val' W' := by
  have key : ∀ j, L j → al j = true → ∃ b, val' j = .pointer (some ⟨b, 0, none⟩) ∧ b < W.heap.size := fun j hj ha => by rw [hv j hj]; exact h.old j hj ha
  refine ⟨fun j hj ha => ?_, fun j k hj hk h1 h2 h3 => ?_⟩
  · rcases hL j hj with hj | rfl
    · obtain ⟨b, e, hb⟩ := key j hj ha; exact ⟨b, e, by omega⟩
    · obtain ⟨e, hb⟩ := hn ha; exact ⟨_, e, hb⟩
  · rcases hL j hj with hj | rfl
    · rcases hL k hk with hk | rfl
      · rw [hv j hj, hv k hk]; exact h.ne j k hj hk h1 h2 h3
      · obtain ⟨b, e, hb⟩ := key j hj h1
        rw [e, (hn h2).1]
        intro e2; cases e2; omega
    · rcases hL k hk with hk | rfl
      · obtain ⟨b, e, hb⟩ := key k hk h2
        rw [e, (hn h1).1]
        intro e2; cases e2; omega
      · exact absurd rfl h3

section
variable {P : Program} {Cl : FuncId → Array Value → World → (Ending → World → Prop) → Prop} {Rd : Nat → FuncId → Array Value → Code → Code → World → (Ending → World → Prop) → Prop}
  {ops : Array Oper} {eff : Nat → Bool} {anc : Nat → Nat} {M : World → World → Prop} {EP : Nat → Eff M} {C : World → Prop} {md : Region.Mode} {m : Nat}
variable {S : Nat → (Act → World → Prop) → Act → World → Prop} {Qn : Act → World → Prop}
/-- ONE LOOK AT EACH OPERATION SERVES EVERY ORDER. -/
theorem anyG_regD {al : Nat → Bool} (hal : ∀ (i : Nat) (o : Oper), ops[i]? = some o → al i = true → AllocAt P Cl Rd eff i o) (hMs : ∀ A B, M A B → A.heap.size ≤ B.heap.size) (ok : RegOk md ops anc m) (so : StepOk P Cl Rd ops eff S) (hCm : ∀ W W', C W → M W W' → C W') {a0 : Act}
    (hT : ∀ u : Nat → Value, (∀ j, (EP j).P (u j)) → ∃ val, (∀ i, i < m → BrAt P Cl Rd ops eff anc EP C a0 u val i) ∧ ∀ W, C W → (∀ j, j < m → wantedAt ops a0 val j → eff j = true → (EP j).H (val j) W) → AllocsApart al m val → listG S Qn (List.range' m (ops.size - m)) (frT ops a0 val m) W) :
    ∀ (fuel : Nat) (listed : Array Bool) (a : Act) (W : World), listed.size = ops.size → listed.toList.count false ≤ fuel → C W →
      (∀ i j, listed.getD i false = true → (anc i).testBit j = true → listed.getD j false = true) → (∀ i, m ≤ i → listed.getD i false = false) →
      (∃ u val, (∀ j, (EP j).P (u j)) ∧ (∀ i, i < m → BrAt P Cl Rd ops eff anc EP C a0 u val i) ∧
        (∀ W, C W → (∀ j, j < m → wantedAt ops a0 val j → eff j = true → (EP j).H (val j) W) → AllocsApart al m val → listG S Qn (List.range' m (ops.size - m)) (frT ops a0 val m) W) ∧
        (∀ j, listed.getD j false = true → wantedAt ops a0 val j → eff j = true → (EP j).H (val j) W) ∧ FrP ops a0 (fun j => listed.getD j false = true) val a ∧ OldAl al (fun j => listed.getD j false = true) val W) →
      anyG S md ops Qn fuel listed a W := by
  intro fuel
  induction fuel with
  | zero =>
    intro listed a W hs hc hC hdown hlo hex
    -- nothing is left
    obtain ⟨u, val, hu, hb, hfin, hH, hfr, hold⟩ := hex
    have hall : ∀ j, j < ops.size → listed.getD j false = true := fun j hj => by
      rcases getD_cases (listed := listed) (j := j) (by omega) with h | h
      · exact h
      · have h0 : listed.toList.count false = 0 := by omega
        rw [List.count_eq_zero] at h0
        have hjl : j < listed.size := by omega
        refine absurd ?_ h0
        have : listed[j] = false := by simpa [hjl] using h
        rw [← this]; exact Array.getElem_mem_toList hjl
    have hm : m = ops.size := by
      rcases Nat.lt_or_ge m ops.size with h | h
      · have h1 := hall m h; rw [hlo m (Nat.le_refl _)] at h1; cases h1
      · have := ok.le; omega
    have hae : a = frT ops a0 val m := by
      have h2 := ok.frT a0 val m
      have : a.tmps = (frT ops a0 val m).tmps := Array.ext_getElem? fun t => hfr.agree h2 fun j hj => by
        have hjs : j < ops.size := by
          rcases Nat.lt_or_ge j ops.size with h | h
          · exact h
          · unfold dstOf at hj; rw [Array.getElem?_eq_none h] at hj; cases hj
        exact ⟨⟨fun _ => by omega, fun _ => hall j hjs⟩, fun _ => rfl⟩
      cases a
      have hd := hfr.defers.trans h2.defers.symm
      cases hf : frT ops a0 val m
      rw [hf] at this hd
      simp only at this hd
      rw [this, hd]
    refine anyG_tail ok so 0 ops.size 0 listed a W (by omega) (by omega) (Nat.le_refl _) hs (fun j hj => ⟨fun _ => hj, fun _ => hall j hj⟩) ?_
    have := hfin W hC (fun j hj => hH j (hall j (by omega))) (hold.apart fun j hj => hall j (by omega))
    rw [hae]
    rw [hm, Nat.sub_self] at this
    rw [hm]; exact this
  | succ fuel ih =>
    intro listed a W hs hc hC hdown hlo hex
    obtain ⟨u, val, hu, hb, hfin, hH, hfr, hold⟩ := hex
    by_cases hall : ∀ j, j < m → listed.getD j false = true
    · have hae : a = frT ops a0 val m := by
        have h2 := ok.frT a0 val m
        have : a.tmps = (frT ops a0 val m).tmps := Array.ext_getElem? fun t => hfr.agree h2 fun j hj => by
          refine ⟨⟨fun hj' => ?_, fun hj' => hall j hj'⟩, fun _ => rfl⟩
          rcases Nat.lt_or_ge j m with h | h
          · exact h
          · rw [hlo j h] at hj'; cases hj'
        cases a
        have hd := hfr.defers.trans h2.defers.symm
        cases hf : frT ops a0 val m
        rw [hf] at this hd
        simp only at this hd
        rw [this, hd]
      have hcount : ops.size - m ≤ fuel + 1 := by
        refine Nat.le_trans ?_ hc
        have h1 : (listed.toList.drop m).count false = (listed.toList.drop m).length := by
          rw [List.count_eq_length]
          intro b hb'
          obtain ⟨k, hk, rfl⟩ := List.getElem_of_mem hb'
          rw [List.getElem_drop]
          have hk' : m + k < listed.size := by simp at hk; omega
          have := hlo (m + k) (by omega)
          simp [hk'] at this
          simp [this]
        have h2 : (listed.toList.drop m).count false ≤ listed.toList.count false := List.Sublist.count_le _ (List.drop_sublist _ _)
        rw [h1] at h2
        simp at h2 ⊢
        omega
      refine anyG_tail ok so (ops.size - m) m (fuel + 1) listed a W (Nat.le_refl _) (by have := ok.le; omega) hcount hs (fun j hj => ⟨fun h => ?_, fun h => hall j h⟩) ?_
      · rcases Nat.lt_or_ge j m with h' | h'
        · exact h'
        · rw [hlo j h'] at h; cases h
      · rw [hae]; exact hfin W hC (fun j hj => hH j (hall j hj)) (hold.apart fun j hj => hall j hj)
    · -- some operation of the free part is still to come
      have hex : ∃ j, j < m ∧ ¬ listed.getD j false = true := by
        refine Classical.byContradiction fun hno => hall fun j hj => Classical.byContradiction fun hn => hno ⟨j, hj, hn⟩
      refine ⟨fun hnil => ?_, fun i hi => ?_⟩
      · exfalso
        -- the first of them is ready
        have key : ∀ k, k < m → ¬ listed.getD k false = true → False := by
          intro k
          induction k using Nat.strongRecOn with
          | ind k ihk =>
            intro hk hn
            have hks : k < ops.size := by have := ok.le; omega
            have hkl : k < listed.size := by omega
            have : k ∈ Region.ready md ops listed := by
              rw [mem_ready]
              refine ⟨by simp [hkl] at hn ⊢; exact hn, _, Array.getElem?_eq_getElem hks, fun e he hb' => ?_⟩
              have hes := ok.edges k _ (Array.getElem?_eq_getElem hks) e he hb'
              exact Classical.byContradiction fun h => ihk e.on hes (by omega) h
            rw [hnil] at this; cases this
        obtain ⟨j, hj, hn⟩ := hex
        exact key j hj hn
      · obtain ⟨h1, o, ho, hafter⟩ := mem_ready.1 hi
        have his : i < ops.size := (Array.getElem?_eq_some_iff.1 ho).1
        have hil : i < listed.size := by omega
        have hin : ¬ listed.getD i false = true := by simp [hil] at h1 ⊢; exact h1
        have hanc : ∀ j, (anc i).testBit j = true → listed.getD j false = true := fun j hj => by
          obtain ⟨e, he, hb', hor⟩ := ok.sound i o j ho hj
          rcases hor with rfl | hor
          · exact hafter e he hb'
          · exact hdown e.on j (hafter e he hb') hor
        have him : i < m := by
          rcases Nat.lt_or_ge i m with h | h
          · exact h
          · exfalso
            obtain ⟨j, hj, hn⟩ := hex
            exact hn (hanc j (ok.tail i j h his (by omega)))
        have hdst : dstOf ops i = o.dst := by unfold dstOf; rw [ho]; rfl
        -- the frame where it looks
        have hlook : ∀ t, t ∈ o.looksAt ops → a.tmps[t]? = (frT ops a0 val i).tmps[t]? := fun t ht => hfr.agree (ok.frT a0 val i) fun j hj => by
          obtain ⟨k1, k2⟩ := ok.looks i o t j him ho ht hj
          refine ⟨⟨fun hjl => ?_, fun hji => hanc j (k1 hji)⟩, fun _ => rfl⟩
          rcases Nat.lt_trichotomy j i with h | h | h
          · exact h
          · subst h; exact absurd hjl hin
          · exact absurd (hdown j i hjl (k2 h)) hin
        obtain ⟨hex', hwan⟩ := same_exec (ok.sel i o · · ho) hlook
        have hN : NdAt ops eff anc EP a0 val i W := fun j _ hw he ha => hH j (hanc j ha) hw he
        have hbi := hb i him o ho
        -- what follows
        have hs' : (listed.setIfInBounds i true).size = ops.size := by simpa using hs
        have hc' : (listed.setIfInBounds i true).toList.count false ≤ fuel := by
          rw [Array.toList_setIfInBounds]
          have := count_set listed.toList i (by simp [hil] at h1; simp [hil, h1])
          omega
        have hget : ∀ j, (listed.setIfInBounds i true).getD j false = true ↔ (listed.getD j false = true ∨ j = i) := fun j => by
          by_cases hij : i = j
          · subst hij; simp [hil]
          · rw [getD_set_ne false hij]
            constructor
            · exact .inl
            · rintro (h | h)
              · exact h
              · exact absurd h.symm hij
        have hdown' : ∀ k j, (listed.setIfInBounds i true).getD k false = true → (anc k).testBit j = true → (listed.setIfInBounds i true).getD j false = true := fun k j hk hj => by
          rw [hget] at hk ⊢
          rcases hk with hk | rfl
          · exact .inl (hdown k j hk hj)
          · exact .inl (hanc j hj)
        have hlo' : ∀ k, m ≤ k → (listed.setIfInBounds i true).getD k false = false := fun k hk => by
          rw [getD_set_ne false (by omega)]; exact hlo k hk
        have hput : ∀ (val' : Nat → Value), (∀ j, listed.getD j false = true → val' j = val j) → FrP ops a0 (fun j => (listed.setIfInBounds i true).getD j false = true) val' (a.put o.dst (val' i)) := fun val' hv => by
          have h0 : FrP ops a0 (fun j => listed.getD j false = true) val' a := ⟨hfr.defers, hfr.size, hfr.old, fun j t h1 h2 h3 => by rw [hv j h1]; exact hfr.new j t h1 h2 h3⟩
          have := h0.put (L' := fun j => (listed.setIfInBounds i true).getD j false = true) i hget fun j t g1 g2 g3 => by
            rcases Nat.lt_trichotomy j i with h | h | h
            · exact ok.dsts j i t h g2 g3
            · exact hin (h ▸ g1)
            · exact ok.dsts i j t h g3 g2
          rwa [hdst] at this
        unfold OkAt at hbi
        by_cases hw : Region.wanted o (yielded ops (frT ops a0 val i).tmps) = true
        · rw [if_pos hw] at hbi
          cases he : eff i with
          | false =>
            rw [he, if_neg (by decide)] at hbi
            have hfl := hbi W hC hN
            unfold floatAt at hfl
            rw [← hex'] at hfl
            refine so.flt i o _ a W (val i) ho he (by rw [hwan]; exact hw) hfl ?_
            have hnal : al i = false := by
              cases ha : al i with
              | false => rfl
              | true => rw [(hal i o ho ha).1] at he; cases he
            refine ih _ _ W hs' hc' hC hdown' hlo' ⟨u, val, hu, hb, hfin, fun j hj hwj hej => ?_, hput val fun _ _ => rfl, hold.skip hnal fun j hj => (hget j).1 hj⟩
            rcases (hget j).1 hj with hj | rfl
            · exact hH j hj hwj hej
            · rw [he] at hej; cases hej
          | true =>
            rw [he, if_pos rfl] at hbi
            have hef := hbi.2 W hC hN
            rw [← hex'] at hef
            have hef2 : effT Cl Rd (fun v W' => (M W W' ∧ (EP i).P v ∧ (EP i).H v W') ∧ (al i = true → v = .pointer (some ⟨W.heap.size, 0, none⟩) ∧ W.heap.size < W'.heap.size)) ((execOp a.eval o).run P W) := by
              cases ha : al i with
              | false => exact so.emono _ _ _ (fun v W' h => ⟨h, fun h => by cases h⟩) hef
              | true => exact so.emono _ _ _ (fun v W' h => ⟨h.1, fun _ => h.2⟩) ((hal i o ho ha).2.2 a W _ hef)
            refine so.eff i o _ a W ho he (by rw [hwan]; exact hw) (so.emono _ _ _ (fun v W' ⟨⟨hmv, hPv, hHv⟩, hnew⟩ => ?_) hef2)
            -- another branch
            obtain ⟨u', hu'e⟩ : ∃ u' : Nat → Value, u' = fun j => if j = i then v else u j := ⟨_, rfl⟩
            have hu' : ∀ j, (EP j).P (u' j) := fun j => by
              rw [hu'e]; show (EP j).P (if j = i then v else u j); split
              · rename_i h; subst h; exact hPv
              · exact hu j
            obtain ⟨val', hb', hfin'⟩ := hT u' hu'
            have hC' := hCm W W' hC hmv
            have hsame : ∀ j, listed.getD j false = true → val' j = val j ∧ (wantedAt ops a0 val' j ↔ wantedAt ops a0 val j) := by
              intro j
              induction j using Nat.strongRecOn with
              | ind j ihj =>
                intro hj
                have hjm : j < m := by
                  rcases Nat.lt_or_ge j m with h | h
                  · exact h
                  · rw [hlo j h] at hj; cases hj
                have hjs : j < ops.size := by have := ok.le; omega
                have hoj := Array.getElem?_eq_getElem hjs
                obtain ⟨oj, hoj'⟩ : ∃ oj, ops[j]? = some oj := ⟨_, hoj⟩
                have hlk : ∀ t, t ∈ oj.looksAt ops → (frT ops a0 val' j).tmps[t]? = (frT ops a0 val j).tmps[t]? := fun t ht => (ok.frT a0 val' j).agree (ok.frT a0 val j) fun k hk => by
                  refine ⟨Iff.rfl, fun hkj => (ihj k hkj ?_).1⟩
                  exact hdown j k hj ((ok.looks j oj t k hjm hoj' ht hk).1 hkj)
                obtain ⟨he1, he2⟩ := same_exec (ok.sel j oj · · hoj') hlk
                have hwiff : wantedAt ops a0 val' j ↔ wantedAt ops a0 val j := by
                  unfold wantedAt
                  constructor
                  · rintro ⟨o1, h1, h2⟩
                    rw [hoj'] at h1; cases h1
                    exact ⟨oj, hoj', by rw [← he2]; exact h2⟩
                  · rintro ⟨o1, h1, h2⟩
                    rw [hoj'] at h1; cases h1
                    exact ⟨oj, hoj', by rw [he2]; exact h2⟩
                refine ⟨?_, hwiff⟩
                have b1 := hb j hjm oj hoj'
                have b2 := hb' j hjm oj hoj'
                unfold OkAt at b1 b2
                rw [he2] at b2
                by_cases hwj : Region.wanted oj (yielded ops (frT ops a0 val j).tmps) = true
                · rw [if_pos hwj] at b1 b2
                  cases hej : eff j with
                  | true =>
                    rw [hej, if_pos rfl] at b1 b2
                    have hji : j ≠ i := fun h => by subst h; exact hin hj
                    rw [b1.1, b2.1, hu'e]; simp [hji]
                  | false =>
                    rw [hej, if_neg (by decide)] at b1 b2
                    have n1 : NdAt ops eff anc EP a0 val j W' := fun k hk hwk hek hak => by
                      have hkl := hdown j k hj hak
                      have hPk : (EP k).P (val k) := by
                        have bk := hb k (by omega)
                        obtain ⟨ok', hok, hwok⟩ := hwk
                        have := bk ok' hok
                        unfold OkAt at this
                        rw [if_pos hwok, hek, if_pos rfl] at this
                        rw [this.1]; exact hu k
                      exact (EP k).st _ W W' hmv hPk (hH k hkl hwk hek)
                    have n2 : NdAt ops eff anc EP a0 val' j W' := fun k hk hwk hek hak => by
                      obtain ⟨s1, s2⟩ := ihj k hk (hdown j k hj hak)
                      rw [s1]; exact n1 k hk (s2.1 hwk) hek hak
                    have f1 := b1 W' hC' n1
                    have f2 := b2 W' hC' n2
                    unfold floatAt at f1 f2
                    rw [he1] at f2
                    rcases f1 with f1 | ⟨f1, g1⟩ <;> rcases f2 with f2 | ⟨f2, g2⟩ <;> rw [f1] at f2
                    · injection f2 with f2 _; injection f2 with f2; exact f2.symm
                    · injection f2 with f2 _; cases f2
                    · injection f2 with f2 _; cases f2
                    · rw [g1, g2]
                · rw [if_neg hwj] at b1 b2
                  rw [b1, b2]
            have hvi : val' i = v := by
              have b2 := hb' i him o ho
              have hlk : ∀ t, t ∈ o.looksAt ops → (frT ops a0 val' i).tmps[t]? = (frT ops a0 val i).tmps[t]? := fun t ht => (ok.frT a0 val' i).agree (ok.frT a0 val i) fun k hk =>
                ⟨Iff.rfl, fun hki => (hsame k (hanc k ((ok.looks i o t k him ho ht hk).1 hki))).1⟩
              obtain ⟨_, he2⟩ := same_exec (ok.sel i o · · ho) hlk
              unfold OkAt at b2
              rw [he2, if_pos hw, he, if_pos rfl] at b2
              rw [b2.1, hu'e]; simp
            have := hput val' fun j hj => (hsame j hj).1
            rw [hvi] at this
            refine ih _ _ W' hs' hc' hC' hdown' hlo' ⟨u', val', hu', hb', hfin', fun j hj hwj hej => ?_, this, hold.step (hMs _ _ hmv) (fun j hj => (hget j).1 hj) (fun j hj => (hsame j hj).1) hin (by rw [hvi]; exact hnew)⟩
            rcases (hget j).1 hj with hj | rfl
            · obtain ⟨s1, s2⟩ := hsame j hj
              have hwj' := s2.1 hwj
              have hPj : (EP j).P (val j) := by
                have hjm : j < m := by
                  rcases Nat.lt_or_ge j m with h | h
                  · exact h
                  · rw [hlo j h] at hj; cases hj
                obtain ⟨oj, hoj, hwoj⟩ := hwj'
                have := hb j hjm oj hoj
                unfold OkAt at this
                rw [if_pos hwoj, hej, if_pos rfl] at this
                rw [this.1]; exact hu j
              rw [s1]; exact (EP j).st _ W W' hmv hPj (hH j hj hwj' hej)
            · rw [hvi]; exact hHv
        · rw [if_neg hw] at hbi
          have hwf : Region.wanted o (yielded ops a.tmps) = false := by rw [hwan]; simpa using hw
          refine so.un i o _ a W ho hwf ?_
          have h0 := hput val fun _ _ => rfl
          rw [hbi] at h0
          have hnal : al i = false := by
            cases ha : al i with
            | false => rfl
            | true => exact absurd ((hal i o ho ha).2.1 _) hw
          refine ih _ _ W hs' hc' hC hdown' hlo' ⟨u, val, hu, hb, hfin, fun j hj hwj hej => ?_, h0, hold.skip hnal fun j hj => (hget j).1 hj⟩
          rcases (hget j).1 hj with hj | rfl
          · exact hH j hj hwj hej
          · obtain ⟨oj, hoj, hwoj⟩ := hwj
            rw [ho] at hoj; cases hoj
            exact absurd hwoj hw
end

def alChk (ops : Array Oper) (eff : Nat → Bool) (al : List Nat) (m : Nat) : Bool :=
  al.all fun i => decide (i < m) && eff i && match ops[i]? with
    | none => false
    | some o => (match o.op with | .alloc _ => true | _ => false) && o.guard.isNone && o.dst.isSome && al.all fun j => decide (i = j) || !(dstOf ops i == dstOf ops j)
structure AlOk (ops : Array Oper) (eff : Nat → Bool) (al : List Nat) (m : Nat) : Prop where
  ok : ∀ i ∈ al, i < m ∧ eff i = true ∧ ∃ o e, ops[i]? = some o ∧ o.op = .alloc e ∧ o.guard = none
theorem alChk_ok {ops : Array Oper} {eff : Nat → Bool} {al : List Nat} {m : Nat} (h : alChk ops eff al m = true) : AlOk ops eff al m := ⟨fun i hi => by
  unfold alChk at h
  have h1 := List.all_eq_true.1 h i hi
  simp only [Bool.and_eq_true, decide_eq_true_eq] at h1
  obtain ⟨⟨h1, h2⟩, h3⟩ := h1
  refine ⟨h1, h2, ?_⟩
  split at h3
  · cases h3
  · rename_i o ho
    simp only [Bool.and_eq_true] at h3
    obtain ⟨⟨⟨h4, h5⟩, _⟩, _⟩ := h3
    split at h4
    · rename_i e he
      exact ⟨o, e, ho, he, Option.isNone_iff_eq_none.1 h5⟩
    · cases h4⟩
theorem newRow_run {P : Program} {t : TypeId} {c : Array Value} {W W' : World} {x : Addr} (h : (newRow t c).run P W = .ok x W') : x = ⟨W.heap.size, 0, none⟩ ∧ W.heap.size < W'.heap.size := by
  simp [newRow, go_sem] at h
  obtain ⟨rfl, rfl⟩ := h
  exact ⟨rfl, by simp⟩
theorem AlOk.at {P : Program} {ops : Array Oper} {eff : Nat → Bool} {al : List Nat} {m : Nat} (h : AlOk ops eff al m) {i : Nat} {o : Oper} (ho : ops[i]? = some o) (ha : al.contains i = true) {Cl : FuncId → Array Value → World → (Ending → World → Prop) → Prop} {Rd : Nat → FuncId → Array Value → Code → Code → World → (Ending → World → Prop) → Prop} : AllocAt P Cl Rd eff i o := by
  obtain ⟨_, h2, o', e, ho', he, hg⟩ := h.ok i (List.contains_iff_mem.1 ha)
  rw [ho] at ho'
  cases ho'
  refine ⟨h2, fun y => by unfold Region.wanted; rw [hg], fun a W X hX => ?_⟩
  have hr : (execOp a.eval o).run P W = ((Instr.alloc e true (.tuple #[])).run P W).andThen fun x w => .ok (.value x) w := by
    unfold execOp
    simp only [he, Sem.run_bind]
    rfl
  rw [hr] at hX ⊢
  cases hq : (Instr.alloc e true (.tuple #[])).run P W with
  | halt x w => rw [hq] at hX; exact hX.elim
  | ok x w =>
    rw [hq] at hX
    refine ⟨hX, ?_⟩
    unfold Instr.alloc at hq
    simp only [Sem.run_bind] at hq
    cases hz : (zeroValue e).run P W with
    | halt x w => rw [hz] at hq; cases hq
    | ok z w0 =>
      have := Go.MapKept.run_zeroValue_world hz
      subst this
      rw [hz] at hq
      simp only [Result.andThen_ok] at hq
      have hq2 : ((newVar e z).run P w0).andThen (fun x w => .ok (.pointer (some x)) w) = .ok x w := by
        simpa [Sem.run_bind] using hq
      cases hn : (newVar e z).run P w0 with
      | halt x w => rw [hn] at hq2; cases hq2
      | ok y w2 =>
        rw [hn] at hq2
        simp only [Result.andThen_ok] at hq2
        cases hq2
        obtain ⟨rfl, h5⟩ := newRow_run hn
        exact ⟨rfl, h5⟩
/-- In the frame: the slots of these allocs hold other pointers. -/
def ApartF (ops : Array Oper) (al : List Nat) (a : Act) : Prop := ∀ i j s t, i ∈ al → j ∈ al → i ≠ j → dstOf ops i = some s → dstOf ops j = some t → s < a.tmps.size → t < a.tmps.size → a.tmps[s]? ≠ a.tmps[t]?
theorem ApartF.of {md : Region.Mode} {ops : Array Oper} {anc : Nat → Nat} {m : Nat} {eff : Nat → Bool} {al : List Nat} {a : Act} {val : Nat → Value} (ok : RegOk md ops anc m) (h : AlOk ops eff al m) (hap : AllocsApart (fun j => al.contains j) m val) : ApartF ops al (frT ops a val m) := fun i j s t hi hj hij hs ht h1 h2 => by
  have hf := ok.frT a val m
  rw [hf.size] at h1 h2
  rw [hf.new i s (h.ok i hi).1 hs h1, hf.new j t (h.ok j hj).1 ht h2]
  intro e
  injection e with e
  exact hap i j (h.ok i hi).1 (h.ok j hj).1 (List.contains_iff_mem.2 hi) (List.contains_iff_mem.2 hj) hij e

/-- The law at a region, for any relation that the operations keep. -/
theorem wp_region_regD {P : Program} {id : Nat} {Q : Exit → Act → World → Prop} {a : Act} {w : World} {l : List Oper} (M : World → World → Prop) (hMs : ∀ A B, M A B → A.heap.size ≤ B.heap.size) (hd : M w w.drew) (htr : ∀ A B C, M A B → M B C → M A C) (hm : P.follows .mixedOrders = true) (m : Nat) (anc : List Nat) (eff : Nat → Bool) (hB : regChk .any l.toArray anc m = true) (al : List Nat) (hA : alChk l.toArray eff al m = true) (EP : Nat → Eff M)
    (h : ∀ C : World → Prop, (∀ W, C W ↔ M w W) → Nonempty { W // C W } → Later (regM P (Calls P) noRd l.toArray eff (fun i => anc.getD i 0) EP C (fun r a W => ApartF l.toArray al a → wpList P l.toArray Q r a W) m l 0 [] a)) : (Code.region id l.toArray true).wp P Q a w := by
  have ok := regChk_ok hB
  have h0 : M w w.drew := hd
  have hT := regT_of_regM m l 0 [] a (h (M w) (fun _ => Iff.rfl) ⟨⟨_, h0⟩⟩).out
  have hml : m ≤ l.length := by have := ok.le; simpa using this
  have hbr : ∀ u : Nat → Value, (∀ j, (EP j).P (u j)) → ∃ val, (∀ i, i < m → BrAt P (Calls P) noRd l.toArray eff (fun i => anc.getD i 0) EP (M w) a u val i) ∧
      ∀ W, M w W → (∀ j, j < m → wantedAt l.toArray a val j → eff j = true → (EP j).H (val j) W) → AllocsApart (fun j => al.contains j) m val → listG (wpOp P l.toArray Q) (fun a w => Q .normal a w) (List.range' m (l.toArray.size - m)) (frT l.toArray a val m) W := fun u hu => by
    obtain ⟨val, h1, h2⟩ := branch (ops := l.toArray) (m := m) (a := a) hu (l.take m) 0 (fun _ => undef) [] (by rw [List.length_take]; omega) (fun j hj => by rw [List.length_take] at hj; simp [List.getElem?_take]; omega) (fun x hx => by cases hx) (fun i hi => by omega) hT
    refine ⟨val, h1, fun W hW hN hap => listG_ops _ _ _ (fun i hi => ?_) ?_⟩
    · have := (List.mem_range'.1 hi)
      obtain ⟨k, hk, rfl⟩ := this
      simp only [List.size_toArray] at *
      omega
    · have := wpOps_eq_wpList (P := P) (ops := l.toArray) (Q := Q) (l.drop m) m (fun j => by simp [List.getElem?_drop])
      rw [List.length_drop] at this
      simp only [List.size_toArray]
      rw [this]
      exact h2 W hW hN (ApartF.of ok (alChk_ok hA) hap)
  have hno : ∀ j, (Array.replicate l.toArray.size false).getD j false = false := fun j => by
    rcases Nat.lt_or_ge j l.length with h | h
    · simp [h]
    · simp [Nat.not_lt.2 h]
  refine wp_region_any hm (wpAny_anyG _ _ _ _ ?_)
  refine anyG_regD (al := fun j => al.contains j) (eff := eff) (EP := EP) (C := M w) (fun i o ho ha => (alChk_ok hA).at ho ha) hMs ok wpOp_stepOk (fun W W' h h' => htr _ _ _ h h') (a0 := a) hbr _ _ _ _ (by simp) (by simp) h0 (fun i j hi => by rw [hno] at hi; cases hi) (fun i _ => hno i) ?_
  obtain ⟨val, h1, h2⟩ := hbr (fun j => (EP j).wit) (fun j => (EP j).pw)
  exact ⟨_, val, fun j => (EP j).pw, h1, h2, fun j hj => by (rw [hno] at hj; cases hj), FrP.start a _ (fun j hj => by (rw [hno] at hj; cases hj)), OldAl.start fun j hj => by (rw [hno] at hj; cases hj)⟩
end Go.Proofs.YtiegfnmpknmbmaaGreat
