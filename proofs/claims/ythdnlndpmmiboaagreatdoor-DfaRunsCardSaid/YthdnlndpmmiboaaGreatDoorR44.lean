/-
  The law for drawn regions once more: each effect may rest on a fact that all other effects keep. Printed by wip/gen/regh.py.
-/
import Derived.Test.YthdnlndpmmiboaaGreatDoorR01
namespace Go.Proofs.YthdnlndpmmiboaaGreatDoor.RegH
open Go Go.RowKit Go.Proofs.YthdnlndpmmiboaaGreatDoor

section
variable {P : Program} {Cl : FuncId → Array Value → World → (Ending → World → Prop) → Prop} {Rd : Nat → FuncId → Array Value → Code → Code → World → (Ending → World → Prop) → Prop}
  {ops : Array Oper} {eff : Nat → Bool} {anc : Nat → Nat} {M : World → World → Prop} {EP : Nat → Eff M} {C : World → Prop} {D : Nat → World → Prop} {md : Region.Mode} {m : Nat}
def regOp (P : Program) (Cl : FuncId → Array Value → World → (Ending → World → Prop) → Prop) (Rd : Nat → FuncId → Array Value → Code → Code → World → (Ending → World → Prop) → Prop)
    (ops : Array Oper) (isE : Bool) (m : Nat) (E : Eff M) (C : World → Prop) (D : Nat → World → Prop) (o : Oper) (k : Nat) (hist : List (Nat × (World → Prop))) (a : Act) (K : List (Nat × (World → Prop)) → Act → Prop) : Prop :=
  if Region.wanted o (yielded ops a.tmps) then
    if isE then (∀ W, C W → D k W → needs m hist W → effT Cl Rd (fun v W' => (M W W' ∧ ∀ j, j ≠ k → D j W → D j W') ∧ E.P v ∧ E.H v W') ((execOp a.eval o).run P W)) ∧ ∀ v, E.P v → K ((k, E.H v) :: hist) (a.put o.dst v)
    else ∃ v, (∀ W, C W → needs m hist W → floatAt P o a v W) ∧ K hist (a.put o.dst v)
  else K hist (a.put o.dst undef)
def regT (P : Program) (Cl : FuncId → Array Value → World → (Ending → World → Prop) → Prop) (Rd : Nat → FuncId → Array Value → Code → Code → World → (Ending → World → Prop) → Prop)
    (ops : Array Oper) (eff : Nat → Bool) (anc : Nat → Nat) (EP : Nat → Eff M) (C : World → Prop) (D : Nat → World → Prop) (Fin : Act → World → Prop) : List Oper → Nat → List (Nat × (World → Prop)) → Act → Prop
  | [], _, hist, a => ∀ W, C W → (∀ x ∈ hist, x.2 W) → Fin a W
  | o :: rest, k, hist, a => regOp P Cl Rd ops (eff k) (anc k) (EP k) C D o k hist a (regT P Cl Rd ops eff anc EP C D Fin rest (k + 1))

def OkAt (P : Program) (Cl : FuncId → Array Value → World → (Ending → World → Prop) → Prop) (Rd : Nat → FuncId → Array Value → Code → Code → World → (Ending → World → Prop) → Prop)
    (ops : Array Oper) (isE : Bool) (E : Eff M) (C : World → Prop) (D : Nat → World → Prop) (k : Nat) (o : Oper) (f : Act) (v uv : Value) (N : World → Prop) : Prop :=
  if Region.wanted o (yielded ops f.tmps) then
    if isE then v = uv ∧ ∀ W, C W → D k W → N W → effT Cl Rd (fun v W' => (M W W' ∧ ∀ j, j ≠ k → D j W → D j W') ∧ E.P v ∧ E.H v W') ((execOp f.eval o).run P W)
    else ∀ W, C W → N W → floatAt P o f v W
  else v = undef
def BrAt (P : Program) (Cl : FuncId → Array Value → World → (Ending → World → Prop) → Prop) (Rd : Nat → FuncId → Array Value → Code → Code → World → (Ending → World → Prop) → Prop)
    (ops : Array Oper) (eff : Nat → Bool) (anc : Nat → Nat) (EP : Nat → Eff M) (C : World → Prop) (D : Nat → World → Prop) (a : Act) (u val : Nat → Value) (i : Nat) : Prop :=
  ∀ o, ops[i]? = some o → OkAt P Cl Rd ops (eff i) (EP i) C D i o (frT ops a val i) (val i) (u i) (NdAt ops eff anc EP a val i)

theorem BrAt_congr {a : Act} {u val val' : Nat → Value} {i : Nat} (h : ∀ k, k ≤ i → val k = val' k) (hb : BrAt P Cl Rd ops eff anc EP C D a u val i) : BrAt P Cl Rd ops eff anc EP C D a u val' i := fun o ho => by
  have := hb o ho
  rwa [frT_congr i fun k hk => h k (by omega), NdAt_congr fun k hk => h k (by omega), h i (Nat.le_refl _)] at this

/-- Out of the tree, a branch: the values that its operations leave, those of the effects given. -/
theorem branch {Fin : Act → World → Prop} {a : Act} {u : Nat → Value} (hu : ∀ j, (EP j).P (u j)) : ∀ (l : List Oper) (k : Nat) (val : Nat → Value) (hist : List (Nat × (World → Prop))),
    k + l.length = m → (∀ j, j < l.length → l[j]? = ops[k + j]?) → (∀ x ∈ hist, ∃ j, j < k ∧ wantedAt ops a val j ∧ eff j = true ∧ x.1 = j ∧ x.2 = (EP j).H (val j)) →
    (∀ i, i < k → BrAt P Cl Rd ops eff anc EP C D a u val i) → regT P Cl Rd ops eff anc EP C D Fin l k hist (frT ops a val k) →
    ∃ val', (∀ i, i < m → BrAt P Cl Rd ops eff anc EP C D a u val' i) ∧ ∀ W, C W → (∀ j, j < m → wantedAt ops a val' j → eff j = true → (EP j).H (val' j) W) → Fin (frT ops a val' m) W
  | [], k, val, hist, hk, _, hh, hb, h => by
    obtain rfl : k = m := by simpa using hk
    refine ⟨val, hb, fun W hW hN => h W hW fun x hx => ?_⟩
    obtain ⟨j, hj, hw, he, _, hx2⟩ := hh x hx
    rw [hx2]; exact hN j hj hw he
  | o :: l, k, val, hist, hk, hl, hh, hb, h => by
    have ho : ops[k]? = some o := by simpa using (hl 0 (by simp)).symm
    have step : ∀ (v : Value) (hist' : List (Nat × (World → Prop))), OkAt P Cl Rd ops (eff k) (EP k) C D k o (frT ops a val k) v (u k) (NdAt ops eff anc EP a val k) →
        (∀ x ∈ hist', x ∈ hist ∨ (Region.wanted o (yielded ops (frT ops a val k).tmps) = true ∧ eff k = true ∧ x.1 = k ∧ x.2 = (EP k).H v)) → regT P Cl Rd ops eff anc EP C D Fin l (k + 1) hist' ((frT ops a val k).put o.dst v) →
        ∃ val', (∀ i, i < m → BrAt P Cl Rd ops eff anc EP C D a u val' i) ∧ ∀ W, C W → (∀ j, j < m → wantedAt ops a val' j → eff j = true → (EP j).H (val' j) W) → Fin (frT ops a val' m) W := by
      intro v hist' hok hh' ht
      obtain ⟨val1, hval1⟩ : ∃ val1 : Nat → Value, val1 = fun j => if j = k then v else val j := ⟨_, rfl⟩
      have e1 : ∀ j, j < k → val j = val1 j := fun j hj => by rw [hval1]; simp [show j ≠ k by omega]
      have ek : val1 k = v := by rw [hval1]; simp
      refine branch hu l (k + 1) val1 hist' (by simp at hk; omega) (fun j hj => ?_) (fun x hx => ?_) (fun i hi => ?_) ?_
      · have := hl (j + 1) (by simp; omega)
        rw [List.getElem?_cons_succ] at this
        rw [this]; congr 1; omega
      · rcases hh' x hx with hx | ⟨h1, h2, h3, h4⟩
        · obtain ⟨j, hj, hw, he, h1, h2⟩ := hh x hx
          exact ⟨j, by omega, (wantedAt_congr fun i hi => e1 i (by omega)).1 hw, he, h1, by rw [h2, e1 j hj]⟩
        · exact ⟨k, by omega, ⟨o, ho, by rw [← frT_congr k e1]; exact h1⟩, h2, h3, by rw [h4, ek]⟩
      · by_cases hik : i = k
        · subst hik
          intro o' ho'
          rw [ho] at ho'; cases ho'
          rw [← frT_congr i e1, ek, ← NdAt_congr e1]
          exact hok
        · exact BrAt_congr (fun j hj => e1 j (by omega)) (hb i (by omega))
      · have : frT ops a val1 (k + 1) = (frT ops a val k).put o.dst v := by
          show (frT ops a val1 k).put (dstOf ops k) (val1 k) = _
          rw [← frT_congr k e1, ek]
          unfold dstOf; rw [ho]; rfl
        rw [this]; exact ht
    have hneeds : ∀ W, NdAt ops eff anc EP a val k W → needs (anc k) hist W := fun W hN x hx hm => by
      obtain ⟨j, hj, hw, he, h1, h2⟩ := hh x hx
      rw [h2]; rw [h1] at hm
      exact hN j hj hw he hm
    unfold regT regOp at h
    split at h
    · rename_i hw
      split at h
      · rename_i he
        refine step (u k) _ ?_ ?_ (h.2 (u k) (hu k))
        · unfold OkAt; rw [if_pos hw, if_pos he]; exact ⟨rfl, fun W hW hD hN => h.1 W hW hD (hneeds W hN)⟩
        · intro x hx
          rcases List.mem_cons.1 hx with rfl | hx
          · exact .inr ⟨hw, he, rfl, rfl⟩
          · exact .inl hx
      · rename_i he
        obtain ⟨v, h1, h2⟩ := h
        refine step v _ ?_ (fun x hx => .inl hx) h2
        unfold OkAt; rw [if_pos hw, if_neg he]; exact fun W hW hN => h1 W hW (hneeds W hN)
    · rename_i hw
      refine step undef _ ?_ (fun x hx => .inl hx) h
      unfold OkAt; rw [if_neg hw]

variable {S : Nat → (Act → World → Prop) → Act → World → Prop} {Qn : Act → World → Prop}
/-- ONE LOOK AT EACH OPERATION SERVES EVERY ORDER. -/
theorem anyG_reg (ok : RegOk md ops anc m) (so : StepOk P Cl Rd ops eff S) (hCm : ∀ W W', C W → M W W' → C W') {a0 : Act}
    (hT : ∀ u : Nat → Value, (∀ j, (EP j).P (u j)) → ∃ val, (∀ i, i < m → BrAt P Cl Rd ops eff anc EP C D a0 u val i) ∧ ∀ W, C W → (∀ j, j < m → wantedAt ops a0 val j → eff j = true → (EP j).H (val j) W) → listG S Qn (List.range' m (ops.size - m)) (frT ops a0 val m) W) :
    ∀ (fuel : Nat) (listed : Array Bool) (a : Act) (W : World), listed.size = ops.size → listed.toList.count false ≤ fuel → C W →
      (∀ i j, listed.getD i false = true → (anc i).testBit j = true → listed.getD j false = true) → (∀ i, m ≤ i → listed.getD i false = false) → (∀ i, ¬ listed.getD i false = true → i < m → D i W) →
      (∃ u val, (∀ j, (EP j).P (u j)) ∧ (∀ i, i < m → BrAt P Cl Rd ops eff anc EP C D a0 u val i) ∧
        (∀ W, C W → (∀ j, j < m → wantedAt ops a0 val j → eff j = true → (EP j).H (val j) W) → listG S Qn (List.range' m (ops.size - m)) (frT ops a0 val m) W) ∧
        (∀ j, listed.getD j false = true → wantedAt ops a0 val j → eff j = true → (EP j).H (val j) W) ∧ FrP ops a0 (fun j => listed.getD j false = true) val a) →
      anyG S md ops Qn fuel listed a W := by
  intro fuel
  induction fuel with
  | zero =>
    intro listed a W hs hc hC hdown hlo hDD hex
    -- nothing is left
    obtain ⟨u, val, hu, hb, hfin, hH, hfr⟩ := hex
    have hall : ∀ j, j < ops.size → listed.getD j false = true := fun j hj => by
      rcases getD_cases (listed := listed) (j := j) (by omega) with h | h
      · exact h
      · have h0 : listed.toList.count false = 0 := by omega
        rw [List.count_eq_zero] at h0
        have hjl : j < listed.size := by omega
        refine absurd ?_ h0
        have : listed[j] = false := by simpa [hjl] using h
        rw [← this]; exact Array.getElem_mem_toList hjl
    have hm : m = ops.size := by
      rcases Nat.lt_or_ge m ops.size with h | h
      · have h1 := hall m h; rw [hlo m (Nat.le_refl _)] at h1; cases h1
      · have := ok.le; omega
    have hae : a = frT ops a0 val m := by
      have h2 := ok.frT a0 val m
      have : a.tmps = (frT ops a0 val m).tmps := Array.ext_getElem? fun t => hfr.agree h2 fun j hj => by
        have hjs : j < ops.size := by
          rcases Nat.lt_or_ge j ops.size with h | h
          · exact h
          · unfold dstOf at hj; rw [Array.getElem?_eq_none h] at hj; cases hj
        exact ⟨⟨fun _ => by omega, fun _ => hall j hjs⟩, fun _ => rfl⟩
      cases a
      have hd := hfr.defers.trans h2.defers.symm
      cases hf : frT ops a0 val m
      rw [hf] at this hd
      simp only at this hd
      rw [this, hd]
    refine anyG_tail ok so 0 ops.size 0 listed a W (by omega) (by omega) (Nat.le_refl _) hs (fun j hj => ⟨fun _ => hj, fun _ => hall j hj⟩) ?_
    have := hfin W hC fun j hj => hH j (hall j (by omega))
    rw [hae]
    rw [hm, Nat.sub_self] at this
    rw [hm]; exact this
  | succ fuel ih =>
    intro listed a W hs hc hC hdown hlo hDD hex
    obtain ⟨u, val, hu, hb, hfin, hH, hfr⟩ := hex
    by_cases hall : ∀ j, j < m → listed.getD j false = true
    · have hae : a = frT ops a0 val m := by
        have h2 := ok.frT a0 val m
        have : a.tmps = (frT ops a0 val m).tmps := Array.ext_getElem? fun t => hfr.agree h2 fun j hj => by
          refine ⟨⟨fun hj' => ?_, fun hj' => hall j hj'⟩, fun _ => rfl⟩
          rcases Nat.lt_or_ge j m with h | h
          · exact h
          · rw [hlo j h] at hj'; cases hj'
        cases a
        have hd := hfr.defers.trans h2.defers.symm
        cases hf : frT ops a0 val m
        rw [hf] at this hd
        simp only at this hd
        rw [this, hd]
      have hcount : ops.size - m ≤ fuel + 1 := by
        refine Nat.le_trans ?_ hc
        have h1 : (listed.toList.drop m).count false = (listed.toList.drop m).length := by
          rw [List.count_eq_length]
          intro b hb'
          obtain ⟨k, hk, rfl⟩ := List.getElem_of_mem hb'
          rw [List.getElem_drop]
          have hk' : m + k < listed.size := by simp at hk; omega
          have := hlo (m + k) (by omega)
          simp [hk'] at this
          simp [this]
        have h2 : (listed.toList.drop m).count false ≤ listed.toList.count false := List.Sublist.count_le _ (List.drop_sublist _ _)
        rw [h1] at h2
        simp at h2 ⊢
        omega
      refine anyG_tail ok so (ops.size - m) m (fuel + 1) listed a W (Nat.le_refl _) (by have := ok.le; omega) hcount hs (fun j hj => ⟨fun h => ?_, fun h => hall j h⟩) ?_
      · rcases Nat.lt_or_ge j m with h' | h'
        · exact h'
        · rw [hlo j h'] at h; cases h
      · rw [hae]; exact hfin W hC fun j hj => hH j (hall j hj)
    · -- some operation of the free part is still to come
      have hex : ∃ j, j < m ∧ ¬ listed.getD j false = true := by
        refine Classical.byContradiction fun hno => hall fun j hj => Classical.byContradiction fun hn => hno ⟨j, hj, hn⟩
      refine ⟨fun hnil => ?_, fun i hi => ?_⟩
      · exfalso
        -- the first of them is ready
        have key : ∀ k, k < m → ¬ listed.getD k false = true → False := by
          intro k
          induction k using Nat.strongRecOn with
          | ind k ihk =>
            intro hk hn
            have hks : k < ops.size := by have := ok.le; omega
            have hkl : k < listed.size := by omega
            have : k ∈ Region.ready md ops listed := by
              rw [mem_ready]
              refine ⟨by simp [hkl] at hn ⊢; exact hn, _, Array.getElem?_eq_getElem hks, fun e he hb' => ?_⟩
              have hes := ok.edges k _ (Array.getElem?_eq_getElem hks) e he hb'
              exact Classical.byContradiction fun h => ihk e.on hes (by omega) h
            rw [hnil] at this; cases this
        obtain ⟨j, hj, hn⟩ := hex
        exact key j hj hn
      · obtain ⟨h1, o, ho, hafter⟩ := mem_ready.1 hi
        have his : i < ops.size := (Array.getElem?_eq_some_iff.1 ho).1
        have hil : i < listed.size := by omega
        have hin : ¬ listed.getD i false = true := by simp [hil] at h1 ⊢; exact h1
        have hanc : ∀ j, (anc i).testBit j = true → listed.getD j false = true := fun j hj => by
          obtain ⟨e, he, hb', hor⟩ := ok.sound i o j ho hj
          rcases hor with rfl | hor
          · exact hafter e he hb'
          · exact hdown e.on j (hafter e he hb') hor
        have him : i < m := by
          rcases Nat.lt_or_ge i m with h | h
          · exact h
          · exfalso
            obtain ⟨j, hj, hn⟩ := hex
            exact hn (hanc j (ok.tail i j h his (by omega)))
        have hdst : dstOf ops i = o.dst := by unfold dstOf; rw [ho]; rfl
        -- the frame where it looks
        have hlook : ∀ t, t ∈ o.looksAt ops → a.tmps[t]? = (frT ops a0 val i).tmps[t]? := fun t ht => hfr.agree (ok.frT a0 val i) fun j hj => by
          obtain ⟨k1, k2⟩ := ok.looks i o t j him ho ht hj
          refine ⟨⟨fun hjl => ?_, fun hji => hanc j (k1 hji)⟩, fun _ => rfl⟩
          rcases Nat.lt_trichotomy j i with h | h | h
          · exact h
          · subst h; exact absurd hjl hin
          · exact absurd (hdown j i hjl (k2 h)) hin
        obtain ⟨hex', hwan⟩ := same_exec (ok.sel i o · · ho) hlook
        have hN : NdAt ops eff anc EP a0 val i W := fun j _ hw he ha => hH j (hanc j ha) hw he
        have hbi := hb i him o ho
        -- what follows
        have hs' : (listed.setIfInBounds i true).size = ops.size := by simpa using hs
        have hc' : (listed.setIfInBounds i true).toList.count false ≤ fuel := by
          rw [Array.toList_setIfInBounds]
          have := count_set listed.toList i (by simp [hil] at h1; simp [hil, h1])
          omega
        have hget : ∀ j, (listed.setIfInBounds i true).getD j false = true ↔ (listed.getD j false = true ∨ j = i) := fun j => by
          by_cases hij : i = j
          · subst hij; simp [hil]
          · rw [getD_set_ne false hij]
            constructor
            · exact .inl
            · rintro (h | h)
              · exact h
              · exact absurd h.symm hij
        have hdown' : ∀ k j, (listed.setIfInBounds i true).getD k false = true → (anc k).testBit j = true → (listed.setIfInBounds i true).getD j false = true := fun k j hk hj => by
          rw [hget] at hk ⊢
          rcases hk with hk | rfl
          · exact .inl (hdown k j hk hj)
          · exact .inl (hanc j hj)
        have hlo' : ∀ k, m ≤ k → (listed.setIfInBounds i true).getD k false = false := fun k hk => by
          rw [getD_set_ne false (by omega)]; exact hlo k hk
        have hput : ∀ (val' : Nat → Value), (∀ j, listed.getD j false = true → val' j = val j) → FrP ops a0 (fun j => (listed.setIfInBounds i true).getD j false = true) val' (a.put o.dst (val' i)) := fun val' hv => by
          have h0 : FrP ops a0 (fun j => listed.getD j false = true) val' a := ⟨hfr.defers, hfr.size, hfr.old, fun j t h1 h2 h3 => by rw [hv j h1]; exact hfr.new j t h1 h2 h3⟩
          have := h0.put (L' := fun j => (listed.setIfInBounds i true).getD j false = true) i hget fun j t g1 g2 g3 => by
            rcases Nat.lt_trichotomy j i with h | h | h
            · exact ok.dsts j i t h g2 g3
            · exact hin (h ▸ g1)
            · exact ok.dsts i j t h g3 g2
          rwa [hdst] at this
        unfold OkAt at hbi
        by_cases hw : Region.wanted o (yielded ops (frT ops a0 val i).tmps) = true
        · rw [if_pos hw] at hbi
          cases he : eff i with
          | false =>
            rw [he, if_neg (by decide)] at hbi
            have hfl := hbi W hC hN
            unfold floatAt at hfl
            rw [← hex'] at hfl
            refine so.flt i o _ a W (val i) ho he (by rw [hwan]; exact hw) hfl ?_
            refine ih _ _ W hs' hc' hC hdown' hlo' (fun j hj hjm => hDD j (fun h => hj ((hget j).2 (.inl h))) hjm) ⟨u, val, hu, hb, hfin, fun j hj hwj hej => ?_, hput val fun _ _ => rfl⟩
            rcases (hget j).1 hj with hj | rfl
            · exact hH j hj hwj hej
            · rw [he] at hej; cases hej
          | true =>
            rw [he, if_pos rfl] at hbi
            have hef := hbi.2 W hC (hDD i hin him) hN
            rw [← hex'] at hef
            refine so.eff i o _ a W ho he (by rw [hwan]; exact hw) (so.emono _ _ _ (fun v W' ⟨⟨hmv, hDv⟩, hPv, hHv⟩ => ?_) hef)
            -- another branch
            obtain ⟨u', hu'e⟩ : ∃ u' : Nat → Value, u' = fun j => if j = i then v else u j := ⟨_, rfl⟩
            have hu' : ∀ j, (EP j).P (u' j) := fun j => by
              rw [hu'e]; show (EP j).P (if j = i then v else u j); split
              · rename_i h; subst h; exact hPv
              · exact hu j
            obtain ⟨val', hb', hfin'⟩ := hT u' hu'
            have hC' := hCm W W' hC hmv
            have hsame : ∀ j, listed.getD j false = true → val' j = val j ∧ (wantedAt ops a0 val' j ↔ wantedAt ops a0 val j) := by
              intro j
              induction j using Nat.strongRecOn with
              | ind j ihj =>
                intro hj
                have hjm : j < m := by
                  rcases Nat.lt_or_ge j m with h | h
                  · exact h
                  · rw [hlo j h] at hj; cases hj
                have hjs : j < ops.size := by have := ok.le; omega
                have hoj := Array.getElem?_eq_getElem hjs
                obtain ⟨oj, hoj'⟩ : ∃ oj, ops[j]? = some oj := ⟨_, hoj⟩
                have hlk : ∀ t, t ∈ oj.looksAt ops → (frT ops a0 val' j).tmps[t]? = (frT ops a0 val j).tmps[t]? := fun t ht => (ok.frT a0 val' j).agree (ok.frT a0 val j) fun k hk => by
                  refine ⟨Iff.rfl, fun hkj => (ihj k hkj ?_).1⟩
                  exact hdown j k hj ((ok.looks j oj t k hjm hoj' ht hk).1 hkj)
                obtain ⟨he1, he2⟩ := same_exec (ok.sel j oj · · hoj') hlk
                have hwiff : wantedAt ops a0 val' j ↔ wantedAt ops a0 val j := by
                  unfold wantedAt
                  constructor
                  · rintro ⟨o1, h1, h2⟩
                    rw [hoj'] at h1; cases h1
                    exact ⟨oj, hoj', by rw [← he2]; exact h2⟩
                  · rintro ⟨o1, h1, h2⟩
                    rw [hoj'] at h1; cases h1
                    exact ⟨oj, hoj', by rw [he2]; exact h2⟩
                refine ⟨?_, hwiff⟩
                have b1 := hb j hjm oj hoj'
                have b2 := hb' j hjm oj hoj'
                unfold OkAt at b1 b2
                rw [he2] at b2
                by_cases hwj : Region.wanted oj (yielded ops (frT ops a0 val j).tmps) = true
                · rw [if_pos hwj] at b1 b2
                  cases hej : eff j with
                  | true =>
                    rw [hej, if_pos rfl] at b1 b2
                    have hji : j ≠ i := fun h => by subst h; exact hin hj
                    rw [b1.1, b2.1, hu'e]; simp [hji]
                  | false =>
                    rw [hej, if_neg (by decide)] at b1 b2
                    have n1 : NdAt ops eff anc EP a0 val j W' := fun k hk hwk hek hak => by
                      have hkl := hdown j k hj hak
                      have hPk : (EP k).P (val k) := by
                        have bk := hb k (by omega)
                        obtain ⟨ok', hok, hwok⟩ := hwk
                        have := bk ok' hok
                        unfold OkAt at this
                        rw [if_pos hwok, hek, if_pos rfl] at this
                        rw [this.1]; exact hu k
                      exact (EP k).st _ W W' hmv hPk (hH k hkl hwk hek)
                    have n2 : NdAt ops eff anc EP a0 val' j W' := fun k hk hwk hek hak => by
                      obtain ⟨s1, s2⟩ := ihj k hk (hdown j k hj hak)
                      rw [s1]; exact n1 k hk (s2.1 hwk) hek hak
                    have f1 := b1 W' hC' n1
                    have f2 := b2 W' hC' n2
                    unfold floatAt at f1 f2
                    rw [he1] at f2
                    rcases f1 with f1 | ⟨f1, g1⟩ <;> rcases f2 with f2 | ⟨f2, g2⟩ <;> rw [f1] at f2
                    · injection f2 with f2 _; injection f2 with f2; exact f2.symm
                    · injection f2 with f2 _; cases f2
                    · injection f2 with f2 _; cases f2
                    · rw [g1, g2]
                · rw [if_neg hwj] at b1 b2
                  rw [b1, b2]
            have hvi : val' i = v := by
              have b2 := hb' i him o ho
              have hlk : ∀ t, t ∈ o.looksAt ops → (frT ops a0 val' i).tmps[t]? = (frT ops a0 val i).tmps[t]? := fun t ht => (ok.frT a0 val' i).agree (ok.frT a0 val i) fun k hk =>
                ⟨Iff.rfl, fun hki => (hsame k (hanc k ((ok.looks i o t k him ho ht hk).1 hki))).1⟩
              obtain ⟨_, he2⟩ := same_exec (ok.sel i o · · ho) hlk
              unfold OkAt at b2
              rw [he2, if_pos hw, he, if_pos rfl] at b2
              rw [b2.1, hu'e]; simp
            have := hput val' fun j hj => (hsame j hj).1
            rw [hvi] at this
            refine ih _ _ W' hs' hc' hC' hdown' hlo' (fun j hj hjm => hDv j (fun e => hj ((hget j).2 (.inr e))) (hDD j (fun h => hj ((hget j).2 (.inl h))) hjm)) ⟨u', val', hu', hb', hfin', fun j hj hwj hej => ?_, this⟩
            rcases (hget j).1 hj with hj | rfl
            · obtain ⟨s1, s2⟩ := hsame j hj
              have hwj' := s2.1 hwj
              have hPj : (EP j).P (val j) := by
                have hjm : j < m := by
                  rcases Nat.lt_or_ge j m with h | h
                  · exact h
                  · rw [hlo j h] at hj; cases hj
                obtain ⟨oj, hoj, hwoj⟩ := hwj'
                have := hb j hjm oj hoj
                unfold OkAt at this
                rw [if_pos hwoj, hej, if_pos rfl] at this
                rw [this.1]; exact hu j
              rw [s1]; exact (EP j).st _ W W' hmv hPj (hH j hj hwj' hej)
            · rw [hvi]; exact hHv
        · rw [if_neg hw] at hbi
          have hwf : Region.wanted o (yielded ops a.tmps) = false := by rw [hwan]; simpa using hw
          refine so.un i o _ a W ho hwf ?_
          have h0 := hput val fun _ _ => rfl
          rw [hbi] at h0
          refine ih _ _ W hs' hc' hC hdown' hlo' (fun j hj hjm => hDD j (fun h => hj ((hget j).2 (.inl h))) hjm) ⟨u, val, hu, hb, hfin, fun j hj hwj hej => ?_, h0⟩
          rcases (hget j).1 hj with hj | rfl
          · exact hH j hj hwj hej
          · obtain ⟨oj, hoj, hwoj⟩ := hwj
            rw [ho] at hoj; cases hoj
            exact absurd hwoj hw
end
section
variable {P : Program} {Cl : FuncId → Array Value → World → (Ending → World → Prop) → Prop} {Rd : Nat → FuncId → Array Value → Code → Code → World → (Ending → World → Prop) → Prop}
  {ops : Array Oper} {eff : Nat → Bool} {anc : Nat → Nat} {M : World → World → Prop} {EP : Nat → Eff M} {C : World → Prop} {D : Nat → World → Prop} {Fin : List Oper → Act → World → Prop}
/-- The tree of the first m operations of a list; the rest is Fin's. -/
def regM (P : Program) (Cl : FuncId → Array Value → World → (Ending → World → Prop) → Prop) (Rd : Nat → FuncId → Array Value → Code → Code → World → (Ending → World → Prop) → Prop)
    (ops : Array Oper) (eff : Nat → Bool) (anc : Nat → Nat) (EP : Nat → Eff M) (C : World → Prop) (D : Nat → World → Prop) (Fin : List Oper → Act → World → Prop) : Nat → List Oper → Nat → List (Nat × (World → Prop)) → Act → Prop
  | 0, l, _, hist, a => ∀ W, C W → (∀ x ∈ hist, x.2 W) → Fin l a W
  | _ + 1, [], _, _, _ => False
  | m + 1, o :: rest, k, hist, a => regOp P Cl Rd ops (eff k) (anc k) (EP k) C D o k hist a (regM P Cl Rd ops eff anc EP C D Fin m rest (k + 1))
theorem regOp_mono {isE : Bool} {m : Nat} {E : Eff M} {o : Oper} {k : Nat} {hist : List (Nat × (World → Prop))} {a : Act} {K K' : List (Nat × (World → Prop)) → Act → Prop} (h : ∀ hi a, K hi a → K' hi a) (hh : regOp P Cl Rd ops isE m E C D o k hist a K) : regOp P Cl Rd ops isE m E C D o k hist a K' := by
  unfold regOp at *
  split
  · rename_i hw
    rw [if_pos hw] at hh
    split
    · rename_i he
      rw [if_pos he] at hh
      exact ⟨hh.1, fun v hv => h _ _ (hh.2 v hv)⟩
    · rename_i he
      rw [if_neg he] at hh
      obtain ⟨v, h1, h2⟩ := hh
      exact ⟨v, h1, h _ _ h2⟩
  · rename_i hw
    rw [if_neg hw] at hh
    exact h _ _ hh
theorem regT_of_regM : ∀ (m : Nat) (l : List Oper) (k : Nat) (hist : List (Nat × (World → Prop))) (a : Act), regM P Cl Rd ops eff anc EP C D Fin m l k hist a → regT P Cl Rd ops eff anc EP C D (Fin (l.drop m)) (l.take m) k hist a
  | 0, l, _, _, _, h => by rw [List.take_zero, List.drop_zero]; exact h
  | m + 1, [], _, _, _, h => h.elim
  | m + 1, o :: l, k, hist, a, h => by
    rw [List.take_succ_cons, List.drop_succ_cons]
    exact regOp_mono (fun hi a h => regT_of_regM m l (k + 1) hi a h) h

theorem regStep {m : Nat} {o : Oper} {rest : List Oper} {k : Nat} {hist : List (Nat × (World → Prop))} {a : Act}
    (h : ∀ K : List (Nat × (World → Prop)) → Act → Prop, (∀ hi a, Later (regM P Cl Rd ops eff anc EP C D Fin m rest (k + 1) hi a) → K hi a) → regOp P Cl Rd ops (eff k) (anc k) (EP k) C D o k hist a K) : Later (regM P Cl Rd ops eff anc EP C D Fin (m + 1) (o :: rest) k hist a) :=
  ⟨h _ fun _ _ h => h.out⟩
theorem regNil {l : List Oper} {k : Nat} {hist : List (Nat × (World → Prop))} {a : Act} (h : ∀ W, C W → (∀ x ∈ hist, x.2 W) → Fin l a W) : Later (regM P Cl Rd ops eff anc EP C D Fin 0 l k hist a) := ⟨h⟩
theorem regF {isE : Bool} {m : Nat} {E : Eff M} {o : Oper} {k : Nat} {hist : List (Nat × (World → Prop))} {a : Act} {K : List (Nat × (World → Prop)) → Act → Prop} (he : isE = false) (hw : Region.wanted o (yielded ops a.tmps) = true)
    (h : ∃ v, (∀ W : { W // C W }, floatAt P o a v W.1) ∧ K hist (a.put o.dst v)) : regOp P Cl Rd ops isE m E C D o k hist a K := by
  subst he
  unfold regOp
  rw [if_pos hw, if_neg (by decide)]
  obtain ⟨v, h1, h2⟩ := h
  exact ⟨v, fun W hW _ => h1 ⟨W, hW⟩, h2⟩
theorem regL {isE : Bool} {m : Nat} {E : Eff M} {o : Oper} {k : Nat} {hist : List (Nat × (World → Prop))} {a : Act} {K : List (Nat × (World → Prop)) → Act → Prop} (he : isE = false) (hw : Region.wanted o (yielded ops a.tmps) = true) (v : Value)
    (h1 : ∀ W, C W → needs m hist W → floatAt P o a v W) (h2 : K hist (a.put o.dst v)) : regOp P Cl Rd ops isE m E C D o k hist a K := by
  subst he
  unfold regOp
  rw [if_pos hw, if_neg (by decide)]
  exact ⟨v, h1, h2⟩
theorem regE {isE : Bool} {m : Nat} {E : Eff M} {o : Oper} {k : Nat} {hist : List (Nat × (World → Prop))} {a : Act} {K : List (Nat × (World → Prop)) → Act → Prop} (he : isE = true) (hw : Region.wanted o (yielded ops a.tmps) = true) (E' : Eff M) (hE : E = E')
    (h1 : ∀ W, C W → D k W → needs m hist W → effT Cl Rd (fun v W' => (M W W' ∧ ∀ j, j ≠ k → D j W → D j W') ∧ E'.P v ∧ E'.H v W') ((execOp a.eval o).run P W)) (h2 : ∀ v, E'.P v → K ((k, E'.H v) :: hist) (a.put o.dst v)) : regOp P Cl Rd ops isE m E C D o k hist a K := by
  subst he hE
  unfold regOp
  rw [if_pos hw, if_pos rfl]
  exact ⟨h1, h2⟩
theorem regN {isE : Bool} {m : Nat} {E : Eff M} {o : Oper} {k : Nat} {hist : List (Nat × (World → Prop))} {a : Act} {K : List (Nat × (World → Prop)) → Act → Prop} (hw : Region.wanted o (yielded ops a.tmps) = false) (h : K hist (a.put o.dst undef)) : regOp P Cl Rd ops isE m E C D o k hist a K := by
  unfold regOp
  rw [hw, if_neg (by decide)]
  exact h
end
/-- The law at a region, for any relation that the operations keep. -/
theorem wp_region_regM {P : Program} {id : Nat} {Q : Exit → Act → World → Prop} {a : Act} {w : World} {l : List Oper} (M : World → World → Prop) (hd : M w w.drew) (htr : ∀ A B C, M A B → M B C → M A C) (hm : P.follows .mixedOrders = true) (m : Nat) (anc : List Nat) (eff : Nat → Bool) (hB : regChk .any l.toArray anc m = true) (EP : Nat → Eff M) (D : Nat → World → Prop) (hD0 : ∀ j, j < m → D j w.drew)
    (h : ∀ C : World → Prop, (∀ W, C W ↔ M w W) → Nonempty { W // C W } → Later (regM P (Calls P) noRd l.toArray eff (fun i => anc.getD i 0) EP C D (fun r a W => wpList P l.toArray Q r a W) m l 0 [] a)) : (Code.region id l.toArray true).wp P Q a w := by
  have ok := regChk_ok hB
  have h0 : M w w.drew := hd
  have hT := regT_of_regM m l 0 [] a (h (M w) (fun _ => Iff.rfl) ⟨⟨_, h0⟩⟩).out
  have hml : m ≤ l.length := by have := ok.le; simpa using this
  have hbr : ∀ u : Nat → Value, (∀ j, (EP j).P (u j)) → ∃ val, (∀ i, i < m → BrAt P (Calls P) noRd l.toArray eff (fun i => anc.getD i 0) EP (M w) D a u val i) ∧
      ∀ W, M w W → (∀ j, j < m → wantedAt l.toArray a val j → eff j = true → (EP j).H (val j) W) → listG (wpOp P l.toArray Q) (fun a w => Q .normal a w) (List.range' m (l.toArray.size - m)) (frT l.toArray a val m) W := fun u hu => by
    obtain ⟨val, h1, h2⟩ := branch (ops := l.toArray) (m := m) (a := a) hu (l.take m) 0 (fun _ => undef) [] (by rw [List.length_take]; omega) (fun j hj => by rw [List.length_take] at hj; simp [List.getElem?_take]; omega) (fun x hx => by cases hx) (fun i hi => by omega) hT
    refine ⟨val, h1, fun W hW hN => listG_ops _ _ _ (fun i hi => ?_) ?_⟩
    · have := (List.mem_range'.1 hi)
      obtain ⟨k, hk, rfl⟩ := this
      simp only [List.size_toArray] at *
      omega
    · have := wpOps_eq_wpList (P := P) (ops := l.toArray) (Q := Q) (l.drop m) m (fun j => by simp [List.getElem?_drop])
      rw [List.length_drop] at this
      simp only [List.size_toArray]
      rw [this]
      exact h2 W hW hN
  have hno : ∀ j, (Array.replicate l.toArray.size false).getD j false = false := fun j => by
    rcases Nat.lt_or_ge j l.length with h | h
    · simp [h]
    · simp [Nat.not_lt.2 h]
  refine wp_region_any hm (wpAny_anyG _ _ _ _ ?_)
  refine anyG_reg (eff := eff) (EP := EP) (C := M w) (D := D) ok wpOp_stepOk (fun W W' h h' => htr _ _ _ h h') (a0 := a) hbr _ _ _ _ (by simp) (by simp) h0 (fun i j hi => by rw [hno] at hi; cases hi) (fun i _ => hno i) (fun i _ hi => hD0 i hi) ?_
  obtain ⟨val, h1, h2⟩ := hbr (fun j => (EP j).wit) (fun j => (EP j).pw)
  exact ⟨_, val, fun j => (EP j).pw, h1, h2, fun j hj => by (rw [hno] at hj; cases hj), FrP.start a _ fun j hj => by (rw [hno] at hj; cases hj)⟩
end Go.Proofs.YthdnlndpmmiboaaGreatDoor.RegH
