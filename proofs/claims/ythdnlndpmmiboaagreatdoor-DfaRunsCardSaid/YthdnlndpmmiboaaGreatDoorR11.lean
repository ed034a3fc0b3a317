/-
  Drawn regions in which a slice that the region itself made is appended to: what is kept is told by a family of facts.
  An append to a slice that a drawn region got from a call: what stays.
  What it is for an alphabet of the program and one of the reference to agree.
  Plain law: an alphabet of the program and that of the reference, which is for each byte the least one of its class.
  Walks of the reference of layer 16: Bytes.
  Plain law: what the program's alphabet tells, and what the reference's does.
-/
import Derived.Test.YthdnlndpmmiboaaGreatDoorR10
import Derived.Test.YthdnlndpmmiboaaGreatDoorR08
namespace Go.Proofs.YthdnlndpmmiboaaGreatDoor
open Go Go.RowKit

/-- The old blocks are kept, and the facts of a family. -/
def MoveK (n0 : Nat) (Φ : Nat → Value → World → Prop) (A B : World) : Prop := Keeps (fun k => k < n0 ∧ k < A.heap.size) A B ∧ ∀ i v, Φ i v A → Φ i v B
theorem MoveK.trans {n0 : Nat} {Φ : Nat → Value → World → Prop} {A B C : World} (h : MoveK n0 Φ A B) (k : MoveK n0 Φ B C) : MoveK n0 Φ A C :=
  ⟨h.1.trans k.1 fun _ hk => ⟨hk.1, Nat.lt_of_lt_of_le hk.2 h.1.size⟩, fun i v x => k.2 i v (h.2 i v x)⟩
theorem MoveK.below {n0 : Nat} {Φ : Nat → Value → World → Prop} {A B : World} (st : ∀ i v A B, Below A.heap.size A B → Φ i v A → Φ i v B) (h : Below A.heap.size A B) : MoveK n0 Φ A B :=
  ⟨Keeps.of_below h fun _ hk => hk.2, fun i v => st i v A B h⟩
def Eff.fact (n0 : Nat) (Φ : Nat → Value → World → Prop) (i : Nat) (P : Value → Prop) (wit : Value) (pw : P wit) : Eff (MoveK n0 Φ) := ⟨P, Φ i, wit, pw, fun v _ _ m _ h => m.2 i v h⟩

theorem ownsRow_prefix {w : World} {base : Nat} {e : TypeId} {size g n m cap : Nat} {xs ys : List Value} (hx : xs.length = n * size) (h : w.ownsRow base e size (.slice (some ⟨g, 0, none⟩) (n + m) cap) (n + m) (xs ++ ys)) : w.ownsRow base e size (.slice (some ⟨g, 0, none⟩) n cap) n xs := by
  rcases h.2 with ⟨h1, _⟩ | ⟨g', c', cur, h1, h2, h3, h4, h5, h6, h7⟩
  · cases h1
  · cases h1
    refine ⟨hx, .inr ⟨g, cap, cur, rfl, h2, h3, by omega, h5, h6, ?_⟩⟩
    have := congrArg (List.take (n * size)) h7
    rw [List.take_take, Nat.min_eq_left (Nat.mul_le_mul_right _ (Nat.le_add_right n m)), List.take_left' hx] at this
    exact this
/-- Two owned rows in one block have one capacity. -/
theorem ownsRow_same {w : World} {b1 b2 : Nat} {e : TypeId} {size n1 n2 g : Nat} {v1 v2 : Value} {x1 x2 : List Value} (hs : 0 < size) (h1 : w.ownsRow b1 e size v1 n1 x1) (h2 : w.ownsRow b2 e size v2 n2 x2) (e1 : v1.ownBlock = some g) (e2 : v2.ownBlock = some g) :
    ∃ cap, v1 = .slice (some ⟨g, 0, none⟩) n1 cap ∧ v2 = .slice (some ⟨g, 0, none⟩) n2 cap ∧ n1 ≤ cap ∧ n2 ≤ cap := by
  rcases h1.2 with ⟨rfl, _⟩ | ⟨g1, c1, cur1, rfl, _, f1, k1, _, s1, _⟩
  · cases e1
  · rcases h2.2 with ⟨rfl, _⟩ | ⟨g2, c2, cur2, rfl, _, f2, k2, _, s2, _⟩
    · cases e2
    · have a1 : g1 = g := by simpa [Value.ownBlock] using e1
      have a2 : g2 = g := by simpa [Value.ownBlock] using e2
      subst a1
      subst a2
      rw [f1] at f2
      cases f2
      have : c1 = c2 := Nat.eq_of_mul_eq_mul_right hs (by omega)
      subst this
      exact ⟨c1, rfl, rfl, k1, k2⟩
end Go.Proofs.YthdnlndpmmiboaaGreatDoor
namespace Go.Proofs.YthdnlndpmmiboaaGreatDoor
open Go Go.RowKit

section
variable {P : Program}
/-- An append, of any number of elements: it makes new memory, or it stays in its block. -/
theorem run_append_alt (w : World) (base : Nat) (t ty e : TypeId) (i : TypeInfo) (z : Value) (size bytes : Nat) (ht : P.underlying t = some (.slice e)) (hi : P.info? e = some i) (hz : i.zero = some z)
    (hsize : i.size = size) (hby : i.bytes = bytes) (hzs : z.cells.size = size) (hsz : 0 < size) (v : Value) (k : Nat) (xs : List Value) (hown : w.ownsRow base e size v k xs)
    (x : Value) (m : Nat) (news : List Value) (hx : SrcOf w x m news) (hl : news.length = m * size) (h1 : ∀ u ∈ news, u.oneCell' = true)
    (h63 : k + m ≤ maxLen) (hbytes : (k + m) * bytes ≤ 140737488355328) (hbase : base ≤ w.heap.size) :
    ∃ v' w', (Builtin.append_ #[t, t] ty #[v, x]).run P w = .ok v' w' ∧ w'.ownsRow base e size v' (k + m) (xs ++ news) ∧ w.grownBy w' v.ownBlock ∧
      (Below w.heap.size w w' ∨ ∃ g cap, v = .slice (some ⟨g, 0, none⟩) k cap ∧ v' = .slice (some ⟨g, 0, none⟩) (k + m) cap ∧ k + m ≤ cap) := by
  obtain ⟨v', w', hr, h2, h3⟩ := run_append_src (P := P) w base t ty e i z size bytes ht hi hz hsize hby hzs hsz v k xs hown x m news hx hl h1 h63 hbytes hbase
  refine ⟨v', w', hr, h2, h3, ?_⟩
  rcases hx with ⟨rfl, rfl, rfl⟩ | ⟨ad, c, rfl, hnews⟩
  · rw [run_append_owned_none (P := P) (w := w) base t ty e i size ht hi v k xs hown] at hr
    cases hr
    exact .inl (Below.refl _ _)
  · rcases hown.2 with ⟨rfl, rfl⟩ | ⟨g, cap, cur, rfl, hbg, hg, hnc, hcm, hcs, htake⟩
    · exact .inl (Keeps.below (Keeps.of_grown h3 fun y hy => ⟨hy, fun e => by cases e⟩))
    · by_cases hroom : k + m ≤ cap
      · right
        subst hsize
        have hr2 := run_append_room (P := P) w t ty e i ht hi g k cap cur hg ad m c news hl hnews h1 hroom (by rw [hl, hcs, ← Nat.add_mul]; exact Nat.mul_le_mul_right _ hroom)
        rw [hr2] at hr
        cases hr
        exact ⟨g, cap, rfl, rfl, hroom⟩
      · left
        obtain ⟨v2, w2, hr2, _, h4⟩ := run_append_str (P := P) w base t ty e i z size bytes ht hi hz hsize hby hzs hsz _ k xs hown ad m c news hl hnews h1 h63 hbytes hbase (by omega)
        rw [hr] at hr2
        cases hr2
        rcases h4 with ⟨g', cap', cur', e1, _, _, e4, _⟩ | ⟨hb, _⟩
        · cases e1; omega
        · exact hb
theorem effT_appendZ {Cl : FuncId → Array Value → World → (Ending → World → Prop) → Prop} {Rd : Nat → FuncId → Array Value → Code → Code → World → (Ending → World → Prop) → Prop} {o : Oper} {a : Act} {W : World} {post : Value → World → Prop} (s x : Operand) (t : TypeId)
    (ho : o.op = .call { callee := .builtin .append, args := #[s, x], argTypes := #[t, t] })
    (base : Nat) (e : TypeId) (i : TypeInfo) (z : Value) (size bytes : Nat) (ht : P.underlying t = some (.slice e)) (hi : P.info? e = some i) (hz : i.zero = some z)
    (hsize : i.size = size) (hby : i.bytes = bytes) (hzs : z.cells.size = size) (hsz : 0 < size)
    (v : Value) (k : Nat) (xs : List Value) (hs : a.eval s = v) (hown : W.ownsRow base e size v k xs)
    (xv : Value) (m : Nat) (news : List Value) (hx : a.eval x = xv) (hsrc : SrcOf W xv m news) (hl : news.length = m * size) (h1 : ∀ u ∈ news, u.oneCell' = true)
    (h63 : k + m ≤ maxLen) (hbytes : (k + m) * bytes ≤ 140737488355328) (hbase : base ≤ W.heap.size)
    (h : ∀ v' w', w'.ownsRow base e size v' (k + m) (xs ++ news) → W.grownBy w' v.ownBlock → (Below W.heap.size W w' ∨ ∃ g cap, v = .slice (some ⟨g, 0, none⟩) k cap ∧ v' = .slice (some ⟨g, 0, none⟩) (k + m) cap ∧ k + m ≤ cap) → post v' w') :
    effT Cl Rd post ((execOp a.eval o).run P W) := by
  obtain ⟨v', w', hr, h2, h3, h4⟩ := run_append_alt (P := P) W base t o.type e i z size bytes ht hi hz hsize hby hzs hsz v k xs hown xv m news hsrc hl h1 h63 hbytes hbase
  unfold execOp
  simp only [ho, resolve, invoke, builtin, Sem.run_bind, Sem.run_pure, Result.andThen_ok, List.map_toArray, List.map_cons, List.map_nil, hs, hx, hr]
  exact h v' w' h2 h3 h4
end
/-- What such a region leaves: the slice, and the longer one. -/
def twoPhi (n0 : Nat) (e : TypeId) (size Ka Kb : Nat) (L1 L2 : List Value) : Nat → Value → World → Prop
  | 0, v, W => W.ownsRow n0 e size v Ka L1
  | 1, v, W => W.ownsRow n0 e size v (Ka + Kb) (L1 ++ L2)
  | _, _, _ => True
theorem twoPhi_st (n0 : Nat) (e : TypeId) (size Ka Kb : Nat) (L1 L2 : List Value) : ∀ i v A B, Below A.heap.size A B → twoPhi n0 e size Ka Kb L1 L2 i v A → twoPhi n0 e size Ka Kb L1 L2 i v B
  | 0, _, _, _, hb, h => ownsRow_below (show World.ownsRow _ _ _ _ _ _ _ from h) hb
  | 1, _, _, _, hb, h => ownsRow_below (show World.ownsRow _ _ _ _ _ _ _ from h) hb
  | _ + 2, _, _, _, _, _ => trivial
theorem twoPhi_place {n0 size Ka Kb g cap : Nat} {e : TypeId} {L1 L2 : List Value} {W W' : World} (hs : 0 < size) (ho : W.ownsRow n0 e size (.slice (some ⟨g, 0, none⟩) Ka cap) Ka L1) (ho' : W'.ownsRow n0 e size (.slice (some ⟨g, 0, none⟩) (Ka + Kb) cap) (Ka + Kb) (L1 ++ L2))
    (hg : W.grownBy W' (some g)) : ∀ i v, twoPhi n0 e size Ka Kb L1 L2 i v W → twoPhi n0 e size Ka Kb L1 L2 i v W'
  | 0, v, h => by
    have h : W.ownsRow n0 e size v Ka L1 := h
    show W'.ownsRow n0 e size v Ka L1
    by_cases e2 : v.ownBlock = some g
    · obtain ⟨c, h1, h2, _⟩ := ownsRow_same hs h ho e2 rfl
      cases h2
      subst h1
      exact ownsRow_prefix h.1 ho'
    · exact h.kept hg (.inr e2)
  | 1, v, h => by
    have h : W.ownsRow n0 e size v (Ka + Kb) (L1 ++ L2) := h
    show W'.ownsRow n0 e size v (Ka + Kb) (L1 ++ L2)
    by_cases e2 : v.ownBlock = some g
    · obtain ⟨c, h1, h2, _⟩ := ownsRow_same hs h ho e2 rfl
      cases h2
      subst h1
      exact ho'
    · exact h.kept hg (.inr e2)
  | _ + 2, _, _ => trivial
end Go.Proofs.YthdnlndpmmiboaaGreatDoor
namespace Go.Proofs.YthdnlndpmmiboaaGreatDoor
open Go Go.RowKit Go.Shelf Go.Maps
/-- An alphabet and the reference's agree. -/
structure Agrees (p : List BS) (f : Nat → Int) : Prop where
  ne : p.isEmpty = false
  len : p.length = (leastsTo f 256).length
  byte : ∀ c, c < 256 → ∃ m : Nat, f c = m ∧ m ≤ c ∧ (leastsTo f 256)[cls p c]? = some m
  cls : ∀ n m : Nat, (leastsTo f 256)[n]? = some m → ∃ s, p[n]? = some s ∧ backS (refSetOf f m) = s ∧ leastOf p n = (m, true)
end Go.Proofs.YthdnlndpmmiboaaGreatDoor
namespace Go.Proofs.YthdnlndpmmiboaaGreatDoor
open Go Go.RowKit Go.Shelf Go.Maps

theorem sortedN_eq : ∀ (p q : List Nat), p.Pairwise (· < ·) → q.Pairwise (· < ·) → (∀ x, x ∈ p ↔ x ∈ q) → p = q
  | [], q, _, _, h => by
    cases q with
    | nil => rfl
    | cons y q => have := (h y).2 (by simp); simp at this
  | x :: p, q, hp, hq, h => by
    cases q with
    | nil => have := (h x).1 (by simp); simp at this
    | cons y q =>
      rw [List.pairwise_cons] at hp hq
      have hxy : x = y := by
        have h1 := (h x).1 (by simp)
        have h2 := (h y).2 (by simp)
        rcases List.mem_cons.1 h1 with e | h1
        · exact e
        · rcases List.mem_cons.1 h2 with e | h2
          · exact e.symm
          · have a := hq.1 x h1; have b := hp.1 y h2; omega
      subst hxy
      congr 1
      refine sortedN_eq p q hp.2 hq.2 fun z => ?_
      have hz := h z
      simp only [List.mem_cons] at hz
      constructor
      · intro hzp
        rcases hz.1 (.inr hzp) with e | h1
        · subst e; have := hp.1 z hzp; omega
        · exact h1
      · intro hzq
        rcases hz.2 (.inr hzq) with e | h1
        · subst e; have := hq.1 z hzq; omega
        · exact h1

/-- f is for each byte the least one of its class. -/
structure IsRef (f : Nat → Int) (R : Nat → Nat → Prop) : Prop where
  val : ∀ c, c < 256 → ∃ m : Nat, f c = m ∧ m ≤ c ∧ R c m ∧ ∀ e, e < m → ¬ R c e

theorem IsPart.least {p : List BS} {R : Nat → Nat → Prop} (hp : IsPart p R) {f : Nat → Int} (hf : IsRef f R) {c k : Nat} {q : BS} (hc : c < 256) (hk : p[k]? = Option.some q) (hq : q.getLsbD c = true) : f c = ((firstOf q).1 : Int) := by
  obtain ⟨m, h1, h2, h3, h4⟩ := hf.val c hc
  have hm := List.mem_of_getElem? hk
  obtain ⟨_, a1, a2, a3⟩ := first_of_ne (hp.ne q hm)
  have hqm := (hp.alike q hm c m hc (by omega) hq).2 h3
  have hle : (firstOf q).1 ≤ m := by
    rcases Nat.lt_or_ge m (firstOf q).1 with h | h
    · rw [a3 m h] at hqm; cases hqm
    · exact h
  have hge : m ≤ (firstOf q).1 := by
    rcases Nat.lt_or_ge (firstOf q).1 m with h | h
    · exact absurd ((hp.alike q hm c _ hc a1 hq).1 a2) (h4 _ h)
    · exact h
  rw [h1, show m = (firstOf q).1 by omega]

theorem IsPart.leasts {p : List BS} {R : Nat → Nat → Prop} (hp : IsPart p R) {f : Nat → Int} (hf : IsRef f R) : leastsTo f 256 = p.map fun q => (firstOf q).1 := by
  refine sortedN_eq _ _ (List.pairwise_lt_range.filter _) ?_ fun c => ?_
  · rw [List.pairwise_map]; exact hp.sorted
  · unfold leastsTo
    rw [List.mem_filter, List.mem_range, List.mem_map, beq_iff_eq]
    constructor
    · rintro ⟨hc, h⟩
      obtain ⟨k, q, hk, hq⟩ := hp.cover c hc
      refine ⟨q, List.mem_of_getElem? hk, ?_⟩
      have := hp.least hf hc hk hq
      omega
    · rintro ⟨q, hm, rfl⟩
      obtain ⟨_, a1, a2, a3⟩ := first_of_ne (hp.ne q hm)
      obtain ⟨k, hk⟩ := List.getElem?_of_mem hm
      exact ⟨a1, hp.least hf a1 hk a2⟩

theorem IsPart.agrees {p : List BS} {R : Nat → Nat → Prop} (hp : IsPart p R) {f : Nat → Int} (hf : IsRef f R) : Agrees p f where
  ne := hp.some
  len := by rw [hp.leasts hf, List.length_map]
  byte := fun c hc => by
    obtain ⟨q, h1, h2⟩ := (hp.cls_iff hc).1 rfl
    obtain ⟨m, h3, h4, _⟩ := hf.val c hc
    refine ⟨m, h3, h4, ?_⟩
    rw [hp.leasts hf, List.getElem?_map, h1]
    have := hp.least hf hc h1 h2
    rw [h3] at this
    have hm : m = (firstOf q).1 := by omega
    rw [hm]; rfl
  cls := fun n m hn => by
    rw [hp.leasts hf, List.getElem?_map] at hn
    cases hs : p[n]? with
    | none => rw [hs] at hn; cases hn
    | some s =>
      rw [hs] at hn
      have hm : (firstOf s).1 = m := by simpa using hn
      have hmem := List.mem_of_getElem? hs
      obtain ⟨a0, a1, a2, a3⟩ := first_of_ne (hp.ne s hmem)
      refine ⟨s, rfl, ?_, ?_⟩
      · unfold backS
        refine (BS.eq_bsOf fun c hc => ?_).symm
        unfold refSetOf
        obtain ⟨k, q, hk, hq⟩ := hp.cover c hc
        have hfc := hp.least hf hc hk hq
        rw [Bool.eq_iff_iff]
        constructor
        · intro h
          rw [hp.least hf hc hs h, hm]; simp
        · intro h
          have he : f c = (m : Int) := by
            by_cases h' : f c = (m : Int)
            · exact h'
            · rw [if_neg h'] at h; cases h
          have hqk : (firstOf q).1 = (firstOf s).1 := by omega
          obtain ⟨_, b1, b2, b3⟩ := first_of_ne (hp.ne q (List.mem_of_getElem? hk))
          have := apart_index hp.apart hk hs (c := (firstOf s).1) (by rw [← hqk]; exact b2) a2
          subst this
          rw [hk] at hs; cases hs; exact hq
      · unfold leastOf
        rw [setOf_nat, hs]
        show firstOf s = _
        rw [← hm, ← a0]

theorem IsRef.of_least {R : Nat → Nat → Prop} (hrefl : ∀ c, R c c) {r : Nat → Nat → Bool} (hr : ∀ c d, c < 256 → d < 256 → (r c d = true ↔ R c d)) : IsRef (fun c => (leastR r c : Int)) R where
  val := fun c hc => by
    refine ⟨leastR r c, rfl, ?_⟩
    unfold leastR
    cases h : (List.range c).find? (r c) with
    | none =>
      refine ⟨Nat.le_refl _, hrefl c, fun e he hre => ?_⟩
      have := List.find?_eq_none.1 h e (List.mem_range.2 he)
      exact this ((hr c e hc (by have : e < c := he; omega)).2 hre)
    | some d =>
      obtain ⟨h1, i, hi, h2, h3⟩ := List.find?_eq_some_iff_getElem.1 h
      have hd : d < c := List.mem_range.1 (List.mem_of_find?_eq_some h)
      simp only [List.getElem_range] at h2 h3
      subst h2
      refine ⟨Nat.le_of_lt hd, (hr c i hc (by omega)).1 h1, fun e he hre => ?_⟩
      have := h3 e he
      rw [(hr c e hc (by have : e < i := he; omega)).2 hre] at this; cases this
theorem partP_refS (l : List BS) (c d : Nat) : partP (l.map refS) c d = true ↔ Alike l c d := by
  unfold partP Alike
  simp only [List.all_map, List.all_eq_true, Function.comp, decide_eq_true_eq]
  refine forall_congr' fun s => forall_congr' fun _ => ?_
  unfold refS
  cases s.getLsbD c <;> cases s.getLsbD d <;> simp
/-- The reference's alphabet of sets. -/
def refA (l : List BS) : Nat → Int := fun c => (leastR (partP (l.map refS)) c : Int)
theorem isRef_refA (l : List BS) : IsRef (refA l) (Alike l) := IsRef.of_least (fun _ _ _ => rfl) fun c d _ _ => partP_refS l c d
theorem agrees_of (l : List BS) : Agrees (partsOf l) (refA l) := (IsPart.of_parts l).agrees (isRef_refA l)
theorem eqA_iff {f g : Nat → Int} : eqA f g = true ↔ ∀ c, c < 256 → f c = g c := by
  unfold eqA
  simp only [List.all_eq_true, List.mem_range, beq_iff_eq]
theorem IsRef.ext {f g : Nat → Int} {R S : Nat → Nat → Prop} (hf : IsRef f R) (hg : IsRef g S) (h : ∀ c d, c < 256 → d < 256 → (R c d ↔ S c d)) : ∀ c, c < 256 → f c = g c := fun c hc => by
  obtain ⟨m, h1, h2, h3, h4⟩ := hf.val c hc
  obtain ⟨k, a1, a2, a3, a4⟩ := hg.val c hc
  have : m = k := by
    rcases Nat.lt_trichotomy m k with hlt | he | hlt
    · exact absurd ((h c m hc (by omega)).1 h3) (a4 m hlt)
    · exact he
    · exact absurd ((h c k hc (by omega)).2 a3) (h4 k hlt)
  rw [h1, a1, this]
end Go.Proofs.YthdnlndpmmiboaaGreatDoor
namespace Go.Proofs.YthdnlndpmmiboaaGreatDoor
open Go Go.RowKit Go.Shelf Go.Maps

def leastAt (f : Nat → Int) (x : Int) : Nat := (leastsTo f 256)[x.toNat]?.getD 0
def bytR (f : Nat → Int) (l : List Int) : List Nat × Int := if l.all (inR f) then (l.map (leastAt f), 0) else ([], 2)

/-- A list that is read, with some element, as what an effect leaves. -/
def Eff.sl {α : Type} (enc : α → Value) (l : List α) : Eff (Move false (fun _ => False)) where
  P := fun v => ∃ b off cap, v = .slice (some ⟨b, off, none⟩) l.length cap
  H := fun v W => IsSl enc W v l
  wit := .slice (some ⟨0, 0, none⟩) l.length 0
  pw := ⟨0, 0, 0, rfl⟩
  st := fun _ _ _ hm _ h => h.below hm.below
/-- A new box of some cells. -/
def Eff.box (n : Nat) (cs : Array Value) (t : TypeId) : Eff (Move false (fun _ => False)) where
  P := fun v => ∃ b, v = .slice (some ⟨b, 0, none⟩) n n
  H := fun v W => ∀ b, v = .slice (some ⟨b, 0, none⟩) n n → Blk W b cs t
  wit := .slice (some ⟨0, 0, none⟩) n n
  pw := ⟨0, rfl⟩
  st := fun _ _ _ hm _ h b hb => (h b hb).below hm.below (h b hb).lt

end Go.Proofs.YthdnlndpmmiboaaGreatDoor
namespace Go.Proofs.YthdnlndpmmiboaaGreatDoor
open Go Go.RowKit Go.Shelf Go.Maps

theorem refS_eq (s : BS) (c d : Nat) : refS s c = refS s d ↔ s.getLsbD c = s.getLsbD d := by
  unfold refS; cases s.getLsbD c <;> cases s.getLsbD d <;> simp
/-- A class has a set whole, where the set has its least byte and no byte of the class is told apart from it. -/
theorem IsPart.whole {p : List BS} {R : Nat → Nat → Prop} (hp : IsPart p R) {f : Nat → Int} (hf : IsRef f R) {s q : BS} {k : Nat} (hk : p[k]? = Option.some q) (h : ∀ c, c < 256 → refS s c = refS s (f c).toNat) :
    (q &&& ~~~s = 0 ↔ s.getLsbD (firstOf q).1 = true) ∧ badTo s q = false := by
  obtain ⟨_, a1, a2, a3⟩ := first_of_ne (hp.ne q (List.mem_of_getElem? hk))
  have hb : ∀ c, c < 256 → q.getLsbD c = true → s.getLsbD c = s.getLsbD (firstOf q).1 := fun c hc hq => by
    have h1 := h c hc
    rw [hp.least hf hc hk hq, Int.toNat_natCast, refS_eq] at h1
    exact h1
  cases hs : s.getLsbD (firstOf q).1 with
  | true =>
    have hw : q &&& ~~~s = 0 := bs_eq_zero fun c hc hb' => by
      rw [bit_and] at hb'
      have h1 := hb c hc hb'.1
      have h2 := hb'.2
      rw [not_bit _ hc, h1, hs] at h2; cases h2
    exact ⟨⟨fun _ => rfl, fun _ => hw⟩, by unfold badTo; rw [hw]; rfl⟩
  | false =>
    have hm : q &&& s = 0 := bs_eq_zero fun c hc hb' => by
      rw [bit_and] at hb'
      have h1 := hb c hc hb'.1
      rw [h1, hs] at hb'; cases hb'.2
    refine ⟨⟨fun hw => ?_, fun h => by cases h⟩, by unfold badTo; rw [hm]; simp⟩
    have : (q &&& ~~~s).getLsbD (firstOf q).1 = true := by rw [bit_and]; exact ⟨a2, by rw [not_bit _ a1, hs]; rfl⟩
    rw [hw, bs_zero_bit] at this; cases this
theorem Agrees.inR_iff {p : List BS} {f : Nat → Int} (h : Agrees p f) (x : Int) : inR f x = (setOf p x).isSome := by
  unfold inR
  rw [← h.len]
  rcases setOf_ex p x with ⟨h1, h2⟩ | ⟨n, s, rfl, h1, h2, h3⟩
  · rw [h1]
    rcases h2 with h2 | h2
    · rw [decide_eq_false (by omega)]; rfl
    · rw [decide_eq_false (show ¬ x < (p.length : Int) by omega), Bool.and_false]; rfl
  · rw [h3, decide_eq_true (by omega), decide_eq_true (by omega)]; rfl
theorem Agrees.at {p : List BS} {f : Nat → Int} (h : Agrees p f) {x : Int} (hx : inR f x = true) : ∃ (n m : Nat) (s : BS), x = n ∧ (leastsTo f 256)[n]? = some m ∧ setOf p x = some s ∧ backS (refSetOf f m) = s ∧ leastOf p x = (m, true) := by
  obtain ⟨n, m, rfl, hm⟩ := inR_some hx
  obtain ⟨s, h1, h2, h3⟩ := h.cls n m hm
  exact ⟨n, m, s, rfl, hm, (setOf_nat p n).trans h1, h2, h3⟩
theorem backS_bit (f : Nat → Int) {c : Nat} (hc : c < 256) : (backS f).getLsbD c = (f c == 1) := by unfold backS; exact bsOf_bit _ hc
theorem Agrees.bytes {p : List BS} {f : Nat → Int} (h : Agrees p f) (l : List Int) : bytesOfL p l = ((bytR f l).1, (bytR f l).2.toNat) ∧ 0 ≤ (bytR f l).2 := by
  have hk : ∀ x, (leastOf p x).2 = inR f x := fun x => by
    cases hb : inR f x with
    | true =>
      obtain ⟨n, m, s, rfl, h1, h2, h3, h4⟩ := h.at hb
      rw [h4]
    | false =>
      have := h.inR_iff x
      rw [hb] at this
      unfold leastOf
      cases hs : setOf p x with
      | none => rfl
      | some s => rw [hs] at this; cases this
  have he : l.all (fun k => (leastOf p k).2) = l.all (inR f) := by
    congr 1; funext x; exact hk x
  unfold bytesOfL bytR
  rw [h.ne, if_neg (by decide), he]
  cases hb : l.all (inR f) with
  | true =>
    rw [if_pos rfl, if_pos rfl]
    refine ⟨?_, Int.le_refl _⟩
    congr 1
    refine List.map_congr_left fun x hx => ?_
    obtain ⟨n, m, s, rfl, h1, h2, h3, h4⟩ := h.at (List.all_eq_true.1 hb x hx)
    rw [h4]
    unfold leastAt
    rw [Int.toNat_natCast, h1]; rfl
  | false =>
    rw [if_neg (by decide), if_neg (by decide)]
    exact ⟨rfl, by decide⟩
end Go.Proofs.YthdnlndpmmiboaaGreatDoor
