/-
  The walk of AlphabetJoins.
-/
import Derived.Test.YtokkgbcjjaiaeaaPlain
import Derived.Test.YtokkgbcjjaiaeaaClone
import Derived.Laws.AppendOwnNone
namespace Go.Proofs.Ytokkgbcjjaiaeaa
open Go Go.RowKit Go.Shelf Go.Maps

/-- Several alphabets at once: where each lies, and its classes. -/
def AllAl (w : World) (base : Nat) (L : List (Nat × List BS)) : Prop := ∀ x ∈ L, IsAl w base (.pointer (some ⟨x.1, 0, none⟩)) x.2
theorem AllAl.below {w w' : World} {base : Nat} {L : List (Nat × List BS)} (h : AllAl w base L) (hk : Below w.heap.size w w') : AllAl w' base L := fun x hx => (h x hx).below hk
theorem AllAl.cons {w w' : World} {base : Nat} {L : List (Nat × List BS)} {b : Nat} {p : List BS} (h : AllAl w base L) (hk : Below w.heap.size w w') (hb : base ≤ w.heap.size) (h1 : IsAl w' w.heap.size (.pointer (some ⟨b, 0, none⟩)) p) : AllAl w' base ((b, p) :: L) := by
  intro x hx
  rcases List.mem_cons.1 hx with rfl | hx
  · exact h1.base hb
  · exact (h x hx).below hk
theorem AllAl.get {w : World} {base : Nat} {L : List (Nat × List BS)} (h : AllAl w base L) {i b : Nat} {p : List BS} (hi : L[i]? = some (b, p)) : IsAl w base (.pointer (some ⟨b, 0, none⟩)) p := h _ (List.mem_of_getElem? hi)

/-- An operation of a plain region that its guard lets run. -/
theorem wpList_wanted {P : Program} {ops : Array Oper} {Q : Exit → Act → World → Prop} {a : Act} {w : World} {rest : List Oper} {o : Oper} (hw : Region.wanted o (yielded ops a.tmps) = true)
    (h : ∀ K : Act → World → Prop, (∀ a w, wpList P ops Q rest a w → K a w) → o.wp P a w K Q) : wpList P ops Q (o :: rest) a w := by
  unfold wpList
  rw [if_pos hw]
  exact .inl (h _ fun _ _ h => h)
theorem wpList_append_w {P : Program} {ops : Array Oper} {rest : List Oper} {o : Oper} {a : Act} {w : World} {Q : Exit → Act → World → Prop} (hw : Region.wanted o (yielded ops a.tmps) = true) (s x : Operand) (t : TypeId)
    (ho : o.op = .call { callee := .builtin .append, args := #[s, x], argTypes := #[t, t] })
    (base : Nat) (e : TypeId) (i : TypeInfo) (z : Value) (size bytes : Nat) (ht : P.underlying t = some (.slice e)) (hi : P.info? e = some i) (hz : i.zero = some z)
    (hsize : i.size = size) (hby : i.bytes = bytes) (hzs : z.cells.size = size) (hsz : 0 < size)
    (v : Value) (n : Nat) (xs : List Value) (hs : a.eval s = v) (hown : w.ownsRow base e size v n xs)
    (ad : Addr) (m c : Nat) (news : List Value) (hx : a.eval x = .slice (some ad) m c) (hl : news.length = m * size) (hnews : ∀ j u, news[j]? = some u → w.cell? (ad.add j) = some u) (h1 : ∀ u ∈ news, u.oneCell' = true)
    (h63 : n + m ≤ maxLen) (hbytes : (n + m) * bytes ≤ 140737488355328) (hbase : base ≤ w.heap.size)
    (h : ∀ v' w', w'.ownsRow base e size v' (n + m) (xs ++ news) → w.grownBy w' v.ownBlock → wpList P ops Q rest (a.put o.dst v') w') :
    wpList P ops Q (o :: rest) a w := by
  refine wpList_wanted hw fun K hK => ?_
  obtain ⟨v', w', hr, h2, h3, h4, h5⟩ := run_append_own_at (P := P) w base t o.type e i z size bytes ht hi hz hsize hby hzs hsz v n xs hown ad m c news hl hnews h1 h63 hbytes hbase
  unfold Oper.wp execOp
  simp only [ho, resolve, invoke, builtin, Sem.run_bind, Sem.run_pure, Result.andThen_ok, List.map_toArray, List.map_cons, List.map_nil, hs, hx, hr]
  exact hK _ _ (h v' w' h2 h3)
theorem wpList_append_wn {P : Program} {w : World} {ops : Array Oper} {rest : List Oper} {o : Oper} {a : Act} {Q : Exit → Act → World → Prop} (hw : Region.wanted o (yielded ops a.tmps) = true) (s x : Operand) (t : TypeId)
    (ho : o.op = .call { callee := .builtin .append, args := #[s, x], argTypes := #[t, t] })
    (base : Nat) (e : TypeId) (i : TypeInfo) (size : Nat) (ht : P.underlying t = some (.slice e)) (hi : P.info? e = some i)
    (v : Value) (n : Nat) (xs : List Value) (hs : a.eval s = v) (hown : w.ownsRow base e size v n xs) (hx : a.eval x = .slice none 0 0)
    (h : wpList P ops Q rest (a.put o.dst v) w) : wpList P ops Q (o :: rest) a w := by
  refine wpList_wanted hw fun K hK => ?_
  have hrun := run_append_owned_none (P := P) (w := w) base t o.type e i size ht hi v n xs hown
  unfold Oper.wp
  simp [execOp, ho, resolve, invoke, builtin, hs, hx, hrun, Result.andThen]
  exact hK _ _ h

/-- What the law asks of its three alphabets. -/
theorem joins_facts {A B C : Nat → Nat → Prop} {a b c ab ba bc left right one : List BS} (ha : IsPart a A) (hb : IsPart b B) (hc : IsPart c C) (h1 : ab = partsOf (a ++ b)) (h2 : ba = partsOf (b ++ a)) (h3 : bc = partsOf (b ++ c)) (h4 : left = partsOf (ab ++ c)) (h5 : right = partsOf (a ++ bc)) (h6 : one = partsOf []) :
    (∀ x ∈ [a, b, c, ab, ba, bc, left, right, allTo 256, one], finerOf (allTo 256) x = true ∧ finerOf x one = true ∧ finerOf x x = true ∧ sameOf x x = true) ∧
    sameOf ab ba = true ∧ sameOf left right = true ∧ finerOf ab a = true ∧ finerOf ab b = true ∧ sameOf (partsOf (a ++ a)) a = true ∧ (finerOf c ab = (finerOf c a && finerOf c b)) ∧
    (sameOf a b = (finerOf a b && finerOf b a)) ∧ sameOf ab a = finerOf a b := by
  have hab : IsPart ab fun c d => A c d ∧ B c d := by rw [h1]; exact ha.join hb
  have hba : IsPart ba fun c d => B c d ∧ A c d := by rw [h2]; exact hb.join ha
  have hbc : IsPart bc fun c d => B c d ∧ C c d := by rw [h3]; exact hb.join hc
  have hl : IsPart left fun c d => (A c d ∧ B c d) ∧ C c d := by rw [h4]; exact hab.join hc
  have hr : IsPart right fun c d => A c d ∧ (B c d ∧ C c d) := by rw [h5]; exact ha.join hbc
  have hone : IsPart one fun _ _ => True := by rw [h6]; exact (IsPart.of_parts []).congr fun c d _ _ => by simp [Alike]
  have key : ∀ {x : List BS} {R : Nat → Nat → Prop}, IsPart x R → finerOf (allTo 256) x = true ∧ finerOf x one = true ∧ finerOf x x = true ∧ sameOf x x = true := fun {x R} hx =>
    ⟨(allTo_part.finer hx).2 fun c d hc hd e => (hx.same_cls hc hd).1 (by rw [e]), (hx.finer hone).2 fun _ _ _ _ _ => trivial, (hx.finer hx).2 fun _ _ _ _ h => h, (hx.same hx).2 fun _ _ _ _ => Iff.rfl⟩
  refine ⟨fun x hx => ?_, (hab.same hba).2 fun _ _ _ _ => and_comm, (hl.same hr).2 fun _ _ _ _ => and_assoc, (hab.finer ha).2 fun _ _ _ _ h => h.1, (hab.finer hb).2 fun _ _ _ _ h => h.2, ((ha.join ha).same ha).2 fun _ _ _ _ => and_self_iff, ?_, ?_, ?_⟩
  · simp only [List.mem_cons, List.not_mem_nil, or_false] at hx
    rcases hx with rfl | rfl | rfl | rfl | rfl | rfl | rfl | rfl | rfl | rfl
    · exact key ha
    · exact key hb
    · exact key hc
    · exact key hab
    · exact key hba
    · exact key hbc
    · exact key hl
    · exact key hr
    · exact key allTo_part
    · exact key hone
  · rw [Bool.eq_iff_iff, Bool.and_eq_true, hc.finer hab, hc.finer ha, hc.finer hb]
    exact ⟨fun h => ⟨fun c d hc hd hr => (h c d hc hd hr).1, fun c d hc hd hr => (h c d hc hd hr).2⟩, fun h c d hc hd hr => ⟨h.1 c d hc hd hr, h.2 c d hc hd hr⟩⟩
  · rw [Bool.eq_iff_iff, Bool.and_eq_true, ha.same hb, ha.finer hb, hb.finer ha]
    exact ⟨fun h => ⟨fun c d hc hd => (h c d hc hd).1, fun c d hc hd => (h c d hc hd).2⟩, fun h c d hc hd => ⟨h.1 c d hc hd, h.2 c d hc hd⟩⟩
  · rw [Bool.eq_iff_iff, hab.same ha, ha.finer hb]
    exact ⟨fun h c d hc hd hr => ((h c d hc hd).2 hr).2, fun h c d hc hd => ⟨fun h => h.1, fun hr => ⟨hr, h c d hc hd hr⟩⟩⟩
/-- The alphabet of two lists is the join of theirs. -/
theorem joins_append (k l : List BS) : sameOf (partsOf (k ++ l)) (partsOf (partsOf k ++ partsOf l)) = true :=
  ((IsPart.of_parts (k ++ l)).same ((IsPart.of_parts k).join (IsPart.of_parts l))).2 fun _ _ _ _ => alike_append
theorem join_some {v v2 : Value} {base base2 : Nat} {p q : List BS} {w : World} (h : IsAl w base v p) (h2 : IsAl w base2 v2 q) (hp : p.isEmpty = false) (hq : q.isEmpty = false) :
    Calls Try.prog 24 #[v, v2] w fun e w' => ∃ b, e = .returned (.pointer (some ⟨b, 0, none⟩)) ∧ IsAl w' w.heap.size (.pointer (some ⟨b, 0, none⟩)) (partsOf (p ++ q)) ∧ Below w.heap.size w w' :=
  (join_any v v2 base base2 p q w h h2).mono fun e w' hj => by
    unfold JoinTo at hj
    rw [hp, hq] at hj
    exact hj
end Go.Proofs.Ytokkgbcjjaiaeaa
