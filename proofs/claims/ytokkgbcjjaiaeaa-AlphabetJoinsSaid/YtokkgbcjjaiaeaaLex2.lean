/-
  Steps through a drawn region in the order of the text, each told apart by closed facts (whether it is an effect; whether its guard lets it run).
-/
import Derived.Test.YtokkgbcjjaiaeaaSeq
import Derived.Deep.MidRow
import Derived.Maps.AppendAt
namespace Go.Proofs.Ytokkgbcjjaiaeaa
open Go Go.RowKit
section
variable {F : Fence} {n : Nat} {P : Program} {C : World → Prop} {ops : Array Oper}
/-- What is still to be walked, shut. -/
structure Later (p : Prop) : Prop where
  out : p
theorem laterStep {eff : Nat → Bool} {Q : Act → World → Prop} {o : Oper} {rest : List Oper} {k : Nat} {a : Act} {w : World}
    (h : ∀ K : Act → World → Prop, (∀ a w, Later (wpLex F n P C ops eff Q rest (k + 1) a w) → K a w) → lexOp F n P C ops (eff k) o K a w) : Later (wpLex F n P C ops eff Q (o :: rest) k a w) := ⟨wpLex_step fun K hK => h K fun a w hl => hK a w hl.out⟩
theorem laterNil {eff : Nat → Bool} {Q : Act → World → Prop} {k : Nat} {a : Act} {w : World} (h : Q a w) : Later (wpLex F n P C ops eff Q [] k a w) := ⟨h⟩
theorem lexF {isE : Bool} {o : Oper} {K : Act → World → Prop} {a : Act} {w : World} (he : isE = false) (hw : Region.wanted o (yielded ops a.tmps) = true) (h : ∃ v, (∀ W : { W // C W }, floatAt P o a v W.1) ∧ K (a.put o.dst v) w) : lexOp F n P C ops isE o K a w := by
  subst he; exact lexOp_float hw h
theorem lexE {isE : Bool} {o : Oper} {K : Act → World → Prop} {a : Act} {w : World} (he : isE = true) (hw : Region.wanted o (yielded ops a.tmps) = true) (h : effAt F n P C o.dst a K ((execOp a.eval o).run P w)) : lexOp F n P C ops isE o K a w := by
  subst he; exact lexOp_eff hw h
theorem lexN {isE : Bool} {o : Oper} {K : Act → World → Prop} {a : Act} {w : World} (hw : Region.wanted o (yielded ops a.tmps) = false) (h : K (a.put o.dst undef) w) : lexOp F n P C ops isE o K a w := lexOp_not hw h

/-- A whole array read in a drawn region, the same in every world of the class. -/
theorem floatAt_load {op : Oper} {a : Act} {W : World} (ty : TypeId) (x : Operand) (ho : op.op = .load ty x)
    (b o : Nat) (hx : a.eval x = .pointer (some ⟨b, o, none⟩)) (cs : Array Value) (d : TypeDesc) (hc : W.rangeAt b o cs.toList)
    (hu : P.underlying ty = some d) (hd : d.isRow = true) (hi : (P.info? ty).map (·.size) = some cs.size) : floatAt P op a (.agg cs) W := by
  refine .inl ?_
  unfold execOp
  simp only [ho, hx, Instr.loadAt, Instr.sureAddr, Sem.run_bind, Sem.run_pure, Result.andThen_ok, run_loadVar_mid W b o ty cs.toList d hc hu hd (by rw [Array.length_toList]; exact hi)]
theorem rangeAt_keeps {w w' : World} {R : Nat → Prop} {b o : Nat} {cs : List Value} (h : w.rangeAt b o cs) (hk : Keeps R w w') (hb : R b) : w'.rangeAt b o cs := fun j v hj => (hk.cell (p := ⟨b, o + j, none⟩) hb).trans (h j v hj)

/-- An append in a drawn region: an effect. -/
theorem effAt_append {o : Oper} {a : Act} {w : World} {K : Act → World → Prop} (s x : Operand) (t : TypeId)
    (ho : o.op = .call { callee := .builtin .append, args := #[s, x], argTypes := #[t, t] })
    (base : Nat) (e : TypeId) (i : TypeInfo) (z : Value) (size bytes : Nat) (ht : P.underlying t = some (.slice e)) (hi : P.info? e = some i) (hz : i.zero = some z)
    (hsize : i.size = size) (hby : i.bytes = bytes) (hzs : z.cells.size = size) (hsz : 0 < size)
    (v : Value) (m : Nat) (xs : List Value) (hs : a.eval s = v) (hown : w.ownsRow base e size v m xs)
    (ad : Addr) (k c : Nat) (news : List Value) (hx : a.eval x = .slice (some ad) k c) (hl : news.length = k * size) (hnews : ∀ j u, news[j]? = some u → w.cell? (ad.add j) = some u) (h1 : ∀ u ∈ news, u.oneCell' = true)
    (h63 : m + k ≤ maxLen) (hbytes : (m + k) * bytes ≤ 140737488355328) (hbase : base ≤ w.heap.size)
    (h : ∀ v' w', w'.ownsRow base e size v' (m + k) (xs ++ news) → w.grownBy w' v.ownBlock → (v'.ownBlock = v.ownBlock ∨ v'.ownBlock = some w.heap.size) → C w' ∧ K (a.put o.dst v') w') :
    effAt F n P C o.dst a K ((execOp a.eval o).run P w) := by
  obtain ⟨v', w', hr, h2, h3, h4, h5⟩ := run_append_own_at (P := P) w base t o.type e i z size bytes ht hi hz hsize hby hzs hsz v m xs hown ad k c news hl hnews h1 h63 hbytes hbase
  unfold execOp
  simp only [ho, resolve, invoke, builtin, Sem.run_bind, Sem.run_pure, Result.andThen_ok, List.map_toArray, List.map_cons, List.map_nil, hs, hx, hr]
  exact h v' w' h2 h3 h5
end
end Go.Proofs.Ytokkgbcjjaiaeaa
