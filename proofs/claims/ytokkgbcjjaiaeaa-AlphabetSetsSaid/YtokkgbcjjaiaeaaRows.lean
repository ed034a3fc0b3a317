/-
  No cell of these rows narrows 'for every input' (looked for: loops, veiled, ifaces, maps, wideKeys, modest, calm, conditions, laid).
  DERIVED. THE GIVEN ROWS OF THIS SEAT. 8 by the template 'for every input the law returns true; each argument reads behind the call as it read before'; 0 by the template 'total and deterministic' (their statements: YtokkgbcjjaiaeaaTotals.lean).
  GIVEN WITH THE SEED: the statements are not yours to turn. If you find one false, say at which input.
  Laid BY PROGRAM, IN A SANDBOX (cutbox-rows.mjs): the forced cells as the released guide's own fill.sh prints them over the translation d2a4db61a097c005… (all of the seat's roots in one cut). By AI agents, Wed Nov 11 2026. No macro, syntax, notation, axiom, sorry.
-/
import Derived.Test.YtokkgbcjjaiaeaaChecked
import GoSem.Claim
import GoSem.ClaimJoined
import GoSem.ClaimMapViews
import Derived.JoinedTies
import Derived.KernelRfl
namespace Go.Proofs.Ytokkgbcjjaiaeaa
/- THE CELL 'sum', in the pinned program and in every row, IS THE sha256 OF THE DUMP (.gsa) THAT YtokkgbcjjaiaeaaProg.lean LOADS. Nothing in Lean hashes anything: it is a label: what it is worth is what the hold of that sum in a sandbox is worth. -/
noncomputable def Try.pinned : Pinned := { name := "ytokkgbcjjaiaeaa", sum := "d2a4db61a097c005d3cdc37643c001a24d2cb79b11ad9c547824a92afd70de35", checked := Try.checked }
namespace Rows
def none {H : Type} : Left H := { results := [], args := [] }

/-- 'reparteelaw16.AlphabetTells': WHATEVER THE INPUT: true; the input reads as it did. -/
def alphabetTellsSpec : ChangeSpec := { name := "alphabetTells", fn := fun _ => fun
  | [d1, d2, d3, d4] => { results := [.lit (.bool true)], args := [d1, d2, d3, d4] }
  | _ => none }
def alphabetTellsRow : OpenClaim := { program := "ytokkgbcjjaiaeaa", sum := "d2a4db61a097c005d3cdc37643c001a24d2cb79b11ad9c547824a92afd70de35", func := "repartee/reparteelaw16.AlphabetTells", spec := "alphabetTells", unfollowed := true, recurses := true, apart := false }
def AlphabetTellsSaid : Prop := alphabetTellsRow.holds Try.pinned (OpenSpec.ofChange alphabetTellsSpec)

/-- ITS FALSE NEIGHBOUR: 'it returns false'. Refute it at one input. -/
def alphabetTellsWrong : ChangeSpec := { name := "alphabetTells", fn := fun _ => fun
  | [d1, d2, d3, d4] => { results := [.lit (.bool false)], args := [d1, d2, d3, d4] }
  | _ => none }
def AlphabetTellsWrongFalsely : Prop := alphabetTellsRow.holds Try.pinned (OpenSpec.ofChange alphabetTellsWrong)

/-- 'reparteelaw16.AlphabetWords': WHATEVER THE INPUT: true; the input reads as it did. -/
def alphabetWordsSpec : ChangeSpec := { name := "alphabetWords", fn := fun _ => fun
  | [d1, d2, d3, d4] => { results := [.lit (.bool true)], args := [d1, d2, d3, d4] }
  | _ => none }
def alphabetWordsRow : OpenClaim := { program := "ytokkgbcjjaiaeaa", sum := "d2a4db61a097c005d3cdc37643c001a24d2cb79b11ad9c547824a92afd70de35", func := "repartee/reparteelaw16.AlphabetWords", spec := "alphabetWords", unfollowed := true, recurses := true, apart := false }
def AlphabetWordsSaid : Prop := alphabetWordsRow.holds Try.pinned (OpenSpec.ofChange alphabetWordsSpec)

/-- ITS FALSE NEIGHBOUR: 'it returns false'. Refute it at one input. -/
def alphabetWordsWrong : ChangeSpec := { name := "alphabetWords", fn := fun _ => fun
  | [d1, d2, d3, d4] => { results := [.lit (.bool false)], args := [d1, d2, d3, d4] }
  | _ => none }
def AlphabetWordsWrongFalsely : Prop := alphabetWordsRow.holds Try.pinned (OpenSpec.ofChange alphabetWordsWrong)

/-- 'reparteelaw16.AlphabetJoins': WHATEVER THE INPUT: true; the input reads as it did. -/
def alphabetJoinsSpec : ChangeSpec := { name := "alphabetJoins", fn := fun _ => fun
  | [d1, d2, d3] => { results := [.lit (.bool true)], args := [d1, d2, d3] }
  | _ => none }
def alphabetJoinsRow : OpenClaim := { program := "ytokkgbcjjaiaeaa", sum := "d2a4db61a097c005d3cdc37643c001a24d2cb79b11ad9c547824a92afd70de35", func := "repartee/reparteelaw16.AlphabetJoins", spec := "alphabetJoins", unfollowed := true, recurses := true, apart := false }
def AlphabetJoinsSaid : Prop := alphabetJoinsRow.holds Try.pinned (OpenSpec.ofChange alphabetJoinsSpec)

/-- ITS FALSE NEIGHBOUR: 'it returns false'. Refute it at one input. -/
def alphabetJoinsWrong : ChangeSpec := { name := "alphabetJoins", fn := fun _ => fun
  | [d1, d2, d3] => { results := [.lit (.bool false)], args := [d1, d2, d3] }
  | _ => none }
def AlphabetJoinsWrongFalsely : Prop := alphabetJoinsRow.holds Try.pinned (OpenSpec.ofChange alphabetJoinsWrong)

/-- 'reparteelaw16.AlphabetMakes': WHATEVER THE INPUT: true; the input reads as it did. -/
def alphabetMakesSpec : ChangeSpec := { name := "alphabetMakes", fn := fun _ => fun
  | [d1, d2, d3, d4] => { results := [.lit (.bool true)], args := [d1, d2, d3, d4] }
  | _ => none }
def alphabetMakesRow : OpenClaim := { program := "ytokkgbcjjaiaeaa", sum := "d2a4db61a097c005d3cdc37643c001a24d2cb79b11ad9c547824a92afd70de35", func := "repartee/reparteelaw16.AlphabetMakes", spec := "alphabetMakes", unfollowed := true, recurses := true, apart := false }
def AlphabetMakesSaid : Prop := alphabetMakesRow.holds Try.pinned (OpenSpec.ofChange alphabetMakesSpec)

/-- ITS FALSE NEIGHBOUR: 'it returns false'. Refute it at one input. -/
def alphabetMakesWrong : ChangeSpec := { name := "alphabetMakes", fn := fun _ => fun
  | [d1, d2, d3, d4] => { results := [.lit (.bool false)], args := [d1, d2, d3, d4] }
  | _ => none }
def AlphabetMakesWrongFalsely : Prop := alphabetMakesRow.holds Try.pinned (OpenSpec.ofChange alphabetMakesWrong)

/-- 'reparteelaw16.AlphabetSmall': WHATEVER THE INPUT: true; the input reads as it did. -/
def alphabetSmallSpec : ChangeSpec := { name := "alphabetSmall", fn := fun _ => fun
  | [] => { results := [.lit (.bool true)], args := [] }
  | _ => none }
def alphabetSmallRow : OpenClaim := { program := "ytokkgbcjjaiaeaa", sum := "d2a4db61a097c005d3cdc37643c001a24d2cb79b11ad9c547824a92afd70de35", func := "repartee/reparteelaw16.AlphabetSmall", spec := "alphabetSmall", unfollowed := true, recurses := true, apart := false }
def AlphabetSmallSaid : Prop := alphabetSmallRow.holds Try.pinned (OpenSpec.ofChange alphabetSmallSpec)

/-- ITS FALSE NEIGHBOUR: 'it returns false'. Refute it at one input. -/
def alphabetSmallWrong : ChangeSpec := { name := "alphabetSmall", fn := fun _ => fun
  | [] => { results := [.lit (.bool false)], args := [] }
  | _ => none }
def AlphabetSmallWrongFalsely : Prop := alphabetSmallRow.holds Try.pinned (OpenSpec.ofChange alphabetSmallWrong)

/-- 'reparteelaw16.AlphabetClasses': WHATEVER THE INPUT: true; the input reads as it did. -/
def alphabetClassesSpec : ChangeSpec := { name := "alphabetClasses", fn := fun _ => fun
  | [d] => { results := [.lit (.bool true)], args := [d] }
  | _ => none }
def alphabetClassesRow : OpenClaim := { program := "ytokkgbcjjaiaeaa", sum := "d2a4db61a097c005d3cdc37643c001a24d2cb79b11ad9c547824a92afd70de35", func := "repartee/reparteelaw16.AlphabetClasses", spec := "alphabetClasses", unfollowed := true, recurses := true, apart := false }
def AlphabetClassesSaid : Prop := alphabetClassesRow.holds Try.pinned (OpenSpec.ofChange alphabetClassesSpec)

/-- ITS FALSE NEIGHBOUR: 'it returns false'. Refute it at one input. -/
def alphabetClassesWrong : ChangeSpec := { name := "alphabetClasses", fn := fun _ => fun
  | [d] => { results := [.lit (.bool false)], args := [d] }
  | _ => none }
def AlphabetClassesWrongFalsely : Prop := alphabetClassesRow.holds Try.pinned (OpenSpec.ofChange alphabetClassesWrong)

/-- 'reparteelaw16.AlphabetWrong': WHATEVER THE INPUT: true; the input reads as it did. -/
def alphabetWrongSpec : ChangeSpec := { name := "alphabetWrong", fn := fun _ => fun
  | [d1, d2, d3, d4] => { results := [.lit (.bool true)], args := [d1, d2, d3, d4] }
  | _ => none }
def alphabetWrongRow : OpenClaim := { program := "ytokkgbcjjaiaeaa", sum := "d2a4db61a097c005d3cdc37643c001a24d2cb79b11ad9c547824a92afd70de35", func := "repartee/reparteelaw16.AlphabetWrong", spec := "alphabetWrong", inPlace := ["slices.overlaps[int]"], unfollowed := true, recurses := true, apart := false }
def AlphabetWrongSaid : Prop := alphabetWrongRow.holds Try.pinned (OpenSpec.ofChange alphabetWrongSpec)

/-- ITS FALSE NEIGHBOUR: 'it returns false'. Refute it at one input. -/
def alphabetWrongWrong : ChangeSpec := { name := "alphabetWrong", fn := fun _ => fun
  | [d1, d2, d3, d4] => { results := [.lit (.bool false)], args := [d1, d2, d3, d4] }
  | _ => none }
def AlphabetWrongWrongFalsely : Prop := alphabetWrongRow.holds Try.pinned (OpenSpec.ofChange alphabetWrongWrong)

/-- 'reparteelaw16.AlphabetSets': WHATEVER THE INPUT: true; the input reads as it did. -/
def alphabetSetsSpec : ChangeSpec := { name := "alphabetSets", fn := fun _ => fun
  | [d1, d2, d3, d4] => { results := [.lit (.bool true)], args := [d1, d2, d3, d4] }
  | _ => none }
def alphabetSetsRow : OpenClaim := { program := "ytokkgbcjjaiaeaa", sum := "d2a4db61a097c005d3cdc37643c001a24d2cb79b11ad9c547824a92afd70de35", func := "repartee/reparteelaw16.AlphabetSets", spec := "alphabetSets", unfollowed := true, recurses := true, apart := false }
def AlphabetSetsSaid : Prop := alphabetSetsRow.holds Try.pinned (OpenSpec.ofChange alphabetSetsSpec)

/-- ITS FALSE NEIGHBOUR: 'it returns false'. Refute it at one input. -/
def alphabetSetsWrong : ChangeSpec := { name := "alphabetSets", fn := fun _ => fun
  | [d1, d2, d3, d4] => { results := [.lit (.bool false)], args := [d1, d2, d3, d4] }
  | _ => none }
def AlphabetSetsWrongFalsely : Prop := alphabetSetsRow.holds Try.pinned (OpenSpec.ofChange alphabetSetsWrong)

/- THE SECOND FORM. 'bulk': how many values and letters a reading holds, each counted each time it is reached (what is shared counts as often as it is met; a slice's spare places count too). A statement '..UptoSaid' is the law's where the arguments, and the package variables that the reading takes, are together of bulk at most 1048576: NARROWER than '..Said'. Prove '..Said' where nothing that the law and all that it calls make is longer than what came in: it says more and counts as full. Else prove '..UptoSaid'. A law counts once. -/
mutual
def uptoBulk {H : Type} : DataW H → Nat
  | .lit (.string bytes) => bytes.length + 1
  | .lit _ => 1
  | .nil => 1
  | .ptr d => uptoBulk d + 1
  | .slice elems spare => uptoBulkAll elems + uptoBulkAll spare + 1
  | .agg parts => uptoBulkAll parts + 1
  | .iface _ d => uptoBulk d + 1
  | .map entries => uptoBulkEntries entries + 1
  | .held _ => 1
def uptoBulkAll {H : Type} : List (DataW H) → Nat
  | [] => 0
  | d :: r => uptoBulk d + uptoBulkAll r
def uptoBulkEntries {H : Type} : List (Lit × DataW H) → Nat
  | [] => 0
  | x :: r => uptoBulkEntry x + uptoBulkEntries r
def uptoBulkEntry {H : Type} : Lit × DataW H → Nat
  | (.string bytes, d) => bytes.length + uptoBulk d + 1
  | (_, d) => uptoBulk d + 1
 end
def uptoSmall : (H : Type) → List (DataW H) → Bool := fun _ ds => decide (uptoBulkAll ds ≤ 1048576)
def OpenSpec.upto (s : _root_.Go.ChangeSpec) : _root_.Go.OpenSpec := { _root_.Go.OpenSpec.ofChange s with cond := some uptoSmall }

/-- 'reparteelaw16.AlphabetTells', WHERE WHAT IT READS IS OF BULK AT MOST 1048576: true; the input reads as it did. -/
def alphabetTellsUptoRow : OpenClaim := { program := "ytokkgbcjjaiaeaa", sum := "d2a4db61a097c005d3cdc37643c001a24d2cb79b11ad9c547824a92afd70de35", func := "repartee/reparteelaw16.AlphabetTells", spec := "alphabetTells", unfollowed := true, recurses := true, apart := false, narrowed := true }
def AlphabetTellsUptoSaid : Prop := alphabetTellsUptoRow.holds Try.pinned (OpenSpec.upto alphabetTellsSpec)

/-- 'reparteelaw16.AlphabetWords', WHERE WHAT IT READS IS OF BULK AT MOST 1048576: true; the input reads as it did. -/
def alphabetWordsUptoRow : OpenClaim := { program := "ytokkgbcjjaiaeaa", sum := "d2a4db61a097c005d3cdc37643c001a24d2cb79b11ad9c547824a92afd70de35", func := "repartee/reparteelaw16.AlphabetWords", spec := "alphabetWords", unfollowed := true, recurses := true, apart := false, narrowed := true }
def AlphabetWordsUptoSaid : Prop := alphabetWordsUptoRow.holds Try.pinned (OpenSpec.upto alphabetWordsSpec)

/-- 'reparteelaw16.AlphabetJoins', WHERE WHAT IT READS IS OF BULK AT MOST 1048576: true; the input reads as it did. -/
def alphabetJoinsUptoRow : OpenClaim := { program := "ytokkgbcjjaiaeaa", sum := "d2a4db61a097c005d3cdc37643c001a24d2cb79b11ad9c547824a92afd70de35", func := "repartee/reparteelaw16.AlphabetJoins", spec := "alphabetJoins", unfollowed := true, recurses := true, apart := false, narrowed := true }
def AlphabetJoinsUptoSaid : Prop := alphabetJoinsUptoRow.holds Try.pinned (OpenSpec.upto alphabetJoinsSpec)

/-- 'reparteelaw16.AlphabetMakes', WHERE WHAT IT READS IS OF BULK AT MOST 1048576: true; the input reads as it did. -/
def alphabetMakesUptoRow : OpenClaim := { program := "ytokkgbcjjaiaeaa", sum := "d2a4db61a097c005d3cdc37643c001a24d2cb79b11ad9c547824a92afd70de35", func := "repartee/reparteelaw16.AlphabetMakes", spec := "alphabetMakes", unfollowed := true, recurses := true, apart := false, narrowed := true }
def AlphabetMakesUptoSaid : Prop := alphabetMakesUptoRow.holds Try.pinned (OpenSpec.upto alphabetMakesSpec)

/-- 'reparteelaw16.AlphabetSmall', WHERE WHAT IT READS IS OF BULK AT MOST 1048576: true; the input reads as it did. -/
def alphabetSmallUptoRow : OpenClaim := { program := "ytokkgbcjjaiaeaa", sum := "d2a4db61a097c005d3cdc37643c001a24d2cb79b11ad9c547824a92afd70de35", func := "repartee/reparteelaw16.AlphabetSmall", spec := "alphabetSmall", unfollowed := true, recurses := true, apart := false, narrowed := true }
def AlphabetSmallUptoSaid : Prop := alphabetSmallUptoRow.holds Try.pinned (OpenSpec.upto alphabetSmallSpec)

/-- 'reparteelaw16.AlphabetClasses', WHERE WHAT IT READS IS OF BULK AT MOST 1048576: true; the input reads as it did. -/
def alphabetClassesUptoRow : OpenClaim := { program := "ytokkgbcjjaiaeaa", sum := "d2a4db61a097c005d3cdc37643c001a24d2cb79b11ad9c547824a92afd70de35", func := "repartee/reparteelaw16.AlphabetClasses", spec := "alphabetClasses", unfollowed := true, recurses := true, apart := false, narrowed := true }
def AlphabetClassesUptoSaid : Prop := alphabetClassesUptoRow.holds Try.pinned (OpenSpec.upto alphabetClassesSpec)

/-- 'reparteelaw16.AlphabetWrong', WHERE WHAT IT READS IS OF BULK AT MOST 1048576: true; the input reads as it did. -/
def alphabetWrongUptoRow : OpenClaim := { program := "ytokkgbcjjaiaeaa", sum := "d2a4db61a097c005d3cdc37643c001a24d2cb79b11ad9c547824a92afd70de35", func := "repartee/reparteelaw16.AlphabetWrong", spec := "alphabetWrong", inPlace := ["slices.overlaps[int]"], unfollowed := true, recurses := true, apart := false, narrowed := true }
def AlphabetWrongUptoSaid : Prop := alphabetWrongUptoRow.holds Try.pinned (OpenSpec.upto alphabetWrongSpec)

/-- 'reparteelaw16.AlphabetSets', WHERE WHAT IT READS IS OF BULK AT MOST 1048576: true; the input reads as it did. -/
def alphabetSetsUptoRow : OpenClaim := { program := "ytokkgbcjjaiaeaa", sum := "d2a4db61a097c005d3cdc37643c001a24d2cb79b11ad9c547824a92afd70de35", func := "repartee/reparteelaw16.AlphabetSets", spec := "alphabetSets", unfollowed := true, recurses := true, apart := false, narrowed := true }
def AlphabetSetsUptoSaid : Prop := alphabetSetsUptoRow.holds Try.pinned (OpenSpec.upto alphabetSetsSpec)

end Rows
end Go.Proofs.Ytokkgbcjjaiaeaa
