/-
  No cell of these rows narrows 'for every input' (looked for: loops, veiled, ifaces, maps, wideKeys, modest, calm, conditions, laid).
  DERIVED. THE GIVEN ROWS OF THIS SEAT. 12 by the template 'for every input the law returns true; each argument reads behind the call as it read before'; 0 by the template 'total and deterministic' (their statements: YtnoejflancomaaaTotals.lean).
  GIVEN WITH THE SEED: the statements are not yours to turn. If you find one false, say at which input.
  Laid BY PROGRAM, IN A SANDBOX (cutbox-rows.mjs): the forced cells as the released guide's own fill.sh prints them over the translation 7b7d81c254b301f0… (all of the seat's roots in one cut). By AI agents, Wed Nov 11 2026. No macro, syntax, notation, axiom, sorry.
-/
import Derived.Test.YtnoejflancomaaaChecked
import GoSem.Claim
import GoSem.ClaimJoined
import GoSem.ClaimMapViews
import Derived.JoinedTies
import Derived.KernelRfl
namespace Go.Proofs.Ytnoejflancomaaa
/- THE CELL 'sum', in the pinned program and in every row, IS THE sha256 OF THE DUMP (.gsa) THAT YtnoejflancomaaaProg.lean LOADS. Nothing in Lean hashes anything: it is a label: what it is worth is what the hold of that sum in a sandbox is worth. -/
noncomputable def Try.pinned : Pinned := { name := "ytnoejflancomaaa", sum := "7b7d81c254b301f06b180ea0c819e1b05922d3392d41b23b71fa6fe6b780c5ed", checked := Try.checked }
namespace Rows
def none {H : Type} : Left H := { results := [], args := [] }

/-- 'laws.FnExactFirstDesk': WHATEVER THE INPUT: true; the input reads as it did. -/
def fnExactFirstDeskSpec : ChangeSpec := { name := "fnExactFirstDesk", fn := fun _ => fun
  | [] => { results := [.lit (.bool true)], args := [] }
  | _ => none }
def fnExactFirstDeskRow : OpenClaim := { program := "ytnoejflancomaaa", sum := "7b7d81c254b301f06b180ea0c819e1b05922d3392d41b23b71fa6fe6b780c5ed", func := "loop.example/g01306/laws.FnExactFirstDesk", spec := "fnExactFirstDesk", plainKeys := false, apart := false }
def FnExactFirstDeskSaid : Prop := fnExactFirstDeskRow.holds Try.pinned (OpenSpec.ofChange fnExactFirstDeskSpec)

/-- ITS FALSE NEIGHBOUR: 'it returns false'. Refute it at one input. -/
def fnExactFirstDeskWrong : ChangeSpec := { name := "fnExactFirstDesk", fn := fun _ => fun
  | [] => { results := [.lit (.bool false)], args := [] }
  | _ => none }
def FnExactFirstDeskWrongFalsely : Prop := fnExactFirstDeskRow.holds Try.pinned (OpenSpec.ofChange fnExactFirstDeskWrong)

/-- 'laws.FnExactIsDesk': WHATEVER THE INPUT: true; the input reads as it did. -/
def fnExactIsDeskSpec : ChangeSpec := { name := "fnExactIsDesk", fn := fun _ => fun
  | [d] => { results := [.lit (.bool true)], args := [d] }
  | _ => none }
def fnExactIsDeskRow : OpenClaim := { program := "ytnoejflancomaaa", sum := "7b7d81c254b301f06b180ea0c819e1b05922d3392d41b23b71fa6fe6b780c5ed", func := "loop.example/g01306/laws.FnExactIsDesk", spec := "fnExactIsDesk", unfollowed := true, recurses := true, plainKeys := false, apart := false }
def FnExactIsDeskSaid : Prop := fnExactIsDeskRow.holds Try.pinned (OpenSpec.ofChange fnExactIsDeskSpec)

/-- ITS FALSE NEIGHBOUR: 'it returns false'. Refute it at one input. -/
def fnExactIsDeskWrong : ChangeSpec := { name := "fnExactIsDesk", fn := fun _ => fun
  | [d] => { results := [.lit (.bool false)], args := [d] }
  | _ => none }
def FnExactIsDeskWrongFalsely : Prop := fnExactIsDeskRow.holds Try.pinned (OpenSpec.ofChange fnExactIsDeskWrong)

/-- 'laws.FnExactPairChoice': WHATEVER THE INPUT: true; the input reads as it did. -/
def fnExactPairChoiceSpec : ChangeSpec := { name := "fnExactPairChoice", fn := fun _ => fun
  | [d1, d2, d3, d4, d5] => { results := [.lit (.bool true)], args := [d1, d2, d3, d4, d5] }
  | _ => none }
def fnExactPairChoiceRow : OpenClaim := { program := "ytnoejflancomaaa", sum := "7b7d81c254b301f06b180ea0c819e1b05922d3392d41b23b71fa6fe6b780c5ed", func := "loop.example/g01306/laws.FnExactPairChoice", spec := "fnExactPairChoice", unfollowed := true, recurses := true, plainKeys := false, apart := false }
def FnExactPairChoiceSaid : Prop := fnExactPairChoiceRow.holds Try.pinned (OpenSpec.ofChange fnExactPairChoiceSpec)

/-- ITS FALSE NEIGHBOUR: 'it returns false'. Refute it at one input. -/
def fnExactPairChoiceWrong : ChangeSpec := { name := "fnExactPairChoice", fn := fun _ => fun
  | [d1, d2, d3, d4, d5] => { results := [.lit (.bool false)], args := [d1, d2, d3, d4, d5] }
  | _ => none }
def FnExactPairChoiceWrongFalsely : Prop := fnExactPairChoiceRow.holds Try.pinned (OpenSpec.ofChange fnExactPairChoiceWrong)

/-- 'laws.FnExactPairByRule': WHATEVER THE INPUT: true; the input reads as it did. -/
def fnExactPairByRuleSpec : ChangeSpec := { name := "fnExactPairByRule", fn := fun _ => fun
  | [d1, d2, d3, d4, d5] => { results := [.lit (.bool true)], args := [d1, d2, d3, d4, d5] }
  | _ => none }
def fnExactPairByRuleRow : OpenClaim := { program := "ytnoejflancomaaa", sum := "7b7d81c254b301f06b180ea0c819e1b05922d3392d41b23b71fa6fe6b780c5ed", func := "loop.example/g01306/laws.FnExactPairByRule", spec := "fnExactPairByRule", unfollowed := true, recurses := true, plainKeys := false, apart := false }
def FnExactPairByRuleSaid : Prop := fnExactPairByRuleRow.holds Try.pinned (OpenSpec.ofChange fnExactPairByRuleSpec)

/-- ITS FALSE NEIGHBOUR: 'it returns false'. Refute it at one input. -/
def fnExactPairByRuleWrong : ChangeSpec := { name := "fnExactPairByRule", fn := fun _ => fun
  | [d1, d2, d3, d4, d5] => { results := [.lit (.bool false)], args := [d1, d2, d3, d4, d5] }
  | _ => none }
def FnExactPairByRuleWrongFalsely : Prop := fnExactPairByRuleRow.holds Try.pinned (OpenSpec.ofChange fnExactPairByRuleWrong)

/-- 'laws.FnExactPairGreatest': WHATEVER THE INPUT: true; the input reads as it did. -/
def fnExactPairGreatestSpec : ChangeSpec := { name := "fnExactPairGreatest", fn := fun _ => fun
  | [d1, d2, d3, d4] => { results := [.lit (.bool true)], args := [d1, d2, d3, d4] }
  | _ => none }
def fnExactPairGreatestRow : OpenClaim := { program := "ytnoejflancomaaa", sum := "7b7d81c254b301f06b180ea0c819e1b05922d3392d41b23b71fa6fe6b780c5ed", func := "loop.example/g01306/laws.FnExactPairGreatest", spec := "fnExactPairGreatest", unfollowed := true, recurses := true, plainKeys := false, apart := false }
def FnExactPairGreatestSaid : Prop := fnExactPairGreatestRow.holds Try.pinned (OpenSpec.ofChange fnExactPairGreatestSpec)

/-- ITS FALSE NEIGHBOUR: 'it returns false'. Refute it at one input. -/
def fnExactPairGreatestWrong : ChangeSpec := { name := "fnExactPairGreatest", fn := fun _ => fun
  | [d1, d2, d3, d4] => { results := [.lit (.bool false)], args := [d1, d2, d3, d4] }
  | _ => none }
def FnExactPairGreatestWrongFalsely : Prop := fnExactPairGreatestRow.holds Try.pinned (OpenSpec.ofChange fnExactPairGreatestWrong)

/-- 'laws.FnExactPairMean': WHATEVER THE INPUT: true; the input reads as it did. -/
def fnExactPairMeanSpec : ChangeSpec := { name := "fnExactPairMean", fn := fun _ => fun
  | [d1, d2, d3, d4] => { results := [.lit (.bool true)], args := [d1, d2, d3, d4] }
  | _ => none }
def fnExactPairMeanRow : OpenClaim := { program := "ytnoejflancomaaa", sum := "7b7d81c254b301f06b180ea0c819e1b05922d3392d41b23b71fa6fe6b780c5ed", func := "loop.example/g01306/laws.FnExactPairMean", spec := "fnExactPairMean", unfollowed := true, recurses := true, plainKeys := false, apart := false }
def FnExactPairMeanSaid : Prop := fnExactPairMeanRow.holds Try.pinned (OpenSpec.ofChange fnExactPairMeanSpec)

/-- ITS FALSE NEIGHBOUR: 'it returns false'. Refute it at one input. -/
def fnExactPairMeanWrong : ChangeSpec := { name := "fnExactPairMean", fn := fun _ => fun
  | [d1, d2, d3, d4] => { results := [.lit (.bool false)], args := [d1, d2, d3, d4] }
  | _ => none }
def FnExactPairMeanWrongFalsely : Prop := fnExactPairMeanRow.holds Try.pinned (OpenSpec.ofChange fnExactPairMeanWrong)

/-- 'laws.FnExactCountGamesOver': WHATEVER THE INPUT: true; the input reads as it did. -/
def fnExactCountGamesOverSpec : ChangeSpec := { name := "fnExactCountGamesOver", fn := fun _ => fun
  | [d1, d2, d3] => { results := [.lit (.bool true)], args := [d1, d2, d3] }
  | _ => none }
def fnExactCountGamesOverRow : OpenClaim := { program := "ytnoejflancomaaa", sum := "7b7d81c254b301f06b180ea0c819e1b05922d3392d41b23b71fa6fe6b780c5ed", func := "loop.example/g01306/laws.FnExactCountGamesOver", spec := "fnExactCountGamesOver", unfollowed := true, recurses := true, plainKeys := false, apart := false }
def FnExactCountGamesOverSaid : Prop := fnExactCountGamesOverRow.holds Try.pinned (OpenSpec.ofChange fnExactCountGamesOverSpec)

/-- ITS FALSE NEIGHBOUR: 'it returns false'. Refute it at one input. -/
def fnExactCountGamesOverWrong : ChangeSpec := { name := "fnExactCountGamesOver", fn := fun _ => fun
  | [d1, d2, d3] => { results := [.lit (.bool false)], args := [d1, d2, d3] }
  | _ => none }
def FnExactCountGamesOverWrongFalsely : Prop := fnExactCountGamesOverRow.holds Try.pinned (OpenSpec.ofChange fnExactCountGamesOverWrong)

/-- 'laws.FnExactPairMatters': WHATEVER THE INPUT: true; the input reads as it did. -/
def fnExactPairMattersSpec : ChangeSpec := { name := "fnExactPairMatters", fn := fun _ => fun
  | [d1, d2, d3, d4] => { results := [.lit (.bool true)], args := [d1, d2, d3, d4] }
  | _ => none }
def fnExactPairMattersRow : OpenClaim := { program := "ytnoejflancomaaa", sum := "7b7d81c254b301f06b180ea0c819e1b05922d3392d41b23b71fa6fe6b780c5ed", func := "loop.example/g01306/laws.FnExactPairMatters", spec := "fnExactPairMatters", unfollowed := true, recurses := true, plainKeys := false, apart := false }
def FnExactPairMattersSaid : Prop := fnExactPairMattersRow.holds Try.pinned (OpenSpec.ofChange fnExactPairMattersSpec)

/-- ITS FALSE NEIGHBOUR: 'it returns false'. Refute it at one input. -/
def fnExactPairMattersWrong : ChangeSpec := { name := "fnExactPairMatters", fn := fun _ => fun
  | [d1, d2, d3, d4] => { results := [.lit (.bool false)], args := [d1, d2, d3, d4] }
  | _ => none }
def FnExactPairMattersWrongFalsely : Prop := fnExactPairMattersRow.holds Try.pinned (OpenSpec.ofChange fnExactPairMattersWrong)

/-- 'laws.FnExactPairThrowsUsed': WHATEVER THE INPUT: true; the input reads as it did. -/
def fnExactPairThrowsUsedSpec : ChangeSpec := { name := "fnExactPairThrowsUsed", fn := fun _ => fun
  | [d1, d2, d3, d4, d5] => { results := [.lit (.bool true)], args := [d1, d2, d3, d4, d5] }
  | _ => none }
def fnExactPairThrowsUsedRow : OpenClaim := { program := "ytnoejflancomaaa", sum := "7b7d81c254b301f06b180ea0c819e1b05922d3392d41b23b71fa6fe6b780c5ed", func := "loop.example/g01306/laws.FnExactPairThrowsUsed", spec := "fnExactPairThrowsUsed", unfollowed := true, recurses := true, plainKeys := false, apart := false }
def FnExactPairThrowsUsedSaid : Prop := fnExactPairThrowsUsedRow.holds Try.pinned (OpenSpec.ofChange fnExactPairThrowsUsedSpec)

/-- ITS FALSE NEIGHBOUR: 'it returns false'. Refute it at one input. -/
def fnExactPairThrowsUsedWrong : ChangeSpec := { name := "fnExactPairThrowsUsed", fn := fun _ => fun
  | [d1, d2, d3, d4, d5] => { results := [.lit (.bool false)], args := [d1, d2, d3, d4, d5] }
  | _ => none }
def FnExactPairThrowsUsedWrongFalsely : Prop := fnExactPairThrowsUsedRow.holds Try.pinned (OpenSpec.ofChange fnExactPairThrowsUsedWrong)

/-- 'laws.FnDiceCounted': WHATEVER THE INPUT: true; the input reads as it did. -/
def fnDiceCountedSpec : ChangeSpec := { name := "fnDiceCounted", fn := fun _ => fun
  | [d1, d2] => { results := [.lit (.bool true)], args := [d1, d2] }
  | _ => none }
def fnDiceCountedRow : OpenClaim := { program := "ytnoejflancomaaa", sum := "7b7d81c254b301f06b180ea0c819e1b05922d3392d41b23b71fa6fe6b780c5ed", func := "loop.example/g01306/laws.FnDiceCounted", spec := "fnDiceCounted", unfollowed := true, recurses := true, plainKeys := false, apart := false }
def FnDiceCountedSaid : Prop := fnDiceCountedRow.holds Try.pinned (OpenSpec.ofChange fnDiceCountedSpec)

/-- ITS FALSE NEIGHBOUR: 'it returns false'. Refute it at one input. -/
def fnDiceCountedWrong : ChangeSpec := { name := "fnDiceCounted", fn := fun _ => fun
  | [d1, d2] => { results := [.lit (.bool false)], args := [d1, d2] }
  | _ => none }
def FnDiceCountedWrongFalsely : Prop := fnDiceCountedRow.holds Try.pinned (OpenSpec.ofChange fnDiceCountedWrong)

/-- 'laws.FnExactPartAt': WHATEVER THE INPUT: true; the input reads as it did. -/
def fnExactPartAtSpec : ChangeSpec := { name := "fnExactPartAt", fn := fun _ => fun
  | [d1, d2, d3, d4] => { results := [.lit (.bool true)], args := [d1, d2, d3, d4] }
  | _ => none }
def fnExactPartAtRow : OpenClaim := { program := "ytnoejflancomaaa", sum := "7b7d81c254b301f06b180ea0c819e1b05922d3392d41b23b71fa6fe6b780c5ed", func := "loop.example/g01306/laws.FnExactPartAt", spec := "fnExactPartAt", unfollowed := true, recurses := true, plainKeys := false, apart := false }
def FnExactPartAtSaid : Prop := fnExactPartAtRow.holds Try.pinned (OpenSpec.ofChange fnExactPartAtSpec)

/-- ITS FALSE NEIGHBOUR: 'it returns false'. Refute it at one input. -/
def fnExactPartAtWrong : ChangeSpec := { name := "fnExactPartAt", fn := fun _ => fun
  | [d1, d2, d3, d4] => { results := [.lit (.bool false)], args := [d1, d2, d3, d4] }
  | _ => none }
def FnExactPartAtWrongFalsely : Prop := fnExactPartAtRow.holds Try.pinned (OpenSpec.ofChange fnExactPartAtWrong)

/-- 'laws.FnExactPartDone': WHATEVER THE INPUT: true; the input reads as it did. -/
def fnExactPartDoneSpec : ChangeSpec := { name := "fnExactPartDone", fn := fun _ => fun
  | [d1, d2, d3] => { results := [.lit (.bool true)], args := [d1, d2, d3] }
  | _ => none }
def fnExactPartDoneRow : OpenClaim := { program := "ytnoejflancomaaa", sum := "7b7d81c254b301f06b180ea0c819e1b05922d3392d41b23b71fa6fe6b780c5ed", func := "loop.example/g01306/laws.FnExactPartDone", spec := "fnExactPartDone", unfollowed := true, recurses := true, plainKeys := false, apart := false }
def FnExactPartDoneSaid : Prop := fnExactPartDoneRow.holds Try.pinned (OpenSpec.ofChange fnExactPartDoneSpec)

/-- ITS FALSE NEIGHBOUR: 'it returns false'. Refute it at one input. -/
def fnExactPartDoneWrong : ChangeSpec := { name := "fnExactPartDone", fn := fun _ => fun
  | [d1, d2, d3] => { results := [.lit (.bool false)], args := [d1, d2, d3] }
  | _ => none }
def FnExactPartDoneWrongFalsely : Prop := fnExactPartDoneRow.holds Try.pinned (OpenSpec.ofChange fnExactPartDoneWrong)

/- THE SECOND FORM. 'bulk': how many values and letters a reading holds, each counted each time it is reached (what is shared counts as often as it is met; a slice's spare places count too). A statement '..UptoSaid' is the law's where the arguments, and the package variables that the reading takes, are together of bulk at most 1048576: NARROWER than '..Said'. Prove '..Said' where nothing that the law and all that it calls make is longer than what came in: it says more and counts as full. Else prove '..UptoSaid'. A law counts once. -/
mutual
def uptoBulk {H : Type} : DataW H → Nat
  | .lit (.string bytes) => bytes.length + 1
  | .lit _ => 1
  | .nil => 1
  | .ptr d => uptoBulk d + 1
  | .slice elems spare => uptoBulkAll elems + uptoBulkAll spare + 1
  | .agg parts => uptoBulkAll parts + 1
  | .iface _ d => uptoBulk d + 1
  | .map entries => uptoBulkEntries entries + 1
  | .held _ => 1
def uptoBulkAll {H : Type} : List (DataW H) → Nat
  | [] => 0
  | d :: r => uptoBulk d + uptoBulkAll r
def uptoBulkEntries {H : Type} : List (Lit × DataW H) → Nat
  | [] => 0
  | x :: r => uptoBulkEntry x + uptoBulkEntries r
def uptoBulkEntry {H : Type} : Lit × DataW H → Nat
  | (.string bytes, d) => bytes.length + uptoBulk d + 1
  | (_, d) => uptoBulk d + 1
 end
def uptoSmall : (H : Type) → List (DataW H) → Bool := fun _ ds => decide (uptoBulkAll ds ≤ 1048576)
def OpenSpec.upto (s : _root_.Go.ChangeSpec) : _root_.Go.OpenSpec := { _root_.Go.OpenSpec.ofChange s with cond := some uptoSmall }

/-- 'laws.FnExactFirstDesk', WHERE WHAT IT READS IS OF BULK AT MOST 1048576: true; the input reads as it did. -/
def fnExactFirstDeskUptoRow : OpenClaim := { program := "ytnoejflancomaaa", sum := "7b7d81c254b301f06b180ea0c819e1b05922d3392d41b23b71fa6fe6b780c5ed", func := "loop.example/g01306/laws.FnExactFirstDesk", spec := "fnExactFirstDesk", plainKeys := false, apart := false, narrowed := true }
def FnExactFirstDeskUptoSaid : Prop := fnExactFirstDeskUptoRow.holds Try.pinned (OpenSpec.upto fnExactFirstDeskSpec)

/-- 'laws.FnExactIsDesk', WHERE WHAT IT READS IS OF BULK AT MOST 1048576: true; the input reads as it did. -/
def fnExactIsDeskUptoRow : OpenClaim := { program := "ytnoejflancomaaa", sum := "7b7d81c254b301f06b180ea0c819e1b05922d3392d41b23b71fa6fe6b780c5ed", func := "loop.example/g01306/laws.FnExactIsDesk", spec := "fnExactIsDesk", unfollowed := true, recurses := true, plainKeys := false, apart := false, narrowed := true }
def FnExactIsDeskUptoSaid : Prop := fnExactIsDeskUptoRow.holds Try.pinned (OpenSpec.upto fnExactIsDeskSpec)

/-- 'laws.FnExactPairChoice', WHERE WHAT IT READS IS OF BULK AT MOST 1048576: true; the input reads as it did. -/
def fnExactPairChoiceUptoRow : OpenClaim := { program := "ytnoejflancomaaa", sum := "7b7d81c254b301f06b180ea0c819e1b05922d3392d41b23b71fa6fe6b780c5ed", func := "loop.example/g01306/laws.FnExactPairChoice", spec := "fnExactPairChoice", unfollowed := true, recurses := true, plainKeys := false, apart := false, narrowed := true }
def FnExactPairChoiceUptoSaid : Prop := fnExactPairChoiceUptoRow.holds Try.pinned (OpenSpec.upto fnExactPairChoiceSpec)

/-- 'laws.FnExactPairByRule', WHERE WHAT IT READS IS OF BULK AT MOST 1048576: true; the input reads as it did. -/
def fnExactPairByRuleUptoRow : OpenClaim := { program := "ytnoejflancomaaa", sum := "7b7d81c254b301f06b180ea0c819e1b05922d3392d41b23b71fa6fe6b780c5ed", func := "loop.example/g01306/laws.FnExactPairByRule", spec := "fnExactPairByRule", unfollowed := true, recurses := true, plainKeys := false, apart := false, narrowed := true }
def FnExactPairByRuleUptoSaid : Prop := fnExactPairByRuleUptoRow.holds Try.pinned (OpenSpec.upto fnExactPairByRuleSpec)

/-- 'laws.FnExactPairGreatest', WHERE WHAT IT READS IS OF BULK AT MOST 1048576: true; the input reads as it did. -/
def fnExactPairGreatestUptoRow : OpenClaim := { program := "ytnoejflancomaaa", sum := "7b7d81c254b301f06b180ea0c819e1b05922d3392d41b23b71fa6fe6b780c5ed", func := "loop.example/g01306/laws.FnExactPairGreatest", spec := "fnExactPairGreatest", unfollowed := true, recurses := true, plainKeys := false, apart := false, narrowed := true }
def FnExactPairGreatestUptoSaid : Prop := fnExactPairGreatestUptoRow.holds Try.pinned (OpenSpec.upto fnExactPairGreatestSpec)

/-- 'laws.FnExactPairMean', WHERE WHAT IT READS IS OF BULK AT MOST 1048576: true; the input reads as it did. -/
def fnExactPairMeanUptoRow : OpenClaim := { program := "ytnoejflancomaaa", sum := "7b7d81c254b301f06b180ea0c819e1b05922d3392d41b23b71fa6fe6b780c5ed", func := "loop.example/g01306/laws.FnExactPairMean", spec := "fnExactPairMean", unfollowed := true, recurses := true, plainKeys := false, apart := false, narrowed := true }
def FnExactPairMeanUptoSaid : Prop := fnExactPairMeanUptoRow.holds Try.pinned (OpenSpec.upto fnExactPairMeanSpec)

/-- 'laws.FnExactCountGamesOver', WHERE WHAT IT READS IS OF BULK AT MOST 1048576: true; the input reads as it did. -/
def fnExactCountGamesOverUptoRow : OpenClaim := { program := "ytnoejflancomaaa", sum := "7b7d81c254b301f06b180ea0c819e1b05922d3392d41b23b71fa6fe6b780c5ed", func := "loop.example/g01306/laws.FnExactCountGamesOver", spec := "fnExactCountGamesOver", unfollowed := true, recurses := true, plainKeys := false, apart := false, narrowed := true }
def FnExactCountGamesOverUptoSaid : Prop := fnExactCountGamesOverUptoRow.holds Try.pinned (OpenSpec.upto fnExactCountGamesOverSpec)

/-- 'laws.FnExactPairMatters', WHERE WHAT IT READS IS OF BULK AT MOST 1048576: true; the input reads as it did. -/
def fnExactPairMattersUptoRow : OpenClaim := { program := "ytnoejflancomaaa", sum := "7b7d81c254b301f06b180ea0c819e1b05922d3392d41b23b71fa6fe6b780c5ed", func := "loop.example/g01306/laws.FnExactPairMatters", spec := "fnExactPairMatters", unfollowed := true, recurses := true, plainKeys := false, apart := false, narrowed := true }
def FnExactPairMattersUptoSaid : Prop := fnExactPairMattersUptoRow.holds Try.pinned (OpenSpec.upto fnExactPairMattersSpec)

/-- 'laws.FnExactPairThrowsUsed', WHERE WHAT IT READS IS OF BULK AT MOST 1048576: true; the input reads as it did. -/
def fnExactPairThrowsUsedUptoRow : OpenClaim := { program := "ytnoejflancomaaa", sum := "7b7d81c254b301f06b180ea0c819e1b05922d3392d41b23b71fa6fe6b780c5ed", func := "loop.example/g01306/laws.FnExactPairThrowsUsed", spec := "fnExactPairThrowsUsed", unfollowed := true, recurses := true, plainKeys := false, apart := false, narrowed := true }
def FnExactPairThrowsUsedUptoSaid : Prop := fnExactPairThrowsUsedUptoRow.holds Try.pinned (OpenSpec.upto fnExactPairThrowsUsedSpec)

/-- 'laws.FnDiceCounted', WHERE WHAT IT READS IS OF BULK AT MOST 1048576: true; the input reads as it did. -/
def fnDiceCountedUptoRow : OpenClaim := { program := "ytnoejflancomaaa", sum := "7b7d81c254b301f06b180ea0c819e1b05922d3392d41b23b71fa6fe6b780c5ed", func := "loop.example/g01306/laws.FnDiceCounted", spec := "fnDiceCounted", unfollowed := true, recurses := true, plainKeys := false, apart := false, narrowed := true }
def FnDiceCountedUptoSaid : Prop := fnDiceCountedUptoRow.holds Try.pinned (OpenSpec.upto fnDiceCountedSpec)

/-- 'laws.FnExactPartAt', WHERE WHAT IT READS IS OF BULK AT MOST 1048576: true; the input reads as it did. -/
def fnExactPartAtUptoRow : OpenClaim := { program := "ytnoejflancomaaa", sum := "7b7d81c254b301f06b180ea0c819e1b05922d3392d41b23b71fa6fe6b780c5ed", func := "loop.example/g01306/laws.FnExactPartAt", spec := "fnExactPartAt", unfollowed := true, recurses := true, plainKeys := false, apart := false, narrowed := true }
def FnExactPartAtUptoSaid : Prop := fnExactPartAtUptoRow.holds Try.pinned (OpenSpec.upto fnExactPartAtSpec)

/-- 'laws.FnExactPartDone', WHERE WHAT IT READS IS OF BULK AT MOST 1048576: true; the input reads as it did. -/
def fnExactPartDoneUptoRow : OpenClaim := { program := "ytnoejflancomaaa", sum := "7b7d81c254b301f06b180ea0c819e1b05922d3392d41b23b71fa6fe6b780c5ed", func := "loop.example/g01306/laws.FnExactPartDone", spec := "fnExactPartDone", unfollowed := true, recurses := true, plainKeys := false, apart := false, narrowed := true }
def FnExactPartDoneUptoSaid : Prop := fnExactPartDoneUptoRow.holds Try.pinned (OpenSpec.upto fnExactPartDoneSpec)

end Rows
end Go.Proofs.Ytnoejflancomaaa
