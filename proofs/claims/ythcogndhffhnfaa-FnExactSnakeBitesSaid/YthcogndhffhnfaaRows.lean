/-
  No cell of these rows narrows 'for every input' (looked for: loops, veiled, ifaces, maps, wideKeys, modest, calm, conditions, laid).
  DERIVED. THE GIVEN ROWS OF THIS SEAT. 12 by the template 'for every input the law returns true; each argument reads behind the call as it read before'; 0 by the template 'total and deterministic' (their statements: YthcogndhffhnfaaTotals.lean).
  GIVEN WITH THE SEED: the statements are not yours to turn. If you find one false, say at which input.
  Laid BY PROGRAM, IN A SANDBOX (cutbox-rows.mjs): the forced cells as the released guide's own fill.sh prints them over the translation a5539fdc2c935a2a… (all of the seat's roots in one cut). By AI agents, Wed Nov 11 2026. No macro, syntax, notation, axiom, sorry.
-/
import Derived.Test.YthcogndhffhnfaaChecked
import GoSem.Claim
import GoSem.ClaimJoined
import GoSem.ClaimMapViews
import Derived.JoinedTies
import Derived.KernelRfl
namespace Go.Proofs.Ythcogndhffhnfaa
/- THE CELL 'sum', in the pinned program and in every row, IS THE sha256 OF THE DUMP (.gsa) THAT YthcogndhffhnfaaProg.lean LOADS. Nothing in Lean hashes anything: it is a label: what it is worth is what the hold of that sum in a sandbox is worth. -/
noncomputable def Try.pinned : Pinned := { name := "ythcogndhffhnfaa", sum := "a5539fdc2c935a2aff8a2e16eb8d54807231c0c182a824a10e90403fb9037535", checked := Try.checked }
namespace Rows
def none {H : Type} : Left H := { results := [], args := [] }

/-- 'laws.FnExactPartMet': WHATEVER THE INPUT: true; the input reads as it did. -/
def fnExactPartMetSpec : ChangeSpec := { name := "fnExactPartMet", fn := fun _ => fun
  | [d1, d2, d3, d4] => { results := [.lit (.bool true)], args := [d1, d2, d3, d4] }
  | _ => none }
def fnExactPartMetRow : OpenClaim := { program := "ythcogndhffhnfaa", sum := "a5539fdc2c935a2aff8a2e16eb8d54807231c0c182a824a10e90403fb9037535", func := "loop.example/g01306/laws.FnExactPartMet", spec := "fnExactPartMet", unfollowed := true, recurses := true, plainKeys := false, apart := false }
def FnExactPartMetSaid : Prop := fnExactPartMetRow.holds Try.pinned (OpenSpec.ofChange fnExactPartMetSpec)

/-- ITS FALSE NEIGHBOUR: 'it returns false'. Refute it at one input. -/
def fnExactPartMetWrong : ChangeSpec := { name := "fnExactPartMet", fn := fun _ => fun
  | [d1, d2, d3, d4] => { results := [.lit (.bool false)], args := [d1, d2, d3, d4] }
  | _ => none }
def FnExactPartMetWrongFalsely : Prop := fnExactPartMetRow.holds Try.pinned (OpenSpec.ofChange fnExactPartMetWrong)

/-- 'laws.FnExactPartDoneAt': WHATEVER THE INPUT: true; the input reads as it did. -/
def fnExactPartDoneAtSpec : ChangeSpec := { name := "fnExactPartDoneAt", fn := fun _ => fun
  | [d1, d2, d3] => { results := [.lit (.bool true)], args := [d1, d2, d3] }
  | _ => none }
def fnExactPartDoneAtRow : OpenClaim := { program := "ythcogndhffhnfaa", sum := "a5539fdc2c935a2aff8a2e16eb8d54807231c0c182a824a10e90403fb9037535", func := "loop.example/g01306/laws.FnExactPartDoneAt", spec := "fnExactPartDoneAt", unfollowed := true, recurses := true, plainKeys := false, apart := false }
def FnExactPartDoneAtSaid : Prop := fnExactPartDoneAtRow.holds Try.pinned (OpenSpec.ofChange fnExactPartDoneAtSpec)

/-- ITS FALSE NEIGHBOUR: 'it returns false'. Refute it at one input. -/
def fnExactPartDoneAtWrong : ChangeSpec := { name := "fnExactPartDoneAt", fn := fun _ => fun
  | [d1, d2, d3] => { results := [.lit (.bool false)], args := [d1, d2, d3] }
  | _ => none }
def FnExactPartDoneAtWrongFalsely : Prop := fnExactPartDoneAtRow.holds Try.pinned (OpenSpec.ofChange fnExactPartDoneAtWrong)

/-- 'laws.FnExactAverageAfter': WHATEVER THE INPUT: true; the input reads as it did. -/
def fnExactAverageAfterSpec : ChangeSpec := { name := "fnExactAverageAfter", fn := fun _ => fun
  | [d1, d2, d3] => { results := [.lit (.bool true)], args := [d1, d2, d3] }
  | _ => none }
def fnExactAverageAfterRow : OpenClaim := { program := "ythcogndhffhnfaa", sum := "a5539fdc2c935a2aff8a2e16eb8d54807231c0c182a824a10e90403fb9037535", func := "loop.example/g01306/laws.FnExactAverageAfter", spec := "fnExactAverageAfter", unfollowed := true, recurses := true, plainKeys := false, apart := false }
def FnExactAverageAfterSaid : Prop := fnExactAverageAfterRow.holds Try.pinned (OpenSpec.ofChange fnExactAverageAfterSpec)

/-- ITS FALSE NEIGHBOUR: 'it returns false'. Refute it at one input. -/
def fnExactAverageAfterWrong : ChangeSpec := { name := "fnExactAverageAfter", fn := fun _ => fun
  | [d1, d2, d3] => { results := [.lit (.bool false)], args := [d1, d2, d3] }
  | _ => none }
def FnExactAverageAfterWrongFalsely : Prop := fnExactAverageAfterRow.holds Try.pinned (OpenSpec.ofChange fnExactAverageAfterWrong)

/-- 'laws.FnExactSureSquares': WHATEVER THE INPUT: true; the input reads as it did. -/
def fnExactSureSquaresSpec : ChangeSpec := { name := "fnExactSureSquares", fn := fun _ => fun
  | [d1, d2] => { results := [.lit (.bool true)], args := [d1, d2] }
  | _ => none }
def fnExactSureSquaresRow : OpenClaim := { program := "ythcogndhffhnfaa", sum := "a5539fdc2c935a2aff8a2e16eb8d54807231c0c182a824a10e90403fb9037535", func := "loop.example/g01306/laws.FnExactSureSquares", spec := "fnExactSureSquares", unfollowed := true, recurses := true, plainKeys := false, apart := false }
def FnExactSureSquaresSaid : Prop := fnExactSureSquaresRow.holds Try.pinned (OpenSpec.ofChange fnExactSureSquaresSpec)

/-- ITS FALSE NEIGHBOUR: 'it returns false'. Refute it at one input. -/
def fnExactSureSquaresWrong : ChangeSpec := { name := "fnExactSureSquares", fn := fun _ => fun
  | [d1, d2] => { results := [.lit (.bool false)], args := [d1, d2] }
  | _ => none }
def FnExactSureSquaresWrongFalsely : Prop := fnExactSureSquaresRow.holds Try.pinned (OpenSpec.ofChange fnExactSureSquaresWrong)

/-- 'laws.FnExactPlayPair': WHATEVER THE INPUT: true; the input reads as it did. -/
def fnExactPlayPairSpec : ChangeSpec := { name := "fnExactPlayPair", fn := fun _ => fun
  | [d1, d2, d3, d4, d5] => { results := [.lit (.bool true)], args := [d1, d2, d3, d4, d5] }
  | _ => none }
def fnExactPlayPairRow : OpenClaim := { program := "ythcogndhffhnfaa", sum := "a5539fdc2c935a2aff8a2e16eb8d54807231c0c182a824a10e90403fb9037535", func := "loop.example/g01306/laws.FnExactPlayPair", spec := "fnExactPlayPair", unfollowed := true, recurses := true, plainKeys := false, apart := false }
def FnExactPlayPairSaid : Prop := fnExactPlayPairRow.holds Try.pinned (OpenSpec.ofChange fnExactPlayPairSpec)

/-- ITS FALSE NEIGHBOUR: 'it returns false'. Refute it at one input. -/
def fnExactPlayPairWrong : ChangeSpec := { name := "fnExactPlayPair", fn := fun _ => fun
  | [d1, d2, d3, d4, d5] => { results := [.lit (.bool false)], args := [d1, d2, d3, d4, d5] }
  | _ => none }
def FnExactPlayPairWrongFalsely : Prop := fnExactPlayPairRow.holds Try.pinned (OpenSpec.ofChange fnExactPlayPairWrong)

/-- 'laws.FnExactSnakeBites': WHATEVER THE INPUT: true; the input reads as it did. -/
def fnExactSnakeBitesSpec : ChangeSpec := { name := "fnExactSnakeBites", fn := fun _ => fun
  | [d1, d2, d3] => { results := [.lit (.bool true)], args := [d1, d2, d3] }
  | _ => none }
def fnExactSnakeBitesRow : OpenClaim := { program := "ythcogndhffhnfaa", sum := "a5539fdc2c935a2aff8a2e16eb8d54807231c0c182a824a10e90403fb9037535", func := "loop.example/g01306/laws.FnExactSnakeBites", spec := "fnExactSnakeBites", unfollowed := true, recurses := true, plainKeys := false, apart := false }
def FnExactSnakeBitesSaid : Prop := fnExactSnakeBitesRow.holds Try.pinned (OpenSpec.ofChange fnExactSnakeBitesSpec)

/-- ITS FALSE NEIGHBOUR: 'it returns false'. Refute it at one input. -/
def fnExactSnakeBitesWrong : ChangeSpec := { name := "fnExactSnakeBites", fn := fun _ => fun
  | [d1, d2, d3] => { results := [.lit (.bool false)], args := [d1, d2, d3] }
  | _ => none }
def FnExactSnakeBitesWrongFalsely : Prop := fnExactSnakeBitesRow.holds Try.pinned (OpenSpec.ofChange fnExactSnakeBitesWrong)

/-- 'laws.FnExactPartWon': WHATEVER THE INPUT: true; the input reads as it did. -/
def fnExactPartWonSpec : ChangeSpec := { name := "fnExactPartWon", fn := fun _ => fun
  | [d1, d2, d3] => { results := [.lit (.bool true)], args := [d1, d2, d3] }
  | _ => none }
def fnExactPartWonRow : OpenClaim := { program := "ythcogndhffhnfaa", sum := "a5539fdc2c935a2aff8a2e16eb8d54807231c0c182a824a10e90403fb9037535", func := "loop.example/g01306/laws.FnExactPartWon", spec := "fnExactPartWon", unfollowed := true, recurses := true, plainKeys := false, apart := false }
def FnExactPartWonSaid : Prop := fnExactPartWonRow.holds Try.pinned (OpenSpec.ofChange fnExactPartWonSpec)

/-- ITS FALSE NEIGHBOUR: 'it returns false'. Refute it at one input. -/
def fnExactPartWonWrong : ChangeSpec := { name := "fnExactPartWon", fn := fun _ => fun
  | [d1, d2, d3] => { results := [.lit (.bool false)], args := [d1, d2, d3] }
  | _ => none }
def FnExactPartWonWrongFalsely : Prop := fnExactPartWonRow.holds Try.pinned (OpenSpec.ofChange fnExactPartWonWrong)

/-- 'laws.FnTokensGo': WHATEVER THE INPUT: true; the input reads as it did. -/
def fnTokensGoSpec : ChangeSpec := { name := "fnTokensGo", fn := fun _ => fun
  | [d1, d2] => { results := [.lit (.bool true)], args := [d1, d2] }
  | _ => none }
def fnTokensGoRow : OpenClaim := { program := "ythcogndhffhnfaa", sum := "a5539fdc2c935a2aff8a2e16eb8d54807231c0c182a824a10e90403fb9037535", func := "loop.example/g01306/laws.FnTokensGo", spec := "fnTokensGo", unfollowed := true, recurses := true, plainKeys := false, apart := false }
def FnTokensGoSaid : Prop := fnTokensGoRow.holds Try.pinned (OpenSpec.ofChange fnTokensGoSpec)

/-- ITS FALSE NEIGHBOUR: 'it returns false'. Refute it at one input. -/
def fnTokensGoWrong : ChangeSpec := { name := "fnTokensGo", fn := fun _ => fun
  | [d1, d2] => { results := [.lit (.bool false)], args := [d1, d2] }
  | _ => none }
def FnTokensGoWrongFalsely : Prop := fnTokensGoRow.holds Try.pinned (OpenSpec.ofChange fnTokensGoWrong)

/-- 'laws.FnPartsMet': WHATEVER THE INPUT: true; the input reads as it did. -/
def fnPartsMetSpec : ChangeSpec := { name := "fnPartsMet", fn := fun _ => fun
  | [d1, d2] => { results := [.lit (.bool true)], args := [d1, d2] }
  | _ => none }
def fnPartsMetRow : OpenClaim := { program := "ythcogndhffhnfaa", sum := "a5539fdc2c935a2aff8a2e16eb8d54807231c0c182a824a10e90403fb9037535", func := "loop.example/g01306/laws.FnPartsMet", spec := "fnPartsMet", unfollowed := true, recurses := true, plainKeys := false, apart := false }
def FnPartsMetSaid : Prop := fnPartsMetRow.holds Try.pinned (OpenSpec.ofChange fnPartsMetSpec)

/-- ITS FALSE NEIGHBOUR: 'it returns false'. Refute it at one input. -/
def fnPartsMetWrong : ChangeSpec := { name := "fnPartsMet", fn := fun _ => fun
  | [d1, d2] => { results := [.lit (.bool false)], args := [d1, d2] }
  | _ => none }
def FnPartsMetWrongFalsely : Prop := fnPartsMetRow.holds Try.pinned (OpenSpec.ofChange fnPartsMetWrong)

/-- 'laws.FnPairsBest': WHATEVER THE INPUT: true; the input reads as it did. -/
def fnPairsBestSpec : ChangeSpec := { name := "fnPairsBest", fn := fun _ => fun
  | [d1, d2] => { results := [.lit (.bool true)], args := [d1, d2] }
  | _ => none }
def fnPairsBestRow : OpenClaim := { program := "ythcogndhffhnfaa", sum := "a5539fdc2c935a2aff8a2e16eb8d54807231c0c182a824a10e90403fb9037535", func := "loop.example/g01306/laws.FnPairsBest", spec := "fnPairsBest", unfollowed := true, recurses := true, plainKeys := false, apart := false }
def FnPairsBestSaid : Prop := fnPairsBestRow.holds Try.pinned (OpenSpec.ofChange fnPairsBestSpec)

/-- ITS FALSE NEIGHBOUR: 'it returns false'. Refute it at one input. -/
def fnPairsBestWrong : ChangeSpec := { name := "fnPairsBest", fn := fun _ => fun
  | [d1, d2] => { results := [.lit (.bool false)], args := [d1, d2] }
  | _ => none }
def FnPairsBestWrongFalsely : Prop := fnPairsBestRow.holds Try.pinned (OpenSpec.ofChange fnPairsBestWrong)

/-- 'laws.FnDiceSummed': WHATEVER THE INPUT: true; the input reads as it did. -/
def fnDiceSummedSpec : ChangeSpec := { name := "fnDiceSummed", fn := fun _ => fun
  | [d1, d2] => { results := [.lit (.bool true)], args := [d1, d2] }
  | _ => none }
def fnDiceSummedRow : OpenClaim := { program := "ythcogndhffhnfaa", sum := "a5539fdc2c935a2aff8a2e16eb8d54807231c0c182a824a10e90403fb9037535", func := "loop.example/g01306/laws.FnDiceSummed", spec := "fnDiceSummed", recurses := true, plainKeys := false, apart := false }
def FnDiceSummedSaid : Prop := fnDiceSummedRow.holds Try.pinned (OpenSpec.ofChange fnDiceSummedSpec)

/-- ITS FALSE NEIGHBOUR: 'it returns false'. Refute it at one input. -/
def fnDiceSummedWrong : ChangeSpec := { name := "fnDiceSummed", fn := fun _ => fun
  | [d1, d2] => { results := [.lit (.bool false)], args := [d1, d2] }
  | _ => none }
def FnDiceSummedWrongFalsely : Prop := fnDiceSummedRow.holds Try.pinned (OpenSpec.ofChange fnDiceSummedWrong)

/-- 'laws.FnExactMeanThrows': WHATEVER THE INPUT: true; the input reads as it did. -/
def fnExactMeanThrowsSpec : ChangeSpec := { name := "fnExactMeanThrows", fn := fun _ => fun
  | [d1, d2] => { results := [.lit (.bool true)], args := [d1, d2] }
  | _ => none }
def fnExactMeanThrowsRow : OpenClaim := { program := "ythcogndhffhnfaa", sum := "a5539fdc2c935a2aff8a2e16eb8d54807231c0c182a824a10e90403fb9037535", func := "loop.example/g01306/laws.FnExactMeanThrows", spec := "fnExactMeanThrows", unfollowed := true, recurses := true, plainKeys := false, apart := false }
def FnExactMeanThrowsSaid : Prop := fnExactMeanThrowsRow.holds Try.pinned (OpenSpec.ofChange fnExactMeanThrowsSpec)

/-- ITS FALSE NEIGHBOUR: 'it returns false'. Refute it at one input. -/
def fnExactMeanThrowsWrong : ChangeSpec := { name := "fnExactMeanThrows", fn := fun _ => fun
  | [d1, d2] => { results := [.lit (.bool false)], args := [d1, d2] }
  | _ => none }
def FnExactMeanThrowsWrongFalsely : Prop := fnExactMeanThrowsRow.holds Try.pinned (OpenSpec.ofChange fnExactMeanThrowsWrong)

/- THE SECOND FORM. 'bulk': how many values and letters a reading holds, each counted each time it is reached (what is shared counts as often as it is met; a slice's spare places count too). A statement '..UptoSaid' is the law's where the arguments, and the package variables that the reading takes, are together of bulk at most 1048576: NARROWER than '..Said'. Prove '..Said' where nothing that the law and all that it calls make is longer than what came in: it says more and counts as full. Else prove '..UptoSaid'. A law counts once. -/
mutual
def uptoBulk {H : Type} : DataW H → Nat
  | .lit (.string bytes) => bytes.length + 1
  | .lit _ => 1
  | .nil => 1
  | .ptr d => uptoBulk d + 1
  | .slice elems spare => uptoBulkAll elems + uptoBulkAll spare + 1
  | .agg parts => uptoBulkAll parts + 1
  | .iface _ d => uptoBulk d + 1
  | .map entries => uptoBulkEntries entries + 1
  | .held _ => 1
def uptoBulkAll {H : Type} : List (DataW H) → Nat
  | [] => 0
  | d :: r => uptoBulk d + uptoBulkAll r
def uptoBulkEntries {H : Type} : List (Lit × DataW H) → Nat
  | [] => 0
  | x :: r => uptoBulkEntry x + uptoBulkEntries r
def uptoBulkEntry {H : Type} : Lit × DataW H → Nat
  | (.string bytes, d) => bytes.length + uptoBulk d + 1
  | (_, d) => uptoBulk d + 1
 end
def uptoSmall : (H : Type) → List (DataW H) → Bool := fun _ ds => decide (uptoBulkAll ds ≤ 1048576)
def OpenSpec.upto (s : _root_.Go.ChangeSpec) : _root_.Go.OpenSpec := { _root_.Go.OpenSpec.ofChange s with cond := some uptoSmall }

/-- 'laws.FnExactPartMet', WHERE WHAT IT READS IS OF BULK AT MOST 1048576: true; the input reads as it did. -/
def fnExactPartMetUptoRow : OpenClaim := { program := "ythcogndhffhnfaa", sum := "a5539fdc2c935a2aff8a2e16eb8d54807231c0c182a824a10e90403fb9037535", func := "loop.example/g01306/laws.FnExactPartMet", spec := "fnExactPartMet", unfollowed := true, recurses := true, plainKeys := false, apart := false, narrowed := true }
def FnExactPartMetUptoSaid : Prop := fnExactPartMetUptoRow.holds Try.pinned (OpenSpec.upto fnExactPartMetSpec)

/-- 'laws.FnExactPartDoneAt', WHERE WHAT IT READS IS OF BULK AT MOST 1048576: true; the input reads as it did. -/
def fnExactPartDoneAtUptoRow : OpenClaim := { program := "ythcogndhffhnfaa", sum := "a5539fdc2c935a2aff8a2e16eb8d54807231c0c182a824a10e90403fb9037535", func := "loop.example/g01306/laws.FnExactPartDoneAt", spec := "fnExactPartDoneAt", unfollowed := true, recurses := true, plainKeys := false, apart := false, narrowed := true }
def FnExactPartDoneAtUptoSaid : Prop := fnExactPartDoneAtUptoRow.holds Try.pinned (OpenSpec.upto fnExactPartDoneAtSpec)

/-- 'laws.FnExactAverageAfter', WHERE WHAT IT READS IS OF BULK AT MOST 1048576: true; the input reads as it did. -/
def fnExactAverageAfterUptoRow : OpenClaim := { program := "ythcogndhffhnfaa", sum := "a5539fdc2c935a2aff8a2e16eb8d54807231c0c182a824a10e90403fb9037535", func := "loop.example/g01306/laws.FnExactAverageAfter", spec := "fnExactAverageAfter", unfollowed := true, recurses := true, plainKeys := false, apart := false, narrowed := true }
def FnExactAverageAfterUptoSaid : Prop := fnExactAverageAfterUptoRow.holds Try.pinned (OpenSpec.upto fnExactAverageAfterSpec)

/-- 'laws.FnExactSureSquares', WHERE WHAT IT READS IS OF BULK AT MOST 1048576: true; the input reads as it did. -/
def fnExactSureSquaresUptoRow : OpenClaim := { program := "ythcogndhffhnfaa", sum := "a5539fdc2c935a2aff8a2e16eb8d54807231c0c182a824a10e90403fb9037535", func := "loop.example/g01306/laws.FnExactSureSquares", spec := "fnExactSureSquares", unfollowed := true, recurses := true, plainKeys := false, apart := false, narrowed := true }
def FnExactSureSquaresUptoSaid : Prop := fnExactSureSquaresUptoRow.holds Try.pinned (OpenSpec.upto fnExactSureSquaresSpec)

/-- 'laws.FnExactPlayPair', WHERE WHAT IT READS IS OF BULK AT MOST 1048576: true; the input reads as it did. -/
def fnExactPlayPairUptoRow : OpenClaim := { program := "ythcogndhffhnfaa", sum := "a5539fdc2c935a2aff8a2e16eb8d54807231c0c182a824a10e90403fb9037535", func := "loop.example/g01306/laws.FnExactPlayPair", spec := "fnExactPlayPair", unfollowed := true, recurses := true, plainKeys := false, apart := false, narrowed := true }
def FnExactPlayPairUptoSaid : Prop := fnExactPlayPairUptoRow.holds Try.pinned (OpenSpec.upto fnExactPlayPairSpec)

/-- 'laws.FnExactSnakeBites', WHERE WHAT IT READS IS OF BULK AT MOST 1048576: true; the input reads as it did. -/
def fnExactSnakeBitesUptoRow : OpenClaim := { program := "ythcogndhffhnfaa", sum := "a5539fdc2c935a2aff8a2e16eb8d54807231c0c182a824a10e90403fb9037535", func := "loop.example/g01306/laws.FnExactSnakeBites", spec := "fnExactSnakeBites", unfollowed := true, recurses := true, plainKeys := false, apart := false, narrowed := true }
def FnExactSnakeBitesUptoSaid : Prop := fnExactSnakeBitesUptoRow.holds Try.pinned (OpenSpec.upto fnExactSnakeBitesSpec)

/-- 'laws.FnExactPartWon', WHERE WHAT IT READS IS OF BULK AT MOST 1048576: true; the input reads as it did. -/
def fnExactPartWonUptoRow : OpenClaim := { program := "ythcogndhffhnfaa", sum := "a5539fdc2c935a2aff8a2e16eb8d54807231c0c182a824a10e90403fb9037535", func := "loop.example/g01306/laws.FnExactPartWon", spec := "fnExactPartWon", unfollowed := true, recurses := true, plainKeys := false, apart := false, narrowed := true }
def FnExactPartWonUptoSaid : Prop := fnExactPartWonUptoRow.holds Try.pinned (OpenSpec.upto fnExactPartWonSpec)

/-- 'laws.FnTokensGo', WHERE WHAT IT READS IS OF BULK AT MOST 1048576: true; the input reads as it did. -/
def fnTokensGoUptoRow : OpenClaim := { program := "ythcogndhffhnfaa", sum := "a5539fdc2c935a2aff8a2e16eb8d54807231c0c182a824a10e90403fb9037535", func := "loop.example/g01306/laws.FnTokensGo", spec := "fnTokensGo", unfollowed := true, recurses := true, plainKeys := false, apart := false, narrowed := true }
def FnTokensGoUptoSaid : Prop := fnTokensGoUptoRow.holds Try.pinned (OpenSpec.upto fnTokensGoSpec)

/-- 'laws.FnPartsMet', WHERE WHAT IT READS IS OF BULK AT MOST 1048576: true; the input reads as it did. -/
def fnPartsMetUptoRow : OpenClaim := { program := "ythcogndhffhnfaa", sum := "a5539fdc2c935a2aff8a2e16eb8d54807231c0c182a824a10e90403fb9037535", func := "loop.example/g01306/laws.FnPartsMet", spec := "fnPartsMet", unfollowed := true, recurses := true, plainKeys := false, apart := false, narrowed := true }
def FnPartsMetUptoSaid : Prop := fnPartsMetUptoRow.holds Try.pinned (OpenSpec.upto fnPartsMetSpec)

/-- 'laws.FnPairsBest', WHERE WHAT IT READS IS OF BULK AT MOST 1048576: true; the input reads as it did. -/
def fnPairsBestUptoRow : OpenClaim := { program := "ythcogndhffhnfaa", sum := "a5539fdc2c935a2aff8a2e16eb8d54807231c0c182a824a10e90403fb9037535", func := "loop.example/g01306/laws.FnPairsBest", spec := "fnPairsBest", unfollowed := true, recurses := true, plainKeys := false, apart := false, narrowed := true }
def FnPairsBestUptoSaid : Prop := fnPairsBestUptoRow.holds Try.pinned (OpenSpec.upto fnPairsBestSpec)

/-- 'laws.FnDiceSummed', WHERE WHAT IT READS IS OF BULK AT MOST 1048576: true; the input reads as it did. -/
def fnDiceSummedUptoRow : OpenClaim := { program := "ythcogndhffhnfaa", sum := "a5539fdc2c935a2aff8a2e16eb8d54807231c0c182a824a10e90403fb9037535", func := "loop.example/g01306/laws.FnDiceSummed", spec := "fnDiceSummed", recurses := true, plainKeys := false, apart := false, narrowed := true }
def FnDiceSummedUptoSaid : Prop := fnDiceSummedUptoRow.holds Try.pinned (OpenSpec.upto fnDiceSummedSpec)

/-- 'laws.FnExactMeanThrows', WHERE WHAT IT READS IS OF BULK AT MOST 1048576: true; the input reads as it did. -/
def fnExactMeanThrowsUptoRow : OpenClaim := { program := "ythcogndhffhnfaa", sum := "a5539fdc2c935a2aff8a2e16eb8d54807231c0c182a824a10e90403fb9037535", func := "loop.example/g01306/laws.FnExactMeanThrows", spec := "fnExactMeanThrows", unfollowed := true, recurses := true, plainKeys := false, apart := false, narrowed := true }
def FnExactMeanThrowsUptoSaid : Prop := fnExactMeanThrowsUptoRow.holds Try.pinned (OpenSpec.upto fnExactMeanThrowsSpec)

end Rows
end Go.Proofs.Ythcogndhffhnfaa
