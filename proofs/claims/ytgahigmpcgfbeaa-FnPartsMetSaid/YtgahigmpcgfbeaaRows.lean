/-
  No cell of these rows narrows 'for every input' (looked for: loops, veiled, ifaces, maps, wideKeys, modest, calm, conditions, laid).
  DERIVED. THE GIVEN ROWS OF THIS SEAT. 10 by the template 'for every input the law returns true; each argument reads behind the call as it read before'; 0 by the template 'total and deterministic' (their statements: YtgahigmpcgfbeaaTotals.lean).
  GIVEN WITH THE SEED: the statements are not yours to turn. If you find one false, say at which input.
  Laid BY PROGRAM, IN A SANDBOX (cutbox-rows.mjs): the forced cells as the released guide's own fill.sh prints them over the translation 657370e75c9f0b2f… (all of the seat's roots in one cut). By AI agents, Wed Nov 11 2026. No macro, syntax, notation, axiom, sorry.
-/
import Derived.Test.YtgahigmpcgfbeaaChecked
import GoSem.Claim
import GoSem.ClaimJoined
import GoSem.ClaimMapViews
import Derived.JoinedTies
import Derived.KernelRfl
namespace Go.Proofs.Ytgahigmpcgfbeaa
/- THE CELL 'sum', in the pinned program and in every row, IS THE sha256 OF THE DUMP (.gsa) THAT YtgahigmpcgfbeaaProg.lean LOADS. Nothing in Lean hashes anything: it is a label: what it is worth is what the hold of that sum in a sandbox is worth. -/
noncomputable def Try.pinned : Pinned := { name := "ytgahigmpcgfbeaa", sum := "657370e75c9f0b2ffd2841ff7222a58682bf726b1799ce04faa591c96966e32b", checked := Try.checked }
namespace Rows
def none {H : Type} : Left H := { results := [], args := [] }

/-- 'laws.FnExactSureSquares': WHATEVER THE INPUT: true; the input reads as it did. -/
def fnExactSureSquaresSpec : ChangeSpec := { name := "fnExactSureSquares", fn := fun _ => fun
  | [d1, d2] => { results := [.lit (.bool true)], args := [d1, d2] }
  | _ => none }
def fnExactSureSquaresRow : OpenClaim := { program := "ytgahigmpcgfbeaa", sum := "657370e75c9f0b2ffd2841ff7222a58682bf726b1799ce04faa591c96966e32b", func := "loop.example/g01306/laws.FnExactSureSquares", spec := "fnExactSureSquares", unfollowed := true, recurses := true, plainKeys := false, apart := false }
def FnExactSureSquaresSaid : Prop := fnExactSureSquaresRow.holds Try.pinned (OpenSpec.ofChange fnExactSureSquaresSpec)

/-- ITS FALSE NEIGHBOUR: 'it returns false'. Refute it at one input. -/
def fnExactSureSquaresWrong : ChangeSpec := { name := "fnExactSureSquares", fn := fun _ => fun
  | [d1, d2] => { results := [.lit (.bool false)], args := [d1, d2] }
  | _ => none }
def FnExactSureSquaresWrongFalsely : Prop := fnExactSureSquaresRow.holds Try.pinned (OpenSpec.ofChange fnExactSureSquaresWrong)

/-- 'laws.FnGamesCounted': WHATEVER THE INPUT: true; the input reads as it did. -/
def fnGamesCountedSpec : ChangeSpec := { name := "fnGamesCounted", fn := fun _ => fun
  | [d1, d2] => { results := [.lit (.bool true)], args := [d1, d2] }
  | _ => none }
def fnGamesCountedRow : OpenClaim := { program := "ytgahigmpcgfbeaa", sum := "657370e75c9f0b2ffd2841ff7222a58682bf726b1799ce04faa591c96966e32b", func := "loop.example/g01306/laws.FnGamesCounted", spec := "fnGamesCounted", unfollowed := true, recurses := true, plainKeys := false, apart := false }
def FnGamesCountedSaid : Prop := fnGamesCountedRow.holds Try.pinned (OpenSpec.ofChange fnGamesCountedSpec)

/-- ITS FALSE NEIGHBOUR: 'it returns false'. Refute it at one input. -/
def fnGamesCountedWrong : ChangeSpec := { name := "fnGamesCounted", fn := fun _ => fun
  | [d1, d2] => { results := [.lit (.bool false)], args := [d1, d2] }
  | _ => none }
def FnGamesCountedWrongFalsely : Prop := fnGamesCountedRow.holds Try.pinned (OpenSpec.ofChange fnGamesCountedWrong)

/-- 'laws.FnGamesPlayed': WHATEVER THE INPUT: true; the input reads as it did. -/
def fnGamesPlayedSpec : ChangeSpec := { name := "fnGamesPlayed", fn := fun _ => fun
  | [d1, d2] => { results := [.lit (.bool true)], args := [d1, d2] }
  | _ => none }
def fnGamesPlayedRow : OpenClaim := { program := "ytgahigmpcgfbeaa", sum := "657370e75c9f0b2ffd2841ff7222a58682bf726b1799ce04faa591c96966e32b", func := "loop.example/g01306/laws.FnGamesPlayed", spec := "fnGamesPlayed", unfollowed := true, recurses := true, plainKeys := false, apart := false }
def FnGamesPlayedSaid : Prop := fnGamesPlayedRow.holds Try.pinned (OpenSpec.ofChange fnGamesPlayedSpec)

/-- ITS FALSE NEIGHBOUR: 'it returns false'. Refute it at one input. -/
def fnGamesPlayedWrong : ChangeSpec := { name := "fnGamesPlayed", fn := fun _ => fun
  | [d1, d2] => { results := [.lit (.bool false)], args := [d1, d2] }
  | _ => none }
def FnGamesPlayedWrongFalsely : Prop := fnGamesPlayedRow.holds Try.pinned (OpenSpec.ofChange fnGamesPlayedWrong)

/-- 'laws.FnExactPairThrowsUsed': WHATEVER THE INPUT: true; the input reads as it did. -/
def fnExactPairThrowsUsedSpec : ChangeSpec := { name := "fnExactPairThrowsUsed", fn := fun _ => fun
  | [d1, d2, d3, d4, d5] => { results := [.lit (.bool true)], args := [d1, d2, d3, d4, d5] }
  | _ => none }
def fnExactPairThrowsUsedRow : OpenClaim := { program := "ytgahigmpcgfbeaa", sum := "657370e75c9f0b2ffd2841ff7222a58682bf726b1799ce04faa591c96966e32b", func := "loop.example/g01306/laws.FnExactPairThrowsUsed", spec := "fnExactPairThrowsUsed", unfollowed := true, recurses := true, plainKeys := false, apart := false }
def FnExactPairThrowsUsedSaid : Prop := fnExactPairThrowsUsedRow.holds Try.pinned (OpenSpec.ofChange fnExactPairThrowsUsedSpec)

/-- ITS FALSE NEIGHBOUR: 'it returns false'. Refute it at one input. -/
def fnExactPairThrowsUsedWrong : ChangeSpec := { name := "fnExactPairThrowsUsed", fn := fun _ => fun
  | [d1, d2, d3, d4, d5] => { results := [.lit (.bool false)], args := [d1, d2, d3, d4, d5] }
  | _ => none }
def FnExactPairThrowsUsedWrongFalsely : Prop := fnExactPairThrowsUsedRow.holds Try.pinned (OpenSpec.ofChange fnExactPairThrowsUsedWrong)

/-- 'laws.FnExactPlayPair': WHATEVER THE INPUT: true; the input reads as it did. -/
def fnExactPlayPairSpec : ChangeSpec := { name := "fnExactPlayPair", fn := fun _ => fun
  | [d1, d2, d3, d4, d5] => { results := [.lit (.bool true)], args := [d1, d2, d3, d4, d5] }
  | _ => none }
def fnExactPlayPairRow : OpenClaim := { program := "ytgahigmpcgfbeaa", sum := "657370e75c9f0b2ffd2841ff7222a58682bf726b1799ce04faa591c96966e32b", func := "loop.example/g01306/laws.FnExactPlayPair", spec := "fnExactPlayPair", unfollowed := true, recurses := true, plainKeys := false, apart := false }
def FnExactPlayPairSaid : Prop := fnExactPlayPairRow.holds Try.pinned (OpenSpec.ofChange fnExactPlayPairSpec)

/-- ITS FALSE NEIGHBOUR: 'it returns false'. Refute it at one input. -/
def fnExactPlayPairWrong : ChangeSpec := { name := "fnExactPlayPair", fn := fun _ => fun
  | [d1, d2, d3, d4, d5] => { results := [.lit (.bool false)], args := [d1, d2, d3, d4, d5] }
  | _ => none }
def FnExactPlayPairWrongFalsely : Prop := fnExactPlayPairRow.holds Try.pinned (OpenSpec.ofChange fnExactPlayPairWrong)

/-- 'laws.FnDiceCounted': WHATEVER THE INPUT: true; the input reads as it did. -/
def fnDiceCountedSpec : ChangeSpec := { name := "fnDiceCounted", fn := fun _ => fun
  | [d1, d2] => { results := [.lit (.bool true)], args := [d1, d2] }
  | _ => none }
def fnDiceCountedRow : OpenClaim := { program := "ytgahigmpcgfbeaa", sum := "657370e75c9f0b2ffd2841ff7222a58682bf726b1799ce04faa591c96966e32b", func := "loop.example/g01306/laws.FnDiceCounted", spec := "fnDiceCounted", unfollowed := true, recurses := true, plainKeys := false, apart := false }
def FnDiceCountedSaid : Prop := fnDiceCountedRow.holds Try.pinned (OpenSpec.ofChange fnDiceCountedSpec)

/-- ITS FALSE NEIGHBOUR: 'it returns false'. Refute it at one input. -/
def fnDiceCountedWrong : ChangeSpec := { name := "fnDiceCounted", fn := fun _ => fun
  | [d1, d2] => { results := [.lit (.bool false)], args := [d1, d2] }
  | _ => none }
def FnDiceCountedWrongFalsely : Prop := fnDiceCountedRow.holds Try.pinned (OpenSpec.ofChange fnDiceCountedWrong)

/-- 'laws.FnPartsMet': WHATEVER THE INPUT: true; the input reads as it did. -/
def fnPartsMetSpec : ChangeSpec := { name := "fnPartsMet", fn := fun _ => fun
  | [d1, d2] => { results := [.lit (.bool true)], args := [d1, d2] }
  | _ => none }
def fnPartsMetRow : OpenClaim := { program := "ytgahigmpcgfbeaa", sum := "657370e75c9f0b2ffd2841ff7222a58682bf726b1799ce04faa591c96966e32b", func := "loop.example/g01306/laws.FnPartsMet", spec := "fnPartsMet", unfollowed := true, recurses := true, plainKeys := false, apart := false }
def FnPartsMetSaid : Prop := fnPartsMetRow.holds Try.pinned (OpenSpec.ofChange fnPartsMetSpec)

/-- ITS FALSE NEIGHBOUR: 'it returns false'. Refute it at one input. -/
def fnPartsMetWrong : ChangeSpec := { name := "fnPartsMet", fn := fun _ => fun
  | [d1, d2] => { results := [.lit (.bool false)], args := [d1, d2] }
  | _ => none }
def FnPartsMetWrongFalsely : Prop := fnPartsMetRow.holds Try.pinned (OpenSpec.ofChange fnPartsMetWrong)

/-- 'laws.FnTokensGo': WHATEVER THE INPUT: true; the input reads as it did. -/
def fnTokensGoSpec : ChangeSpec := { name := "fnTokensGo", fn := fun _ => fun
  | [d1, d2] => { results := [.lit (.bool true)], args := [d1, d2] }
  | _ => none }
def fnTokensGoRow : OpenClaim := { program := "ytgahigmpcgfbeaa", sum := "657370e75c9f0b2ffd2841ff7222a58682bf726b1799ce04faa591c96966e32b", func := "loop.example/g01306/laws.FnTokensGo", spec := "fnTokensGo", unfollowed := true, recurses := true, plainKeys := false, apart := false }
def FnTokensGoSaid : Prop := fnTokensGoRow.holds Try.pinned (OpenSpec.ofChange fnTokensGoSpec)

/-- ITS FALSE NEIGHBOUR: 'it returns false'. Refute it at one input. -/
def fnTokensGoWrong : ChangeSpec := { name := "fnTokensGo", fn := fun _ => fun
  | [d1, d2] => { results := [.lit (.bool false)], args := [d1, d2] }
  | _ => none }
def FnTokensGoWrongFalsely : Prop := fnTokensGoRow.holds Try.pinned (OpenSpec.ofChange fnTokensGoWrong)

/-- 'laws.FnPairsBest': WHATEVER THE INPUT: true; the input reads as it did. -/
def fnPairsBestSpec : ChangeSpec := { name := "fnPairsBest", fn := fun _ => fun
  | [d1, d2] => { results := [.lit (.bool true)], args := [d1, d2] }
  | _ => none }
def fnPairsBestRow : OpenClaim := { program := "ytgahigmpcgfbeaa", sum := "657370e75c9f0b2ffd2841ff7222a58682bf726b1799ce04faa591c96966e32b", func := "loop.example/g01306/laws.FnPairsBest", spec := "fnPairsBest", unfollowed := true, recurses := true, plainKeys := false, apart := false }
def FnPairsBestSaid : Prop := fnPairsBestRow.holds Try.pinned (OpenSpec.ofChange fnPairsBestSpec)

/-- ITS FALSE NEIGHBOUR: 'it returns false'. Refute it at one input. -/
def fnPairsBestWrong : ChangeSpec := { name := "fnPairsBest", fn := fun _ => fun
  | [d1, d2] => { results := [.lit (.bool false)], args := [d1, d2] }
  | _ => none }
def FnPairsBestWrongFalsely : Prop := fnPairsBestRow.holds Try.pinned (OpenSpec.ofChange fnPairsBestWrong)

/-- 'laws.FnDiceSummed': WHATEVER THE INPUT: true; the input reads as it did. -/
def fnDiceSummedSpec : ChangeSpec := { name := "fnDiceSummed", fn := fun _ => fun
  | [d1, d2] => { results := [.lit (.bool true)], args := [d1, d2] }
  | _ => none }
def fnDiceSummedRow : OpenClaim := { program := "ytgahigmpcgfbeaa", sum := "657370e75c9f0b2ffd2841ff7222a58682bf726b1799ce04faa591c96966e32b", func := "loop.example/g01306/laws.FnDiceSummed", spec := "fnDiceSummed", recurses := true, plainKeys := false, apart := false }
def FnDiceSummedSaid : Prop := fnDiceSummedRow.holds Try.pinned (OpenSpec.ofChange fnDiceSummedSpec)

/-- ITS FALSE NEIGHBOUR: 'it returns false'. Refute it at one input. -/
def fnDiceSummedWrong : ChangeSpec := { name := "fnDiceSummed", fn := fun _ => fun
  | [d1, d2] => { results := [.lit (.bool false)], args := [d1, d2] }
  | _ => none }
def FnDiceSummedWrongFalsely : Prop := fnDiceSummedRow.holds Try.pinned (OpenSpec.ofChange fnDiceSummedWrong)

/- THE SECOND FORM. 'bulk': how many values and letters a reading holds, each counted each time it is reached (what is shared counts as often as it is met; a slice's spare places count too). A statement '..UptoSaid' is the law's where the arguments, and the package variables that the reading takes, are together of bulk at most 1048576: NARROWER than '..Said'. Prove '..Said' where nothing that the law and all that it calls make is longer than what came in: it says more and counts as full. Else prove '..UptoSaid'. A law counts once. -/
mutual
def uptoBulk {H : Type} : DataW H → Nat
  | .lit (.string bytes) => bytes.length + 1
  | .lit _ => 1
  | .nil => 1
  | .ptr d => uptoBulk d + 1
  | .slice elems spare => uptoBulkAll elems + uptoBulkAll spare + 1
  | .agg parts => uptoBulkAll parts + 1
  | .iface _ d => uptoBulk d + 1
  | .map entries => uptoBulkEntries entries + 1
  | .held _ => 1
def uptoBulkAll {H : Type} : List (DataW H) → Nat
  | [] => 0
  | d :: r => uptoBulk d + uptoBulkAll r
def uptoBulkEntries {H : Type} : List (Lit × DataW H) → Nat
  | [] => 0
  | x :: r => uptoBulkEntry x + uptoBulkEntries r
def uptoBulkEntry {H : Type} : Lit × DataW H → Nat
  | (.string bytes, d) => bytes.length + uptoBulk d + 1
  | (_, d) => uptoBulk d + 1
 end
def uptoSmall : (H : Type) → List (DataW H) → Bool := fun _ ds => decide (uptoBulkAll ds ≤ 1048576)
def OpenSpec.upto (s : _root_.Go.ChangeSpec) : _root_.Go.OpenSpec := { _root_.Go.OpenSpec.ofChange s with cond := some uptoSmall }

/-- 'laws.FnExactSureSquares', WHERE WHAT IT READS IS OF BULK AT MOST 1048576: true; the input reads as it did. -/
def fnExactSureSquaresUptoRow : OpenClaim := { program := "ytgahigmpcgfbeaa", sum := "657370e75c9f0b2ffd2841ff7222a58682bf726b1799ce04faa591c96966e32b", func := "loop.example/g01306/laws.FnExactSureSquares", spec := "fnExactSureSquares", unfollowed := true, recurses := true, plainKeys := false, apart := false, narrowed := true }
def FnExactSureSquaresUptoSaid : Prop := fnExactSureSquaresUptoRow.holds Try.pinned (OpenSpec.upto fnExactSureSquaresSpec)

/-- 'laws.FnGamesCounted', WHERE WHAT IT READS IS OF BULK AT MOST 1048576: true; the input reads as it did. -/
def fnGamesCountedUptoRow : OpenClaim := { program := "ytgahigmpcgfbeaa", sum := "657370e75c9f0b2ffd2841ff7222a58682bf726b1799ce04faa591c96966e32b", func := "loop.example/g01306/laws.FnGamesCounted", spec := "fnGamesCounted", unfollowed := true, recurses := true, plainKeys := false, apart := false, narrowed := true }
def FnGamesCountedUptoSaid : Prop := fnGamesCountedUptoRow.holds Try.pinned (OpenSpec.upto fnGamesCountedSpec)

/-- 'laws.FnGamesPlayed', WHERE WHAT IT READS IS OF BULK AT MOST 1048576: true; the input reads as it did. -/
def fnGamesPlayedUptoRow : OpenClaim := { program := "ytgahigmpcgfbeaa", sum := "657370e75c9f0b2ffd2841ff7222a58682bf726b1799ce04faa591c96966e32b", func := "loop.example/g01306/laws.FnGamesPlayed", spec := "fnGamesPlayed", unfollowed := true, recurses := true, plainKeys := false, apart := false, narrowed := true }
def FnGamesPlayedUptoSaid : Prop := fnGamesPlayedUptoRow.holds Try.pinned (OpenSpec.upto fnGamesPlayedSpec)

/-- 'laws.FnExactPairThrowsUsed', WHERE WHAT IT READS IS OF BULK AT MOST 1048576: true; the input reads as it did. -/
def fnExactPairThrowsUsedUptoRow : OpenClaim := { program := "ytgahigmpcgfbeaa", sum := "657370e75c9f0b2ffd2841ff7222a58682bf726b1799ce04faa591c96966e32b", func := "loop.example/g01306/laws.FnExactPairThrowsUsed", spec := "fnExactPairThrowsUsed", unfollowed := true, recurses := true, plainKeys := false, apart := false, narrowed := true }
def FnExactPairThrowsUsedUptoSaid : Prop := fnExactPairThrowsUsedUptoRow.holds Try.pinned (OpenSpec.upto fnExactPairThrowsUsedSpec)

/-- 'laws.FnExactPlayPair', WHERE WHAT IT READS IS OF BULK AT MOST 1048576: true; the input reads as it did. -/
def fnExactPlayPairUptoRow : OpenClaim := { program := "ytgahigmpcgfbeaa", sum := "657370e75c9f0b2ffd2841ff7222a58682bf726b1799ce04faa591c96966e32b", func := "loop.example/g01306/laws.FnExactPlayPair", spec := "fnExactPlayPair", unfollowed := true, recurses := true, plainKeys := false, apart := false, narrowed := true }
def FnExactPlayPairUptoSaid : Prop := fnExactPlayPairUptoRow.holds Try.pinned (OpenSpec.upto fnExactPlayPairSpec)

/-- 'laws.FnDiceCounted', WHERE WHAT IT READS IS OF BULK AT MOST 1048576: true; the input reads as it did. -/
def fnDiceCountedUptoRow : OpenClaim := { program := "ytgahigmpcgfbeaa", sum := "657370e75c9f0b2ffd2841ff7222a58682bf726b1799ce04faa591c96966e32b", func := "loop.example/g01306/laws.FnDiceCounted", spec := "fnDiceCounted", unfollowed := true, recurses := true, plainKeys := false, apart := false, narrowed := true }
def FnDiceCountedUptoSaid : Prop := fnDiceCountedUptoRow.holds Try.pinned (OpenSpec.upto fnDiceCountedSpec)

/-- 'laws.FnPartsMet', WHERE WHAT IT READS IS OF BULK AT MOST 1048576: true; the input reads as it did. -/
def fnPartsMetUptoRow : OpenClaim := { program := "ytgahigmpcgfbeaa", sum := "657370e75c9f0b2ffd2841ff7222a58682bf726b1799ce04faa591c96966e32b", func := "loop.example/g01306/laws.FnPartsMet", spec := "fnPartsMet", unfollowed := true, recurses := true, plainKeys := false, apart := false, narrowed := true }
def FnPartsMetUptoSaid : Prop := fnPartsMetUptoRow.holds Try.pinned (OpenSpec.upto fnPartsMetSpec)

/-- 'laws.FnTokensGo', WHERE WHAT IT READS IS OF BULK AT MOST 1048576: true; the input reads as it did. -/
def fnTokensGoUptoRow : OpenClaim := { program := "ytgahigmpcgfbeaa", sum := "657370e75c9f0b2ffd2841ff7222a58682bf726b1799ce04faa591c96966e32b", func := "loop.example/g01306/laws.FnTokensGo", spec := "fnTokensGo", unfollowed := true, recurses := true, plainKeys := false, apart := false, narrowed := true }
def FnTokensGoUptoSaid : Prop := fnTokensGoUptoRow.holds Try.pinned (OpenSpec.upto fnTokensGoSpec)

/-- 'laws.FnPairsBest', WHERE WHAT IT READS IS OF BULK AT MOST 1048576: true; the input reads as it did. -/
def fnPairsBestUptoRow : OpenClaim := { program := "ytgahigmpcgfbeaa", sum := "657370e75c9f0b2ffd2841ff7222a58682bf726b1799ce04faa591c96966e32b", func := "loop.example/g01306/laws.FnPairsBest", spec := "fnPairsBest", unfollowed := true, recurses := true, plainKeys := false, apart := false, narrowed := true }
def FnPairsBestUptoSaid : Prop := fnPairsBestUptoRow.holds Try.pinned (OpenSpec.upto fnPairsBestSpec)

/-- 'laws.FnDiceSummed', WHERE WHAT IT READS IS OF BULK AT MOST 1048576: true; the input reads as it did. -/
def fnDiceSummedUptoRow : OpenClaim := { program := "ytgahigmpcgfbeaa", sum := "657370e75c9f0b2ffd2841ff7222a58682bf726b1799ce04faa591c96966e32b", func := "loop.example/g01306/laws.FnDiceSummed", spec := "fnDiceSummed", recurses := true, plainKeys := false, apart := false, narrowed := true }
def FnDiceSummedUptoSaid : Prop := fnDiceSummedUptoRow.holds Try.pinned (OpenSpec.upto fnDiceSummedSpec)

end Rows
end Go.Proofs.Ytgahigmpcgfbeaa
