/-
  No cell of these rows narrows 'for every input' (looked for: loops, veiled, ifaces, maps, wideKeys, modest, calm, conditions, laid).
  DERIVED. THE GIVEN ROWS OF THIS SEAT. 12 by the template 'for every input the law returns true; each argument reads behind the call as it read before'; 0 by the template 'total and deterministic' (their statements: YtobghfjkkkfecaaTotals.lean).
  GIVEN WITH THE SEED: the statements are not yours to turn. If you find one false, say at which input.
  Laid BY PROGRAM, IN A SANDBOX (cutbox-rows.mjs): the forced cells as the released guide's own fill.sh prints them over the translation f40052b482631eda… (all of the seat's roots in one cut). By AI agents, Wed Nov 11 2026. No macro, syntax, notation, axiom, sorry.
-/
import Derived.Test.YtobghfjkkkfecaaChecked
import GoSem.Claim
import GoSem.ClaimJoined
import GoSem.ClaimMapViews
import Derived.JoinedTies
import Derived.KernelRfl
namespace Go.Proofs.Ytobghfjkkkfecaa
/- THE CELL 'sum', in the pinned program and in every row, IS THE sha256 OF THE DUMP (.gsa) THAT YtobghfjkkkfecaaProg.lean LOADS. Nothing in Lean hashes anything: it is a label: what it is worth is what the hold of that sum in a sandbox is worth. -/
noncomputable def Try.pinned : Pinned := { name := "ytobghfjkkkfecaa", sum := "f40052b482631eda24d371a351b5cc5e76bd64390aa965f1458eb5765d68cc1f", checked := Try.checked }
namespace Rows
def none {H : Type} : Left H := { results := [], args := [] }

/-- 'laws.FnExactSameHill': WHATEVER THE INPUT: true; the input reads as it did. -/
def fnExactSameHillSpec : ChangeSpec := { name := "fnExactSameHill", fn := fun _ => fun
  | [d1, d2] => { results := [.lit (.bool true)], args := [d1, d2] }
  | _ => none }
def fnExactSameHillRow : OpenClaim := { program := "ytobghfjkkkfecaa", sum := "f40052b482631eda24d371a351b5cc5e76bd64390aa965f1458eb5765d68cc1f", func := "loop.example/g01302/laws.FnExactSameHill", spec := "fnExactSameHill", inPlace := ["math.Float32bits", "math.Float64bits"], unfollowed := true, recurses := true, apart := false }
def FnExactSameHillSaid : Prop := fnExactSameHillRow.holds Try.pinned (OpenSpec.ofChange fnExactSameHillSpec)

/-- ITS FALSE NEIGHBOUR: 'it returns false'. Refute it at one input. -/
def fnExactSameHillWrong : ChangeSpec := { name := "fnExactSameHill", fn := fun _ => fun
  | [d1, d2] => { results := [.lit (.bool false)], args := [d1, d2] }
  | _ => none }
def FnExactSameHillWrongFalsely : Prop := fnExactSameHillRow.holds Try.pinned (OpenSpec.ofChange fnExactSameHillWrong)

/-- 'laws.FnExactValidHill': WHATEVER THE INPUT: true; the input reads as it did. -/
def fnExactValidHillSpec : ChangeSpec := { name := "fnExactValidHill", fn := fun _ => fun
  | [d] => { results := [.lit (.bool true)], args := [d] }
  | _ => none }
def fnExactValidHillRow : OpenClaim := { program := "ytobghfjkkkfecaa", sum := "f40052b482631eda24d371a351b5cc5e76bd64390aa965f1458eb5765d68cc1f", func := "loop.example/g01302/laws.FnExactValidHill", spec := "fnExactValidHill", inPlace := ["math.Float64bits", "math.Float64frombits"], unfollowed := true, recurses := true, apart := false }
def FnExactValidHillSaid : Prop := fnExactValidHillRow.holds Try.pinned (OpenSpec.ofChange fnExactValidHillSpec)

/-- ITS FALSE NEIGHBOUR: 'it returns false'. Refute it at one input. -/
def fnExactValidHillWrong : ChangeSpec := { name := "fnExactValidHill", fn := fun _ => fun
  | [d] => { results := [.lit (.bool false)], args := [d] }
  | _ => none }
def FnExactValidHillWrongFalsely : Prop := fnExactValidHillRow.holds Try.pinned (OpenSpec.ofChange fnExactValidHillWrong)

/-- 'laws.FnExactSlopeHill': WHATEVER THE INPUT: true; the input reads as it did. -/
def fnExactSlopeHillSpec : ChangeSpec := { name := "fnExactSlopeHill", fn := fun _ => fun
  | [d1, d2, d3, d4, d5] => { results := [.lit (.bool true)], args := [d1, d2, d3, d4, d5] }
  | _ => none }
def fnExactSlopeHillRow : OpenClaim := { program := "ytobghfjkkkfecaa", sum := "f40052b482631eda24d371a351b5cc5e76bd64390aa965f1458eb5765d68cc1f", func := "loop.example/g01302/laws.FnExactSlopeHill", spec := "fnExactSlopeHill", inPlace := ["math.Float64bits", "math.Float64frombits"], unfollowed := true, recurses := true, apart := false }
def FnExactSlopeHillSaid : Prop := fnExactSlopeHillRow.holds Try.pinned (OpenSpec.ofChange fnExactSlopeHillSpec)

/-- ITS FALSE NEIGHBOUR: 'it returns false'. Refute it at one input. -/
def fnExactSlopeHillWrong : ChangeSpec := { name := "fnExactSlopeHill", fn := fun _ => fun
  | [d1, d2, d3, d4, d5] => { results := [.lit (.bool false)], args := [d1, d2, d3, d4, d5] }
  | _ => none }
def FnExactSlopeHillWrongFalsely : Prop := fnExactSlopeHillRow.holds Try.pinned (OpenSpec.ofChange fnExactSlopeHillWrong)

/-- 'laws.FnExactTurnHill': WHATEVER THE INPUT: true; the input reads as it did. -/
def fnExactTurnHillSpec : ChangeSpec := { name := "fnExactTurnHill", fn := fun _ => fun
  | [d] => { results := [.lit (.bool true)], args := [d] }
  | _ => none }
def fnExactTurnHillRow : OpenClaim := { program := "ytobghfjkkkfecaa", sum := "f40052b482631eda24d371a351b5cc5e76bd64390aa965f1458eb5765d68cc1f", func := "loop.example/g01302/laws.FnExactTurnHill", spec := "fnExactTurnHill", inPlace := ["math.Float64bits", "math.Float64frombits"], unfollowed := true, recurses := true, apart := false }
def FnExactTurnHillSaid : Prop := fnExactTurnHillRow.holds Try.pinned (OpenSpec.ofChange fnExactTurnHillSpec)

/-- ITS FALSE NEIGHBOUR: 'it returns false'. Refute it at one input. -/
def fnExactTurnHillWrong : ChangeSpec := { name := "fnExactTurnHill", fn := fun _ => fun
  | [d] => { results := [.lit (.bool false)], args := [d] }
  | _ => none }
def FnExactTurnHillWrongFalsely : Prop := fnExactTurnHillRow.holds Try.pinned (OpenSpec.ofChange fnExactTurnHillWrong)

/-- 'laws.FnExactAddHills': WHATEVER THE INPUT: true; the input reads as it did. -/
def fnExactAddHillsSpec : ChangeSpec := { name := "fnExactAddHills", fn := fun _ => fun
  | [d1, d2] => { results := [.lit (.bool true)], args := [d1, d2] }
  | _ => none }
def fnExactAddHillsRow : OpenClaim := { program := "ytobghfjkkkfecaa", sum := "f40052b482631eda24d371a351b5cc5e76bd64390aa965f1458eb5765d68cc1f", func := "loop.example/g01302/laws.FnExactAddHills", spec := "fnExactAddHills", inPlace := ["math.Float64bits", "math.Float64frombits"], unfollowed := true, recurses := true, apart := false }
def FnExactAddHillsSaid : Prop := fnExactAddHillsRow.holds Try.pinned (OpenSpec.ofChange fnExactAddHillsSpec)

/-- ITS FALSE NEIGHBOUR: 'it returns false'. Refute it at one input. -/
def fnExactAddHillsWrong : ChangeSpec := { name := "fnExactAddHills", fn := fun _ => fun
  | [d1, d2] => { results := [.lit (.bool false)], args := [d1, d2] }
  | _ => none }
def FnExactAddHillsWrongFalsely : Prop := fnExactAddHillsRow.holds Try.pinned (OpenSpec.ofChange fnExactAddHillsWrong)

/-- 'laws.FnExactScaleHill': WHATEVER THE INPUT: true; the input reads as it did. -/
def fnExactScaleHillSpec : ChangeSpec := { name := "fnExactScaleHill", fn := fun _ => fun
  | [d1, d2] => { results := [.lit (.bool true)], args := [d1, d2] }
  | _ => none }
def fnExactScaleHillRow : OpenClaim := { program := "ytobghfjkkkfecaa", sum := "f40052b482631eda24d371a351b5cc5e76bd64390aa965f1458eb5765d68cc1f", func := "loop.example/g01302/laws.FnExactScaleHill", spec := "fnExactScaleHill", inPlace := ["math.Float64bits", "math.Float64frombits"], unfollowed := true, recurses := true, apart := false }
def FnExactScaleHillSaid : Prop := fnExactScaleHillRow.holds Try.pinned (OpenSpec.ofChange fnExactScaleHillSpec)

/-- ITS FALSE NEIGHBOUR: 'it returns false'. Refute it at one input. -/
def fnExactScaleHillWrong : ChangeSpec := { name := "fnExactScaleHill", fn := fun _ => fun
  | [d1, d2] => { results := [.lit (.bool false)], args := [d1, d2] }
  | _ => none }
def FnExactScaleHillWrongFalsely : Prop := fnExactScaleHillRow.holds Try.pinned (OpenSpec.ofChange fnExactScaleHillWrong)

/-- 'laws.FnExactTiltAt': WHATEVER THE INPUT: true; the input reads as it did. -/
def fnExactTiltAtSpec : ChangeSpec := { name := "fnExactTiltAt", fn := fun _ => fun
  | [d1, d2] => { results := [.lit (.bool true)], args := [d1, d2] }
  | _ => none }
def fnExactTiltAtRow : OpenClaim := { program := "ytobghfjkkkfecaa", sum := "f40052b482631eda24d371a351b5cc5e76bd64390aa965f1458eb5765d68cc1f", func := "loop.example/g01302/laws.FnExactTiltAt", spec := "fnExactTiltAt", inPlace := ["math.Float64bits", "math.Float64frombits"], unfollowed := true, recurses := true, apart := false }
def FnExactTiltAtSaid : Prop := fnExactTiltAtRow.holds Try.pinned (OpenSpec.ofChange fnExactTiltAtSpec)

/-- ITS FALSE NEIGHBOUR: 'it returns false'. Refute it at one input. -/
def fnExactTiltAtWrong : ChangeSpec := { name := "fnExactTiltAt", fn := fun _ => fun
  | [d1, d2] => { results := [.lit (.bool false)], args := [d1, d2] }
  | _ => none }
def FnExactTiltAtWrongFalsely : Prop := fnExactTiltAtRow.holds Try.pinned (OpenSpec.ofChange fnExactTiltAtWrong)

/-- 'laws.FnExactSeesOver': WHATEVER THE INPUT: true; the input reads as it did. -/
def fnExactSeesOverSpec : ChangeSpec := { name := "fnExactSeesOver", fn := fun _ => fun
  | [d1, d2, d3, d4] => { results := [.lit (.bool true)], args := [d1, d2, d3, d4] }
  | _ => none }
def fnExactSeesOverRow : OpenClaim := { program := "ytobghfjkkkfecaa", sum := "f40052b482631eda24d371a351b5cc5e76bd64390aa965f1458eb5765d68cc1f", func := "loop.example/g01302/laws.FnExactSeesOver", spec := "fnExactSeesOver", inPlace := ["math.Float64bits", "math.Float64frombits"], unfollowed := true, recurses := true, apart := false }
def FnExactSeesOverSaid : Prop := fnExactSeesOverRow.holds Try.pinned (OpenSpec.ofChange fnExactSeesOverSpec)

/-- ITS FALSE NEIGHBOUR: 'it returns false'. Refute it at one input. -/
def fnExactSeesOverWrong : ChangeSpec := { name := "fnExactSeesOver", fn := fun _ => fun
  | [d1, d2, d3, d4] => { results := [.lit (.bool false)], args := [d1, d2, d3, d4] }
  | _ => none }
def FnExactSeesOverWrongFalsely : Prop := fnExactSeesOverRow.holds Try.pinned (OpenSpec.ofChange fnExactSeesOverWrong)

/-- 'laws.FnExactRoughHill': WHATEVER THE INPUT: true; the input reads as it did. -/
def fnExactRoughHillSpec : ChangeSpec := { name := "fnExactRoughHill", fn := fun _ => fun
  | [d1, d2, d3] => { results := [.lit (.bool true)], args := [d1, d2, d3] }
  | _ => none }
def fnExactRoughHillRow : OpenClaim := { program := "ytobghfjkkkfecaa", sum := "f40052b482631eda24d371a351b5cc5e76bd64390aa965f1458eb5765d68cc1f", func := "loop.example/g01302/laws.FnExactRoughHill", spec := "fnExactRoughHill", inPlace := ["math.Float64bits", "math.Float64frombits"], unfollowed := true, recurses := true, apart := false }
def FnExactRoughHillSaid : Prop := fnExactRoughHillRow.holds Try.pinned (OpenSpec.ofChange fnExactRoughHillSpec)

/-- ITS FALSE NEIGHBOUR: 'it returns false'. Refute it at one input. -/
def fnExactRoughHillWrong : ChangeSpec := { name := "fnExactRoughHill", fn := fun _ => fun
  | [d1, d2, d3] => { results := [.lit (.bool false)], args := [d1, d2, d3] }
  | _ => none }
def FnExactRoughHillWrongFalsely : Prop := fnExactRoughHillRow.holds Try.pinned (OpenSpec.ofChange fnExactRoughHillWrong)

/-- 'laws.FnExactFallAt': WHATEVER THE INPUT: true; the input reads as it did. -/
def fnExactFallAtSpec : ChangeSpec := { name := "fnExactFallAt", fn := fun _ => fun
  | [d1, d2] => { results := [.lit (.bool true)], args := [d1, d2] }
  | _ => none }
def fnExactFallAtRow : OpenClaim := { program := "ytobghfjkkkfecaa", sum := "f40052b482631eda24d371a351b5cc5e76bd64390aa965f1458eb5765d68cc1f", func := "loop.example/g01302/laws.FnExactFallAt", spec := "fnExactFallAt", inPlace := ["math.Float64bits", "math.Float64frombits"], unfollowed := true, recurses := true, apart := false }
def FnExactFallAtSaid : Prop := fnExactFallAtRow.holds Try.pinned (OpenSpec.ofChange fnExactFallAtSpec)

/-- ITS FALSE NEIGHBOUR: 'it returns false'. Refute it at one input. -/
def fnExactFallAtWrong : ChangeSpec := { name := "fnExactFallAt", fn := fun _ => fun
  | [d1, d2] => { results := [.lit (.bool false)], args := [d1, d2] }
  | _ => none }
def FnExactFallAtWrongFalsely : Prop := fnExactFallAtRow.holds Try.pinned (OpenSpec.ofChange fnExactFallAtWrong)

/-- 'laws.FnExactConeHill': WHATEVER THE INPUT: true; the input reads as it did. -/
def fnExactConeHillSpec : ChangeSpec := { name := "fnExactConeHill", fn := fun _ => fun
  | [d1, d2, d3, d4] => { results := [.lit (.bool true)], args := [d1, d2, d3, d4] }
  | _ => none }
def fnExactConeHillRow : OpenClaim := { program := "ytobghfjkkkfecaa", sum := "f40052b482631eda24d371a351b5cc5e76bd64390aa965f1458eb5765d68cc1f", func := "loop.example/g01302/laws.FnExactConeHill", spec := "fnExactConeHill", inPlace := ["math.sqrt", "math.Float64bits", "math.Float64frombits"], unfollowed := true, recurses := true, apart := false }
def FnExactConeHillSaid : Prop := fnExactConeHillRow.holds Try.pinned (OpenSpec.ofChange fnExactConeHillSpec)

/-- ITS FALSE NEIGHBOUR: 'it returns false'. Refute it at one input. -/
def fnExactConeHillWrong : ChangeSpec := { name := "fnExactConeHill", fn := fun _ => fun
  | [d1, d2, d3, d4] => { results := [.lit (.bool false)], args := [d1, d2, d3, d4] }
  | _ => none }
def FnExactConeHillWrongFalsely : Prop := fnExactConeHillRow.holds Try.pinned (OpenSpec.ofChange fnExactConeHillWrong)

/-- 'laws.FnExactAreWays': WHATEVER THE INPUT: true; the input reads as it did. -/
def fnExactAreWaysSpec : ChangeSpec := { name := "fnExactAreWays", fn := fun _ => fun
  | [d1, d2] => { results := [.lit (.bool true)], args := [d1, d2] }
  | _ => none }
def fnExactAreWaysRow : OpenClaim := { program := "ytobghfjkkkfecaa", sum := "f40052b482631eda24d371a351b5cc5e76bd64390aa965f1458eb5765d68cc1f", func := "loop.example/g01302/laws.FnExactAreWays", spec := "fnExactAreWays", inPlace := ["math.Float64bits", "math.Float64frombits"], unfollowed := true, recurses := true, apart := false }
def FnExactAreWaysSaid : Prop := fnExactAreWaysRow.holds Try.pinned (OpenSpec.ofChange fnExactAreWaysSpec)

/-- ITS FALSE NEIGHBOUR: 'it returns false'. Refute it at one input. -/
def fnExactAreWaysWrong : ChangeSpec := { name := "fnExactAreWays", fn := fun _ => fun
  | [d1, d2] => { results := [.lit (.bool false)], args := [d1, d2] }
  | _ => none }
def FnExactAreWaysWrongFalsely : Prop := fnExactAreWaysRow.holds Try.pinned (OpenSpec.ofChange fnExactAreWaysWrong)

/- THE SECOND FORM. 'bulk': how many values and letters a reading holds, each counted each time it is reached (what is shared counts as often as it is met; a slice's spare places count too). A statement '..UptoSaid' is the law's where the arguments, and the package variables that the reading takes, are together of bulk at most 1048576: NARROWER than '..Said'. Prove '..Said' where nothing that the law and all that it calls make is longer than what came in: it says more and counts as full. Else prove '..UptoSaid'. A law counts once. -/
mutual
def uptoBulk {H : Type} : DataW H → Nat
  | .lit (.string bytes) => bytes.length + 1
  | .lit _ => 1
  | .nil => 1
  | .ptr d => uptoBulk d + 1
  | .slice elems spare => uptoBulkAll elems + uptoBulkAll spare + 1
  | .agg parts => uptoBulkAll parts + 1
  | .iface _ d => uptoBulk d + 1
  | .map entries => uptoBulkEntries entries + 1
  | .held _ => 1
def uptoBulkAll {H : Type} : List (DataW H) → Nat
  | [] => 0
  | d :: r => uptoBulk d + uptoBulkAll r
def uptoBulkEntries {H : Type} : List (Lit × DataW H) → Nat
  | [] => 0
  | x :: r => uptoBulkEntry x + uptoBulkEntries r
def uptoBulkEntry {H : Type} : Lit × DataW H → Nat
  | (.string bytes, d) => bytes.length + uptoBulk d + 1
  | (_, d) => uptoBulk d + 1
 end
def uptoSmall : (H : Type) → List (DataW H) → Bool := fun _ ds => decide (uptoBulkAll ds ≤ 1048576)
def OpenSpec.upto (s : _root_.Go.ChangeSpec) : _root_.Go.OpenSpec := { _root_.Go.OpenSpec.ofChange s with cond := some uptoSmall }

/-- 'laws.FnExactSameHill', WHERE WHAT IT READS IS OF BULK AT MOST 1048576: true; the input reads as it did. -/
def fnExactSameHillUptoRow : OpenClaim := { program := "ytobghfjkkkfecaa", sum := "f40052b482631eda24d371a351b5cc5e76bd64390aa965f1458eb5765d68cc1f", func := "loop.example/g01302/laws.FnExactSameHill", spec := "fnExactSameHill", inPlace := ["math.Float32bits", "math.Float64bits"], unfollowed := true, recurses := true, apart := false, narrowed := true }
def FnExactSameHillUptoSaid : Prop := fnExactSameHillUptoRow.holds Try.pinned (OpenSpec.upto fnExactSameHillSpec)

/-- 'laws.FnExactValidHill', WHERE WHAT IT READS IS OF BULK AT MOST 1048576: true; the input reads as it did. -/
def fnExactValidHillUptoRow : OpenClaim := { program := "ytobghfjkkkfecaa", sum := "f40052b482631eda24d371a351b5cc5e76bd64390aa965f1458eb5765d68cc1f", func := "loop.example/g01302/laws.FnExactValidHill", spec := "fnExactValidHill", inPlace := ["math.Float64bits", "math.Float64frombits"], unfollowed := true, recurses := true, apart := false, narrowed := true }
def FnExactValidHillUptoSaid : Prop := fnExactValidHillUptoRow.holds Try.pinned (OpenSpec.upto fnExactValidHillSpec)

/-- 'laws.FnExactSlopeHill', WHERE WHAT IT READS IS OF BULK AT MOST 1048576: true; the input reads as it did. -/
def fnExactSlopeHillUptoRow : OpenClaim := { program := "ytobghfjkkkfecaa", sum := "f40052b482631eda24d371a351b5cc5e76bd64390aa965f1458eb5765d68cc1f", func := "loop.example/g01302/laws.FnExactSlopeHill", spec := "fnExactSlopeHill", inPlace := ["math.Float64bits", "math.Float64frombits"], unfollowed := true, recurses := true, apart := false, narrowed := true }
def FnExactSlopeHillUptoSaid : Prop := fnExactSlopeHillUptoRow.holds Try.pinned (OpenSpec.upto fnExactSlopeHillSpec)

/-- 'laws.FnExactTurnHill', WHERE WHAT IT READS IS OF BULK AT MOST 1048576: true; the input reads as it did. -/
def fnExactTurnHillUptoRow : OpenClaim := { program := "ytobghfjkkkfecaa", sum := "f40052b482631eda24d371a351b5cc5e76bd64390aa965f1458eb5765d68cc1f", func := "loop.example/g01302/laws.FnExactTurnHill", spec := "fnExactTurnHill", inPlace := ["math.Float64bits", "math.Float64frombits"], unfollowed := true, recurses := true, apart := false, narrowed := true }
def FnExactTurnHillUptoSaid : Prop := fnExactTurnHillUptoRow.holds Try.pinned (OpenSpec.upto fnExactTurnHillSpec)

/-- 'laws.FnExactAddHills', WHERE WHAT IT READS IS OF BULK AT MOST 1048576: true; the input reads as it did. -/
def fnExactAddHillsUptoRow : OpenClaim := { program := "ytobghfjkkkfecaa", sum := "f40052b482631eda24d371a351b5cc5e76bd64390aa965f1458eb5765d68cc1f", func := "loop.example/g01302/laws.FnExactAddHills", spec := "fnExactAddHills", inPlace := ["math.Float64bits", "math.Float64frombits"], unfollowed := true, recurses := true, apart := false, narrowed := true }
def FnExactAddHillsUptoSaid : Prop := fnExactAddHillsUptoRow.holds Try.pinned (OpenSpec.upto fnExactAddHillsSpec)

/-- 'laws.FnExactScaleHill', WHERE WHAT IT READS IS OF BULK AT MOST 1048576: true; the input reads as it did. -/
def fnExactScaleHillUptoRow : OpenClaim := { program := "ytobghfjkkkfecaa", sum := "f40052b482631eda24d371a351b5cc5e76bd64390aa965f1458eb5765d68cc1f", func := "loop.example/g01302/laws.FnExactScaleHill", spec := "fnExactScaleHill", inPlace := ["math.Float64bits", "math.Float64frombits"], unfollowed := true, recurses := true, apart := false, narrowed := true }
def FnExactScaleHillUptoSaid : Prop := fnExactScaleHillUptoRow.holds Try.pinned (OpenSpec.upto fnExactScaleHillSpec)

/-- 'laws.FnExactTiltAt', WHERE WHAT IT READS IS OF BULK AT MOST 1048576: true; the input reads as it did. -/
def fnExactTiltAtUptoRow : OpenClaim := { program := "ytobghfjkkkfecaa", sum := "f40052b482631eda24d371a351b5cc5e76bd64390aa965f1458eb5765d68cc1f", func := "loop.example/g01302/laws.FnExactTiltAt", spec := "fnExactTiltAt", inPlace := ["math.Float64bits", "math.Float64frombits"], unfollowed := true, recurses := true, apart := false, narrowed := true }
def FnExactTiltAtUptoSaid : Prop := fnExactTiltAtUptoRow.holds Try.pinned (OpenSpec.upto fnExactTiltAtSpec)

/-- 'laws.FnExactSeesOver', WHERE WHAT IT READS IS OF BULK AT MOST 1048576: true; the input reads as it did. -/
def fnExactSeesOverUptoRow : OpenClaim := { program := "ytobghfjkkkfecaa", sum := "f40052b482631eda24d371a351b5cc5e76bd64390aa965f1458eb5765d68cc1f", func := "loop.example/g01302/laws.FnExactSeesOver", spec := "fnExactSeesOver", inPlace := ["math.Float64bits", "math.Float64frombits"], unfollowed := true, recurses := true, apart := false, narrowed := true }
def FnExactSeesOverUptoSaid : Prop := fnExactSeesOverUptoRow.holds Try.pinned (OpenSpec.upto fnExactSeesOverSpec)

/-- 'laws.FnExactRoughHill', WHERE WHAT IT READS IS OF BULK AT MOST 1048576: true; the input reads as it did. -/
def fnExactRoughHillUptoRow : OpenClaim := { program := "ytobghfjkkkfecaa", sum := "f40052b482631eda24d371a351b5cc5e76bd64390aa965f1458eb5765d68cc1f", func := "loop.example/g01302/laws.FnExactRoughHill", spec := "fnExactRoughHill", inPlace := ["math.Float64bits", "math.Float64frombits"], unfollowed := true, recurses := true, apart := false, narrowed := true }
def FnExactRoughHillUptoSaid : Prop := fnExactRoughHillUptoRow.holds Try.pinned (OpenSpec.upto fnExactRoughHillSpec)

/-- 'laws.FnExactFallAt', WHERE WHAT IT READS IS OF BULK AT MOST 1048576: true; the input reads as it did. -/
def fnExactFallAtUptoRow : OpenClaim := { program := "ytobghfjkkkfecaa", sum := "f40052b482631eda24d371a351b5cc5e76bd64390aa965f1458eb5765d68cc1f", func := "loop.example/g01302/laws.FnExactFallAt", spec := "fnExactFallAt", inPlace := ["math.Float64bits", "math.Float64frombits"], unfollowed := true, recurses := true, apart := false, narrowed := true }
def FnExactFallAtUptoSaid : Prop := fnExactFallAtUptoRow.holds Try.pinned (OpenSpec.upto fnExactFallAtSpec)

/-- 'laws.FnExactConeHill', WHERE WHAT IT READS IS OF BULK AT MOST 1048576: true; the input reads as it did. -/
def fnExactConeHillUptoRow : OpenClaim := { program := "ytobghfjkkkfecaa", sum := "f40052b482631eda24d371a351b5cc5e76bd64390aa965f1458eb5765d68cc1f", func := "loop.example/g01302/laws.FnExactConeHill", spec := "fnExactConeHill", inPlace := ["math.sqrt", "math.Float64bits", "math.Float64frombits"], unfollowed := true, recurses := true, apart := false, narrowed := true }
def FnExactConeHillUptoSaid : Prop := fnExactConeHillUptoRow.holds Try.pinned (OpenSpec.upto fnExactConeHillSpec)

/-- 'laws.FnExactAreWays', WHERE WHAT IT READS IS OF BULK AT MOST 1048576: true; the input reads as it did. -/
def fnExactAreWaysUptoRow : OpenClaim := { program := "ytobghfjkkkfecaa", sum := "f40052b482631eda24d371a351b5cc5e76bd64390aa965f1458eb5765d68cc1f", func := "loop.example/g01302/laws.FnExactAreWays", spec := "fnExactAreWays", inPlace := ["math.Float64bits", "math.Float64frombits"], unfollowed := true, recurses := true, apart := false, narrowed := true }
def FnExactAreWaysUptoSaid : Prop := fnExactAreWaysUptoRow.holds Try.pinned (OpenSpec.upto fnExactAreWaysSpec)

end Rows
end Go.Proofs.Ytobghfjkkkfecaa
