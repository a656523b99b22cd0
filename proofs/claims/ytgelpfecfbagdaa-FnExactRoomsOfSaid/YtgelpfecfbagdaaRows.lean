/-
  No cell of these rows narrows 'for every input' (looked for: loops, veiled, ifaces, maps, wideKeys, modest, calm, conditions, laid).
  DERIVED. THE GIVEN ROWS OF THIS SEAT. 12 by the template 'for every input the law returns true; each argument reads behind the call as it read before'; 0 by the template 'total and deterministic' (their statements: YtgelpfecfbagdaaTotals.lean).
  GIVEN WITH THE SEED: the statements are not yours to turn. If you find one false, say at which input.
  Laid BY PROGRAM, IN A SANDBOX (cutbox-rows.mjs): the forced cells as the released guide's own fill.sh prints them over the translation 6a8914e5338049b2… (all of the seat's roots in one cut). By AI agents, Wed Nov 11 2026. No macro, syntax, notation, axiom, sorry.
-/
import Derived.Test.YtgelpfecfbagdaaChecked
import GoSem.Claim
import GoSem.ClaimJoined
import GoSem.ClaimMapViews
import Derived.JoinedTies
import Derived.KernelRfl
namespace Go.Proofs.Ytgelpfecfbagdaa
/- THE CELL 'sum', in the pinned program and in every row, IS THE sha256 OF THE DUMP (.gsa) THAT YtgelpfecfbagdaaProg.lean LOADS. Nothing in Lean hashes anything: it is a label: what it is worth is what the hold of that sum in a sandbox is worth. -/
noncomputable def Try.pinned : Pinned := { name := "ytgelpfecfbagdaa", sum := "6a8914e5338049b2aa01ebfc8973c5df6caf62fab24d06a5118e8aec46968d05", checked := Try.checked }
namespace Rows
def none {H : Type} : Left H := { results := [], args := [] }

/-- 'laws.FnExactRuleFor': WHATEVER THE INPUT: true; the input reads as it did. -/
def fnExactRuleForSpec : ChangeSpec := { name := "fnExactRuleFor", fn := fun _ => fun
  | [d1, d2] => { results := [.lit (.bool true)], args := [d1, d2] }
  | _ => none }
def fnExactRuleForRow : OpenClaim := { program := "ytgelpfecfbagdaa", sum := "6a8914e5338049b2aa01ebfc8973c5df6caf62fab24d06a5118e8aec46968d05", func := "loop.example/g00972/laws.FnExactRuleFor", spec := "fnExactRuleFor", apart := false }
def FnExactRuleForSaid : Prop := fnExactRuleForRow.holds Try.pinned (OpenSpec.ofChange fnExactRuleForSpec)

/-- ITS FALSE NEIGHBOUR: 'it returns false'. Refute it at one input. -/
def fnExactRuleForWrong : ChangeSpec := { name := "fnExactRuleFor", fn := fun _ => fun
  | [d1, d2] => { results := [.lit (.bool false)], args := [d1, d2] }
  | _ => none }
def FnExactRuleForWrongFalsely : Prop := fnExactRuleForRow.holds Try.pinned (OpenSpec.ofChange fnExactRuleForWrong)

/-- 'laws.FnExactSameTable': WHATEVER THE INPUT: true; the input reads as it did. -/
def fnExactSameTableSpec : ChangeSpec := { name := "fnExactSameTable", fn := fun _ => fun
  | [d1, d2] => { results := [.lit (.bool true)], args := [d1, d2] }
  | _ => none }
def fnExactSameTableRow : OpenClaim := { program := "ytgelpfecfbagdaa", sum := "6a8914e5338049b2aa01ebfc8973c5df6caf62fab24d06a5118e8aec46968d05", func := "loop.example/g00972/laws.FnExactSameTable", spec := "fnExactSameTable", apart := false }
def FnExactSameTableSaid : Prop := fnExactSameTableRow.holds Try.pinned (OpenSpec.ofChange fnExactSameTableSpec)

/-- ITS FALSE NEIGHBOUR: 'it returns false'. Refute it at one input. -/
def fnExactSameTableWrong : ChangeSpec := { name := "fnExactSameTable", fn := fun _ => fun
  | [d1, d2] => { results := [.lit (.bool false)], args := [d1, d2] }
  | _ => none }
def FnExactSameTableWrongFalsely : Prop := fnExactSameTableRow.holds Try.pinned (OpenSpec.ofChange fnExactSameTableWrong)

/-- 'laws.FnExactTableOk': WHATEVER THE INPUT: true; the input reads as it did. -/
def fnExactTableOkSpec : ChangeSpec := { name := "fnExactTableOk", fn := fun _ => fun
  | [d] => { results := [.lit (.bool true)], args := [d] }
  | _ => none }
def fnExactTableOkRow : OpenClaim := { program := "ytgelpfecfbagdaa", sum := "6a8914e5338049b2aa01ebfc8973c5df6caf62fab24d06a5118e8aec46968d05", func := "loop.example/g00972/laws.FnExactTableOk", spec := "fnExactTableOk", apart := false }
def FnExactTableOkSaid : Prop := fnExactTableOkRow.holds Try.pinned (OpenSpec.ofChange fnExactTableOkSpec)

/-- ITS FALSE NEIGHBOUR: 'it returns false'. Refute it at one input. -/
def fnExactTableOkWrong : ChangeSpec := { name := "fnExactTableOk", fn := fun _ => fun
  | [d] => { results := [.lit (.bool false)], args := [d] }
  | _ => none }
def FnExactTableOkWrongFalsely : Prop := fnExactTableOkRow.holds Try.pinned (OpenSpec.ofChange fnExactTableOkWrong)

/-- 'laws.FnExactWantedOf': WHATEVER THE INPUT: true; the input reads as it did. -/
def fnExactWantedOfSpec : ChangeSpec := { name := "fnExactWantedOf", fn := fun _ => fun
  | [d1, d2] => { results := [.lit (.bool true)], args := [d1, d2] }
  | _ => none }
def fnExactWantedOfRow : OpenClaim := { program := "ytgelpfecfbagdaa", sum := "6a8914e5338049b2aa01ebfc8973c5df6caf62fab24d06a5118e8aec46968d05", func := "loop.example/g00972/laws.FnExactWantedOf", spec := "fnExactWantedOf", apart := false }
def FnExactWantedOfSaid : Prop := fnExactWantedOfRow.holds Try.pinned (OpenSpec.ofChange fnExactWantedOfSpec)

/-- ITS FALSE NEIGHBOUR: 'it returns false'. Refute it at one input. -/
def fnExactWantedOfWrong : ChangeSpec := { name := "fnExactWantedOf", fn := fun _ => fun
  | [d1, d2] => { results := [.lit (.bool false)], args := [d1, d2] }
  | _ => none }
def FnExactWantedOfWrongFalsely : Prop := fnExactWantedOfRow.holds Try.pinned (OpenSpec.ofChange fnExactWantedOfWrong)

/-- 'laws.FnExactRoomsOf': WHATEVER THE INPUT: true; the input reads as it did. -/
def fnExactRoomsOfSpec : ChangeSpec := { name := "fnExactRoomsOf", fn := fun _ => fun
  | [d] => { results := [.lit (.bool true)], args := [d] }
  | _ => none }
def fnExactRoomsOfRow : OpenClaim := { program := "ytgelpfecfbagdaa", sum := "6a8914e5338049b2aa01ebfc8973c5df6caf62fab24d06a5118e8aec46968d05", func := "loop.example/g00972/laws.FnExactRoomsOf", spec := "fnExactRoomsOf", apart := false }
def FnExactRoomsOfSaid : Prop := fnExactRoomsOfRow.holds Try.pinned (OpenSpec.ofChange fnExactRoomsOfSpec)

/-- ITS FALSE NEIGHBOUR: 'it returns false'. Refute it at one input. -/
def fnExactRoomsOfWrong : ChangeSpec := { name := "fnExactRoomsOf", fn := fun _ => fun
  | [d] => { results := [.lit (.bool false)], args := [d] }
  | _ => none }
def FnExactRoomsOfWrongFalsely : Prop := fnExactRoomsOfRow.holds Try.pinned (OpenSpec.ofChange fnExactRoomsOfWrong)

/-- 'laws.FnExactCrossTotal': WHATEVER THE INPUT: true; the input reads as it did. -/
def fnExactCrossTotalSpec : ChangeSpec := { name := "fnExactCrossTotal", fn := fun _ => fun
  | [d1, d2] => { results := [.lit (.bool true)], args := [d1, d2] }
  | _ => none }
def fnExactCrossTotalRow : OpenClaim := { program := "ytgelpfecfbagdaa", sum := "6a8914e5338049b2aa01ebfc8973c5df6caf62fab24d06a5118e8aec46968d05", func := "loop.example/g00972/laws.FnExactCrossTotal", spec := "fnExactCrossTotal", apart := false }
def FnExactCrossTotalSaid : Prop := fnExactCrossTotalRow.holds Try.pinned (OpenSpec.ofChange fnExactCrossTotalSpec)

/-- ITS FALSE NEIGHBOUR: 'it returns false'. Refute it at one input. -/
def fnExactCrossTotalWrong : ChangeSpec := { name := "fnExactCrossTotal", fn := fun _ => fun
  | [d1, d2] => { results := [.lit (.bool false)], args := [d1, d2] }
  | _ => none }
def FnExactCrossTotalWrongFalsely : Prop := fnExactCrossTotalRow.holds Try.pinned (OpenSpec.ofChange fnExactCrossTotalWrong)

/-- 'laws.FnExactLeadOf': WHATEVER THE INPUT: true; the input reads as it did. -/
def fnExactLeadOfSpec : ChangeSpec := { name := "fnExactLeadOf", fn := fun _ => fun
  | [d1, d2, d3] => { results := [.lit (.bool true)], args := [d1, d2, d3] }
  | _ => none }
def fnExactLeadOfRow : OpenClaim := { program := "ytgelpfecfbagdaa", sum := "6a8914e5338049b2aa01ebfc8973c5df6caf62fab24d06a5118e8aec46968d05", func := "loop.example/g00972/laws.FnExactLeadOf", spec := "fnExactLeadOf", apart := false }
def FnExactLeadOfSaid : Prop := fnExactLeadOfRow.holds Try.pinned (OpenSpec.ofChange fnExactLeadOfSpec)

/-- ITS FALSE NEIGHBOUR: 'it returns false'. Refute it at one input. -/
def fnExactLeadOfWrong : ChangeSpec := { name := "fnExactLeadOf", fn := fun _ => fun
  | [d1, d2, d3] => { results := [.lit (.bool false)], args := [d1, d2, d3] }
  | _ => none }
def FnExactLeadOfWrongFalsely : Prop := fnExactLeadOfRow.holds Try.pinned (OpenSpec.ofChange fnExactLeadOfWrong)

/-- 'laws.FnExactStretchLines': WHATEVER THE INPUT: true; the input reads as it did. -/
def fnExactStretchLinesSpec : ChangeSpec := { name := "fnExactStretchLines", fn := fun _ => fun
  | [d1, d2, d3, d4] => { results := [.lit (.bool true)], args := [d1, d2, d3, d4] }
  | _ => none }
def fnExactStretchLinesRow : OpenClaim := { program := "ytgelpfecfbagdaa", sum := "6a8914e5338049b2aa01ebfc8973c5df6caf62fab24d06a5118e8aec46968d05", func := "loop.example/g00972/laws.FnExactStretchLines", spec := "fnExactStretchLines", apart := false }
def FnExactStretchLinesSaid : Prop := fnExactStretchLinesRow.holds Try.pinned (OpenSpec.ofChange fnExactStretchLinesSpec)

/-- ITS FALSE NEIGHBOUR: 'it returns false'. Refute it at one input. -/
def fnExactStretchLinesWrong : ChangeSpec := { name := "fnExactStretchLines", fn := fun _ => fun
  | [d1, d2, d3, d4] => { results := [.lit (.bool false)], args := [d1, d2, d3, d4] }
  | _ => none }
def FnExactStretchLinesWrongFalsely : Prop := fnExactStretchLinesRow.holds Try.pinned (OpenSpec.ofChange fnExactStretchLinesWrong)

/-- 'laws.FnExactPlaceLines': WHATEVER THE INPUT: true; the input reads as it did. -/
def fnExactPlaceLinesSpec : ChangeSpec := { name := "fnExactPlaceLines", fn := fun _ => fun
  | [d1, d2, d3, d4] => { results := [.lit (.bool true)], args := [d1, d2, d3, d4] }
  | _ => none }
def fnExactPlaceLinesRow : OpenClaim := { program := "ytgelpfecfbagdaa", sum := "6a8914e5338049b2aa01ebfc8973c5df6caf62fab24d06a5118e8aec46968d05", func := "loop.example/g00972/laws.FnExactPlaceLines", spec := "fnExactPlaceLines", apart := false }
def FnExactPlaceLinesSaid : Prop := fnExactPlaceLinesRow.holds Try.pinned (OpenSpec.ofChange fnExactPlaceLinesSpec)

/-- ITS FALSE NEIGHBOUR: 'it returns false'. Refute it at one input. -/
def fnExactPlaceLinesWrong : ChangeSpec := { name := "fnExactPlaceLines", fn := fun _ => fun
  | [d1, d2, d3, d4] => { results := [.lit (.bool false)], args := [d1, d2, d3, d4] }
  | _ => none }
def FnExactPlaceLinesWrongFalsely : Prop := fnExactPlaceLinesRow.holds Try.pinned (OpenSpec.ofChange fnExactPlaceLinesWrong)

/-- 'laws.FnExactBaseOf': WHATEVER THE INPUT: true; the input reads as it did. -/
def fnExactBaseOfSpec : ChangeSpec := { name := "fnExactBaseOf", fn := fun _ => fun
  | [d] => { results := [.lit (.bool true)], args := [d] }
  | _ => none }
def fnExactBaseOfRow : OpenClaim := { program := "ytgelpfecfbagdaa", sum := "6a8914e5338049b2aa01ebfc8973c5df6caf62fab24d06a5118e8aec46968d05", func := "loop.example/g00972/laws.FnExactBaseOf", spec := "fnExactBaseOf", apart := false }
def FnExactBaseOfSaid : Prop := fnExactBaseOfRow.holds Try.pinned (OpenSpec.ofChange fnExactBaseOfSpec)

/-- ITS FALSE NEIGHBOUR: 'it returns false'. Refute it at one input. -/
def fnExactBaseOfWrong : ChangeSpec := { name := "fnExactBaseOf", fn := fun _ => fun
  | [d] => { results := [.lit (.bool false)], args := [d] }
  | _ => none }
def FnExactBaseOfWrongFalsely : Prop := fnExactBaseOfRow.holds Try.pinned (OpenSpec.ofChange fnExactBaseOfWrong)

/-- 'laws.FnExactPlaceAcross': WHATEVER THE INPUT: true; the input reads as it did. -/
def fnExactPlaceAcrossSpec : ChangeSpec := { name := "fnExactPlaceAcross", fn := fun _ => fun
  | [d1, d2, d3] => { results := [.lit (.bool true)], args := [d1, d2, d3] }
  | _ => none }
def fnExactPlaceAcrossRow : OpenClaim := { program := "ytgelpfecfbagdaa", sum := "6a8914e5338049b2aa01ebfc8973c5df6caf62fab24d06a5118e8aec46968d05", func := "loop.example/g00972/laws.FnExactPlaceAcross", spec := "fnExactPlaceAcross", apart := false }
def FnExactPlaceAcrossSaid : Prop := fnExactPlaceAcrossRow.holds Try.pinned (OpenSpec.ofChange fnExactPlaceAcrossSpec)

/-- ITS FALSE NEIGHBOUR: 'it returns false'. Refute it at one input. -/
def fnExactPlaceAcrossWrong : ChangeSpec := { name := "fnExactPlaceAcross", fn := fun _ => fun
  | [d1, d2, d3] => { results := [.lit (.bool false)], args := [d1, d2, d3] }
  | _ => none }
def FnExactPlaceAcrossWrongFalsely : Prop := fnExactPlaceAcrossRow.holds Try.pinned (OpenSpec.ofChange fnExactPlaceAcrossWrong)

/-- 'laws.FnExactCrossOf': WHATEVER THE INPUT: true; the input reads as it did. -/
def fnExactCrossOfSpec : ChangeSpec := { name := "fnExactCrossOf", fn := fun _ => fun
  | [d] => { results := [.lit (.bool true)], args := [d] }
  | _ => none }
def fnExactCrossOfRow : OpenClaim := { program := "ytgelpfecfbagdaa", sum := "6a8914e5338049b2aa01ebfc8973c5df6caf62fab24d06a5118e8aec46968d05", func := "loop.example/g00972/laws.FnExactCrossOf", spec := "fnExactCrossOf", apart := false }
def FnExactCrossOfSaid : Prop := fnExactCrossOfRow.holds Try.pinned (OpenSpec.ofChange fnExactCrossOfSpec)

/-- ITS FALSE NEIGHBOUR: 'it returns false'. Refute it at one input. -/
def fnExactCrossOfWrong : ChangeSpec := { name := "fnExactCrossOf", fn := fun _ => fun
  | [d] => { results := [.lit (.bool false)], args := [d] }
  | _ => none }
def FnExactCrossOfWrongFalsely : Prop := fnExactCrossOfRow.holds Try.pinned (OpenSpec.ofChange fnExactCrossOfWrong)

/- THE SECOND FORM. 'bulk': how many values and letters a reading holds, each counted each time it is reached (what is shared counts as often as it is met; a slice's spare places count too). A statement '..UptoSaid' is the law's where the arguments, and the package variables that the reading takes, are together of bulk at most 1048576: NARROWER than '..Said'. Prove '..Said' where nothing that the law and all that it calls make is longer than what came in: it says more and counts as full. Else prove '..UptoSaid'. A law counts once. -/
mutual
def uptoBulk {H : Type} : DataW H → Nat
  | .lit (.string bytes) => bytes.length + 1
  | .lit _ => 1
  | .nil => 1
  | .ptr d => uptoBulk d + 1
  | .slice elems spare => uptoBulkAll elems + uptoBulkAll spare + 1
  | .agg parts => uptoBulkAll parts + 1
  | .iface _ d => uptoBulk d + 1
  | .map entries => uptoBulkEntries entries + 1
  | .held _ => 1
def uptoBulkAll {H : Type} : List (DataW H) → Nat
  | [] => 0
  | d :: r => uptoBulk d + uptoBulkAll r
def uptoBulkEntries {H : Type} : List (Lit × DataW H) → Nat
  | [] => 0
  | x :: r => uptoBulkEntry x + uptoBulkEntries r
def uptoBulkEntry {H : Type} : Lit × DataW H → Nat
  | (.string bytes, d) => bytes.length + uptoBulk d + 1
  | (_, d) => uptoBulk d + 1
 end
def uptoSmall : (H : Type) → List (DataW H) → Bool := fun _ ds => decide (uptoBulkAll ds ≤ 1048576)
def OpenSpec.upto (s : _root_.Go.ChangeSpec) : _root_.Go.OpenSpec := { _root_.Go.OpenSpec.ofChange s with cond := some uptoSmall }

/-- 'laws.FnExactRuleFor', WHERE WHAT IT READS IS OF BULK AT MOST 1048576: true; the input reads as it did. -/
def fnExactRuleForUptoRow : OpenClaim := { program := "ytgelpfecfbagdaa", sum := "6a8914e5338049b2aa01ebfc8973c5df6caf62fab24d06a5118e8aec46968d05", func := "loop.example/g00972/laws.FnExactRuleFor", spec := "fnExactRuleFor", apart := false, narrowed := true }
def FnExactRuleForUptoSaid : Prop := fnExactRuleForUptoRow.holds Try.pinned (OpenSpec.upto fnExactRuleForSpec)

/-- 'laws.FnExactSameTable', WHERE WHAT IT READS IS OF BULK AT MOST 1048576: true; the input reads as it did. -/
def fnExactSameTableUptoRow : OpenClaim := { program := "ytgelpfecfbagdaa", sum := "6a8914e5338049b2aa01ebfc8973c5df6caf62fab24d06a5118e8aec46968d05", func := "loop.example/g00972/laws.FnExactSameTable", spec := "fnExactSameTable", apart := false, narrowed := true }
def FnExactSameTableUptoSaid : Prop := fnExactSameTableUptoRow.holds Try.pinned (OpenSpec.upto fnExactSameTableSpec)

/-- 'laws.FnExactTableOk', WHERE WHAT IT READS IS OF BULK AT MOST 1048576: true; the input reads as it did. -/
def fnExactTableOkUptoRow : OpenClaim := { program := "ytgelpfecfbagdaa", sum := "6a8914e5338049b2aa01ebfc8973c5df6caf62fab24d06a5118e8aec46968d05", func := "loop.example/g00972/laws.FnExactTableOk", spec := "fnExactTableOk", apart := false, narrowed := true }
def FnExactTableOkUptoSaid : Prop := fnExactTableOkUptoRow.holds Try.pinned (OpenSpec.upto fnExactTableOkSpec)

/-- 'laws.FnExactWantedOf', WHERE WHAT IT READS IS OF BULK AT MOST 1048576: true; the input reads as it did. -/
def fnExactWantedOfUptoRow : OpenClaim := { program := "ytgelpfecfbagdaa", sum := "6a8914e5338049b2aa01ebfc8973c5df6caf62fab24d06a5118e8aec46968d05", func := "loop.example/g00972/laws.FnExactWantedOf", spec := "fnExactWantedOf", apart := false, narrowed := true }
def FnExactWantedOfUptoSaid : Prop := fnExactWantedOfUptoRow.holds Try.pinned (OpenSpec.upto fnExactWantedOfSpec)

/-- 'laws.FnExactRoomsOf', WHERE WHAT IT READS IS OF BULK AT MOST 1048576: true; the input reads as it did. -/
def fnExactRoomsOfUptoRow : OpenClaim := { program := "ytgelpfecfbagdaa", sum := "6a8914e5338049b2aa01ebfc8973c5df6caf62fab24d06a5118e8aec46968d05", func := "loop.example/g00972/laws.FnExactRoomsOf", spec := "fnExactRoomsOf", apart := false, narrowed := true }
def FnExactRoomsOfUptoSaid : Prop := fnExactRoomsOfUptoRow.holds Try.pinned (OpenSpec.upto fnExactRoomsOfSpec)

/-- 'laws.FnExactCrossTotal', WHERE WHAT IT READS IS OF BULK AT MOST 1048576: true; the input reads as it did. -/
def fnExactCrossTotalUptoRow : OpenClaim := { program := "ytgelpfecfbagdaa", sum := "6a8914e5338049b2aa01ebfc8973c5df6caf62fab24d06a5118e8aec46968d05", func := "loop.example/g00972/laws.FnExactCrossTotal", spec := "fnExactCrossTotal", apart := false, narrowed := true }
def FnExactCrossTotalUptoSaid : Prop := fnExactCrossTotalUptoRow.holds Try.pinned (OpenSpec.upto fnExactCrossTotalSpec)

/-- 'laws.FnExactLeadOf', WHERE WHAT IT READS IS OF BULK AT MOST 1048576: true; the input reads as it did. -/
def fnExactLeadOfUptoRow : OpenClaim := { program := "ytgelpfecfbagdaa", sum := "6a8914e5338049b2aa01ebfc8973c5df6caf62fab24d06a5118e8aec46968d05", func := "loop.example/g00972/laws.FnExactLeadOf", spec := "fnExactLeadOf", apart := false, narrowed := true }
def FnExactLeadOfUptoSaid : Prop := fnExactLeadOfUptoRow.holds Try.pinned (OpenSpec.upto fnExactLeadOfSpec)

/-- 'laws.FnExactStretchLines', WHERE WHAT IT READS IS OF BULK AT MOST 1048576: true; the input reads as it did. -/
def fnExactStretchLinesUptoRow : OpenClaim := { program := "ytgelpfecfbagdaa", sum := "6a8914e5338049b2aa01ebfc8973c5df6caf62fab24d06a5118e8aec46968d05", func := "loop.example/g00972/laws.FnExactStretchLines", spec := "fnExactStretchLines", apart := false, narrowed := true }
def FnExactStretchLinesUptoSaid : Prop := fnExactStretchLinesUptoRow.holds Try.pinned (OpenSpec.upto fnExactStretchLinesSpec)

/-- 'laws.FnExactPlaceLines', WHERE WHAT IT READS IS OF BULK AT MOST 1048576: true; the input reads as it did. -/
def fnExactPlaceLinesUptoRow : OpenClaim := { program := "ytgelpfecfbagdaa", sum := "6a8914e5338049b2aa01ebfc8973c5df6caf62fab24d06a5118e8aec46968d05", func := "loop.example/g00972/laws.FnExactPlaceLines", spec := "fnExactPlaceLines", apart := false, narrowed := true }
def FnExactPlaceLinesUptoSaid : Prop := fnExactPlaceLinesUptoRow.holds Try.pinned (OpenSpec.upto fnExactPlaceLinesSpec)

/-- 'laws.FnExactBaseOf', WHERE WHAT IT READS IS OF BULK AT MOST 1048576: true; the input reads as it did. -/
def fnExactBaseOfUptoRow : OpenClaim := { program := "ytgelpfecfbagdaa", sum := "6a8914e5338049b2aa01ebfc8973c5df6caf62fab24d06a5118e8aec46968d05", func := "loop.example/g00972/laws.FnExactBaseOf", spec := "fnExactBaseOf", apart := false, narrowed := true }
def FnExactBaseOfUptoSaid : Prop := fnExactBaseOfUptoRow.holds Try.pinned (OpenSpec.upto fnExactBaseOfSpec)

/-- 'laws.FnExactPlaceAcross', WHERE WHAT IT READS IS OF BULK AT MOST 1048576: true; the input reads as it did. -/
def fnExactPlaceAcrossUptoRow : OpenClaim := { program := "ytgelpfecfbagdaa", sum := "6a8914e5338049b2aa01ebfc8973c5df6caf62fab24d06a5118e8aec46968d05", func := "loop.example/g00972/laws.FnExactPlaceAcross", spec := "fnExactPlaceAcross", apart := false, narrowed := true }
def FnExactPlaceAcrossUptoSaid : Prop := fnExactPlaceAcrossUptoRow.holds Try.pinned (OpenSpec.upto fnExactPlaceAcrossSpec)

/-- 'laws.FnExactCrossOf', WHERE WHAT IT READS IS OF BULK AT MOST 1048576: true; the input reads as it did. -/
def fnExactCrossOfUptoRow : OpenClaim := { program := "ytgelpfecfbagdaa", sum := "6a8914e5338049b2aa01ebfc8973c5df6caf62fab24d06a5118e8aec46968d05", func := "loop.example/g00972/laws.FnExactCrossOf", spec := "fnExactCrossOf", apart := false, narrowed := true }
def FnExactCrossOfUptoSaid : Prop := fnExactCrossOfUptoRow.holds Try.pinned (OpenSpec.upto fnExactCrossOfSpec)

end Rows
end Go.Proofs.Ytgelpfecfbagdaa
