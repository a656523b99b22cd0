/-
  No cell of these rows narrows 'for every input' (looked for: loops, veiled, ifaces, maps, wideKeys, modest, calm, conditions, laid).
  DERIVED. THE GIVEN ROWS OF THIS SEAT. 7 by the template 'for every input the law returns true; each argument reads behind the call as it read before'; 0 by the template 'total and deterministic' (their statements: YtdgjiafognbhfaaTotals.lean).
  GIVEN WITH THE SEED: the statements are not yours to turn. If you find one false, say at which input.
  Laid BY PROGRAM, IN A SANDBOX (cutbox-rows.mjs): the forced cells as the released guide's own fill.sh prints them over the translation 325e9074536e9e67… (all of the seat's roots in one cut). By AI agents, Wed Nov 11 2026. No macro, syntax, notation, axiom, sorry.
-/
import Derived.Test.YtdgjiafognbhfaaChecked
import GoSem.Claim
import GoSem.ClaimJoined
import GoSem.ClaimMapViews
import Derived.JoinedTies
import Derived.KernelRfl
namespace Go.Proofs.Ytdgjiafognbhfaa
/- THE CELL 'sum', in the pinned program and in every row, IS THE sha256 OF THE DUMP (.gsa) THAT YtdgjiafognbhfaaProg.lean LOADS. Nothing in Lean hashes anything: it is a label: what it is worth is what the hold of that sum in a sandbox is worth. -/
noncomputable def Try.pinned : Pinned := { name := "ytdgjiafognbhfaa", sum := "325e9074536e9e673829d40854132cccb8e563015db73ae0ba72e8066a08d800", checked := Try.checked }
namespace Rows
def none {H : Type} : Left H := { results := [], args := [] }

/-- 'laws.FnExactDepthOf': WHATEVER THE INPUT: true; the input reads as it did. -/
def fnExactDepthOfSpec : ChangeSpec := { name := "fnExactDepthOf", fn := fun _ => fun
  | [d1, d2] => { results := [.lit (.bool true)], args := [d1, d2] }
  | _ => none }
def fnExactDepthOfRow : OpenClaim := { program := "ytdgjiafognbhfaa", sum := "325e9074536e9e673829d40854132cccb8e563015db73ae0ba72e8066a08d800", func := "loop.example/g00972/laws.FnExactDepthOf", spec := "fnExactDepthOf", apart := false }
def FnExactDepthOfSaid : Prop := fnExactDepthOfRow.holds Try.pinned (OpenSpec.ofChange fnExactDepthOfSpec)

/-- ITS FALSE NEIGHBOUR: 'it returns false'. Refute it at one input. -/
def fnExactDepthOfWrong : ChangeSpec := { name := "fnExactDepthOf", fn := fun _ => fun
  | [d1, d2] => { results := [.lit (.bool false)], args := [d1, d2] }
  | _ => none }
def FnExactDepthOfWrongFalsely : Prop := fnExactDepthOfRow.holds Try.pinned (OpenSpec.ofChange fnExactDepthOfWrong)

/-- 'laws.FnExactIsUnder': WHATEVER THE INPUT: true; the input reads as it did. -/
def fnExactIsUnderSpec : ChangeSpec := { name := "fnExactIsUnder", fn := fun _ => fun
  | [d1, d2, d3] => { results := [.lit (.bool true)], args := [d1, d2, d3] }
  | _ => none }
def fnExactIsUnderRow : OpenClaim := { program := "ytdgjiafognbhfaa", sum := "325e9074536e9e673829d40854132cccb8e563015db73ae0ba72e8066a08d800", func := "loop.example/g00972/laws.FnExactIsUnder", spec := "fnExactIsUnder", apart := false }
def FnExactIsUnderSaid : Prop := fnExactIsUnderRow.holds Try.pinned (OpenSpec.ofChange fnExactIsUnderSpec)

/-- ITS FALSE NEIGHBOUR: 'it returns false'. Refute it at one input. -/
def fnExactIsUnderWrong : ChangeSpec := { name := "fnExactIsUnder", fn := fun _ => fun
  | [d1, d2, d3] => { results := [.lit (.bool false)], args := [d1, d2, d3] }
  | _ => none }
def FnExactIsUnderWrongFalsely : Prop := fnExactIsUnderRow.holds Try.pinned (OpenSpec.ofChange fnExactIsUnderWrong)

/-- 'laws.FnExactTreeOk': WHATEVER THE INPUT: true; the input reads as it did. -/
def fnExactTreeOkSpec : ChangeSpec := { name := "fnExactTreeOk", fn := fun _ => fun
  | [d] => { results := [.lit (.bool true)], args := [d] }
  | _ => none }
def fnExactTreeOkRow : OpenClaim := { program := "ytdgjiafognbhfaa", sum := "325e9074536e9e673829d40854132cccb8e563015db73ae0ba72e8066a08d800", func := "loop.example/g00972/laws.FnExactTreeOk", spec := "fnExactTreeOk", apart := false }
def FnExactTreeOkSaid : Prop := fnExactTreeOkRow.holds Try.pinned (OpenSpec.ofChange fnExactTreeOkSpec)

/-- ITS FALSE NEIGHBOUR: 'it returns false'. Refute it at one input. -/
def fnExactTreeOkWrong : ChangeSpec := { name := "fnExactTreeOk", fn := fun _ => fun
  | [d] => { results := [.lit (.bool false)], args := [d] }
  | _ => none }
def FnExactTreeOkWrongFalsely : Prop := fnExactTreeOkRow.holds Try.pinned (OpenSpec.ofChange fnExactTreeOkWrong)

/-- 'laws.FnExactRootOf': WHATEVER THE INPUT: true; the input reads as it did. -/
def fnExactRootOfSpec : ChangeSpec := { name := "fnExactRootOf", fn := fun _ => fun
  | [d1, d2] => { results := [.lit (.bool true)], args := [d1, d2] }
  | _ => none }
def fnExactRootOfRow : OpenClaim := { program := "ytdgjiafognbhfaa", sum := "325e9074536e9e673829d40854132cccb8e563015db73ae0ba72e8066a08d800", func := "loop.example/g00972/laws.FnExactRootOf", spec := "fnExactRootOf", apart := false }
def FnExactRootOfSaid : Prop := fnExactRootOfRow.holds Try.pinned (OpenSpec.ofChange fnExactRootOfSpec)

/-- ITS FALSE NEIGHBOUR: 'it returns false'. Refute it at one input. -/
def fnExactRootOfWrong : ChangeSpec := { name := "fnExactRootOf", fn := fun _ => fun
  | [d1, d2] => { results := [.lit (.bool false)], args := [d1, d2] }
  | _ => none }
def FnExactRootOfWrongFalsely : Prop := fnExactRootOfRow.holds Try.pinned (OpenSpec.ofChange fnExactRootOfWrong)

/-- 'laws.FnExactIsGone': WHATEVER THE INPUT: true; the input reads as it did. -/
def fnExactIsGoneSpec : ChangeSpec := { name := "fnExactIsGone", fn := fun _ => fun
  | [d1, d2] => { results := [.lit (.bool true)], args := [d1, d2] }
  | _ => none }
def fnExactIsGoneRow : OpenClaim := { program := "ytdgjiafognbhfaa", sum := "325e9074536e9e673829d40854132cccb8e563015db73ae0ba72e8066a08d800", func := "loop.example/g00972/laws.FnExactIsGone", spec := "fnExactIsGone", apart := false }
def FnExactIsGoneSaid : Prop := fnExactIsGoneRow.holds Try.pinned (OpenSpec.ofChange fnExactIsGoneSpec)

/-- ITS FALSE NEIGHBOUR: 'it returns false'. Refute it at one input. -/
def fnExactIsGoneWrong : ChangeSpec := { name := "fnExactIsGone", fn := fun _ => fun
  | [d1, d2] => { results := [.lit (.bool false)], args := [d1, d2] }
  | _ => none }
def FnExactIsGoneWrongFalsely : Prop := fnExactIsGoneRow.holds Try.pinned (OpenSpec.ofChange fnExactIsGoneWrong)

/-- 'laws.FnExactAllUnder': WHATEVER THE INPUT: true; the input reads as it did. -/
def fnExactAllUnderSpec : ChangeSpec := { name := "fnExactAllUnder", fn := fun _ => fun
  | [d1, d2] => { results := [.lit (.bool true)], args := [d1, d2] }
  | _ => none }
def fnExactAllUnderRow : OpenClaim := { program := "ytdgjiafognbhfaa", sum := "325e9074536e9e673829d40854132cccb8e563015db73ae0ba72e8066a08d800", func := "loop.example/g00972/laws.FnExactAllUnder", spec := "fnExactAllUnder", recurses := true, apart := false }
def FnExactAllUnderSaid : Prop := fnExactAllUnderRow.holds Try.pinned (OpenSpec.ofChange fnExactAllUnderSpec)

/-- ITS FALSE NEIGHBOUR: 'it returns false'. Refute it at one input. -/
def fnExactAllUnderWrong : ChangeSpec := { name := "fnExactAllUnder", fn := fun _ => fun
  | [d1, d2] => { results := [.lit (.bool false)], args := [d1, d2] }
  | _ => none }
def FnExactAllUnderWrongFalsely : Prop := fnExactAllUnderRow.holds Try.pinned (OpenSpec.ofChange fnExactAllUnderWrong)

/-- 'laws.FnExactApartKids': WHATEVER THE INPUT: true; the input reads as it did. -/
def fnExactApartKidsSpec : ChangeSpec := { name := "fnExactApartKids", fn := fun _ => fun
  | [d1, d2] => { results := [.lit (.bool true)], args := [d1, d2] }
  | _ => none }
def fnExactApartKidsRow : OpenClaim := { program := "ytdgjiafognbhfaa", sum := "325e9074536e9e673829d40854132cccb8e563015db73ae0ba72e8066a08d800", func := "loop.example/g00972/laws.FnExactApartKids", spec := "fnExactApartKids", apart := false }
def FnExactApartKidsSaid : Prop := fnExactApartKidsRow.holds Try.pinned (OpenSpec.ofChange fnExactApartKidsSpec)

/-- ITS FALSE NEIGHBOUR: 'it returns false'. Refute it at one input. -/
def fnExactApartKidsWrong : ChangeSpec := { name := "fnExactApartKids", fn := fun _ => fun
  | [d1, d2] => { results := [.lit (.bool false)], args := [d1, d2] }
  | _ => none }
def FnExactApartKidsWrongFalsely : Prop := fnExactApartKidsRow.holds Try.pinned (OpenSpec.ofChange fnExactApartKidsWrong)

/- THE SECOND FORM. 'bulk': how many values and letters a reading holds, each counted each time it is reached (what is shared counts as often as it is met; a slice's spare places count too). A statement '..UptoSaid' is the law's where the arguments, and the package variables that the reading takes, are together of bulk at most 1048576: NARROWER than '..Said'. Prove '..Said' where nothing that the law and all that it calls make is longer than what came in: it says more and counts as full. Else prove '..UptoSaid'. A law counts once. -/
mutual
def uptoBulk {H : Type} : DataW H → Nat
  | .lit (.string bytes) => bytes.length + 1
  | .lit _ => 1
  | .nil => 1
  | .ptr d => uptoBulk d + 1
  | .slice elems spare => uptoBulkAll elems + uptoBulkAll spare + 1
  | .agg parts => uptoBulkAll parts + 1
  | .iface _ d => uptoBulk d + 1
  | .map entries => uptoBulkEntries entries + 1
  | .held _ => 1
def uptoBulkAll {H : Type} : List (DataW H) → Nat
  | [] => 0
  | d :: r => uptoBulk d + uptoBulkAll r
def uptoBulkEntries {H : Type} : List (Lit × DataW H) → Nat
  | [] => 0
  | x :: r => uptoBulkEntry x + uptoBulkEntries r
def uptoBulkEntry {H : Type} : Lit × DataW H → Nat
  | (.string bytes, d) => bytes.length + uptoBulk d + 1
  | (_, d) => uptoBulk d + 1
 end
def uptoSmall : (H : Type) → List (DataW H) → Bool := fun _ ds => decide (uptoBulkAll ds ≤ 1048576)
def OpenSpec.upto (s : _root_.Go.ChangeSpec) : _root_.Go.OpenSpec := { _root_.Go.OpenSpec.ofChange s with cond := some uptoSmall }

/-- 'laws.FnExactDepthOf', WHERE WHAT IT READS IS OF BULK AT MOST 1048576: true; the input reads as it did. -/
def fnExactDepthOfUptoRow : OpenClaim := { program := "ytdgjiafognbhfaa", sum := "325e9074536e9e673829d40854132cccb8e563015db73ae0ba72e8066a08d800", func := "loop.example/g00972/laws.FnExactDepthOf", spec := "fnExactDepthOf", apart := false, narrowed := true }
def FnExactDepthOfUptoSaid : Prop := fnExactDepthOfUptoRow.holds Try.pinned (OpenSpec.upto fnExactDepthOfSpec)

/-- 'laws.FnExactIsUnder', WHERE WHAT IT READS IS OF BULK AT MOST 1048576: true; the input reads as it did. -/
def fnExactIsUnderUptoRow : OpenClaim := { program := "ytdgjiafognbhfaa", sum := "325e9074536e9e673829d40854132cccb8e563015db73ae0ba72e8066a08d800", func := "loop.example/g00972/laws.FnExactIsUnder", spec := "fnExactIsUnder", apart := false, narrowed := true }
def FnExactIsUnderUptoSaid : Prop := fnExactIsUnderUptoRow.holds Try.pinned (OpenSpec.upto fnExactIsUnderSpec)

/-- 'laws.FnExactTreeOk', WHERE WHAT IT READS IS OF BULK AT MOST 1048576: true; the input reads as it did. -/
def fnExactTreeOkUptoRow : OpenClaim := { program := "ytdgjiafognbhfaa", sum := "325e9074536e9e673829d40854132cccb8e563015db73ae0ba72e8066a08d800", func := "loop.example/g00972/laws.FnExactTreeOk", spec := "fnExactTreeOk", apart := false, narrowed := true }
def FnExactTreeOkUptoSaid : Prop := fnExactTreeOkUptoRow.holds Try.pinned (OpenSpec.upto fnExactTreeOkSpec)

/-- 'laws.FnExactRootOf', WHERE WHAT IT READS IS OF BULK AT MOST 1048576: true; the input reads as it did. -/
def fnExactRootOfUptoRow : OpenClaim := { program := "ytdgjiafognbhfaa", sum := "325e9074536e9e673829d40854132cccb8e563015db73ae0ba72e8066a08d800", func := "loop.example/g00972/laws.FnExactRootOf", spec := "fnExactRootOf", apart := false, narrowed := true }
def FnExactRootOfUptoSaid : Prop := fnExactRootOfUptoRow.holds Try.pinned (OpenSpec.upto fnExactRootOfSpec)

/-- 'laws.FnExactIsGone', WHERE WHAT IT READS IS OF BULK AT MOST 1048576: true; the input reads as it did. -/
def fnExactIsGoneUptoRow : OpenClaim := { program := "ytdgjiafognbhfaa", sum := "325e9074536e9e673829d40854132cccb8e563015db73ae0ba72e8066a08d800", func := "loop.example/g00972/laws.FnExactIsGone", spec := "fnExactIsGone", apart := false, narrowed := true }
def FnExactIsGoneUptoSaid : Prop := fnExactIsGoneUptoRow.holds Try.pinned (OpenSpec.upto fnExactIsGoneSpec)

/-- 'laws.FnExactAllUnder', WHERE WHAT IT READS IS OF BULK AT MOST 1048576: true; the input reads as it did. -/
def fnExactAllUnderUptoRow : OpenClaim := { program := "ytdgjiafognbhfaa", sum := "325e9074536e9e673829d40854132cccb8e563015db73ae0ba72e8066a08d800", func := "loop.example/g00972/laws.FnExactAllUnder", spec := "fnExactAllUnder", recurses := true, apart := false, narrowed := true }
def FnExactAllUnderUptoSaid : Prop := fnExactAllUnderUptoRow.holds Try.pinned (OpenSpec.upto fnExactAllUnderSpec)

/-- 'laws.FnExactApartKids', WHERE WHAT IT READS IS OF BULK AT MOST 1048576: true; the input reads as it did. -/
def fnExactApartKidsUptoRow : OpenClaim := { program := "ytdgjiafognbhfaa", sum := "325e9074536e9e673829d40854132cccb8e563015db73ae0ba72e8066a08d800", func := "loop.example/g00972/laws.FnExactApartKids", spec := "fnExactApartKids", apart := false, narrowed := true }
def FnExactApartKidsUptoSaid : Prop := fnExactApartKidsUptoRow.holds Try.pinned (OpenSpec.upto fnExactApartKidsSpec)

end Rows
end Go.Proofs.Ytdgjiafognbhfaa
