/-
  No cell of these rows narrows 'for every input' (looked for: loops, veiled, ifaces, maps, wideKeys, modest, calm, conditions, laid).
  DERIVED. THE GIVEN ROWS OF THIS SEAT. 7 by the template 'for every input the law returns true; each argument reads behind the call as it read before'; 0 by the template 'total and deterministic' (their statements: YtmipjhnjlpmidaaTotals.lean).
  GIVEN WITH THE SEED: the statements are not yours to turn. If you find one false, say at which input.
  Laid BY PROGRAM, IN A SANDBOX (cutbox-rows.mjs): the forced cells as the released guide's own fill.sh prints them over the translation e9d8878d9f760ca8… (all of the seat's roots in one cut). By AI agents, Wed Nov 11 2026. No macro, syntax, notation, axiom, sorry.
-/
import Derived.Test.YtmipjhnjlpmidaaChecked
import GoSem.Claim
import GoSem.ClaimJoined
import GoSem.ClaimMapViews
import Derived.JoinedTies
import Derived.KernelRfl
namespace Go.Proofs.Ytmipjhnjlpmidaa
/- THE CELL 'sum', in the pinned program and in every row, IS THE sha256 OF THE DUMP (.gsa) THAT YtmipjhnjlpmidaaProg.lean LOADS. Nothing in Lean hashes anything: it is a label: what it is worth is what the hold of that sum in a sandbox is worth. -/
noncomputable def Try.pinned : Pinned := { name := "ytmipjhnjlpmidaa", sum := "e9d8878d9f760ca84020c4d7db7f1d51cdc96ab47fb306fcddd822175d145038", checked := Try.checked }
namespace Rows
def none {H : Type} : Left H := { results := [], args := [] }

/-- 'laws.FnExactFlexPasses': WHATEVER THE INPUT: true; the input reads as it did. -/
def fnExactFlexPassesSpec : ChangeSpec := { name := "fnExactFlexPasses", fn := fun _ => fun
  | [d1, d2, d3] => { results := [.lit (.bool true)], args := [d1, d2, d3] }
  | _ => none }
def fnExactFlexPassesRow : OpenClaim := { program := "ytmipjhnjlpmidaa", sum := "e9d8878d9f760ca84020c4d7db7f1d51cdc96ab47fb306fcddd822175d145038", func := "loop.example/g00972/laws.FnExactFlexPasses", spec := "fnExactFlexPasses", apart := false }
def FnExactFlexPassesSaid : Prop := fnExactFlexPassesRow.holds Try.pinned (OpenSpec.ofChange fnExactFlexPassesSpec)

/-- ITS FALSE NEIGHBOUR: 'it returns false'. Refute it at one input. -/
def fnExactFlexPassesWrong : ChangeSpec := { name := "fnExactFlexPasses", fn := fun _ => fun
  | [d1, d2, d3] => { results := [.lit (.bool false)], args := [d1, d2, d3] }
  | _ => none }
def FnExactFlexPassesWrongFalsely : Prop := fnExactFlexPassesRow.holds Try.pinned (OpenSpec.ofChange fnExactFlexPassesWrong)

/-- 'laws.FnExactFlexLine': WHATEVER THE INPUT: true; the input reads as it did. -/
def fnExactFlexLineSpec : ChangeSpec := { name := "fnExactFlexLine", fn := fun _ => fun
  | [d1, d2, d3] => { results := [.lit (.bool true)], args := [d1, d2, d3] }
  | _ => none }
def fnExactFlexLineRow : OpenClaim := { program := "ytmipjhnjlpmidaa", sum := "e9d8878d9f760ca84020c4d7db7f1d51cdc96ab47fb306fcddd822175d145038", func := "loop.example/g00972/laws.FnExactFlexLine", spec := "fnExactFlexLine", apart := false }
def FnExactFlexLineSaid : Prop := fnExactFlexLineRow.holds Try.pinned (OpenSpec.ofChange fnExactFlexLineSpec)

/-- ITS FALSE NEIGHBOUR: 'it returns false'. Refute it at one input. -/
def fnExactFlexLineWrong : ChangeSpec := { name := "fnExactFlexLine", fn := fun _ => fun
  | [d1, d2, d3] => { results := [.lit (.bool false)], args := [d1, d2, d3] }
  | _ => none }
def FnExactFlexLineWrongFalsely : Prop := fnExactFlexLineRow.holds Try.pinned (OpenSpec.ofChange fnExactFlexLineWrong)

/-- 'laws.FnExactLineSizes': WHATEVER THE INPUT: true; the input reads as it did. -/
def fnExactLineSizesSpec : ChangeSpec := { name := "fnExactLineSizes", fn := fun _ => fun
  | [d1, d2, d3, d4, d5] => { results := [.lit (.bool true)], args := [d1, d2, d3, d4, d5] }
  | _ => none }
def fnExactLineSizesRow : OpenClaim := { program := "ytmipjhnjlpmidaa", sum := "e9d8878d9f760ca84020c4d7db7f1d51cdc96ab47fb306fcddd822175d145038", func := "loop.example/g00972/laws.FnExactLineSizes", spec := "fnExactLineSizes", apart := false }
def FnExactLineSizesSaid : Prop := fnExactLineSizesRow.holds Try.pinned (OpenSpec.ofChange fnExactLineSizesSpec)

/-- ITS FALSE NEIGHBOUR: 'it returns false'. Refute it at one input. -/
def fnExactLineSizesWrong : ChangeSpec := { name := "fnExactLineSizes", fn := fun _ => fun
  | [d1, d2, d3, d4, d5] => { results := [.lit (.bool false)], args := [d1, d2, d3, d4, d5] }
  | _ => none }
def FnExactLineSizesWrongFalsely : Prop := fnExactLineSizesRow.holds Try.pinned (OpenSpec.ofChange fnExactLineSizesWrong)

/-- 'laws.FnLead': WHATEVER THE INPUT: true; the input reads as it did. -/
def fnLeadSpec : ChangeSpec := { name := "fnLead", fn := fun _ => fun
  | [d] => { results := [.lit (.bool true)], args := [d] }
  | _ => none }
def fnLeadRow : OpenClaim := { program := "ytmipjhnjlpmidaa", sum := "e9d8878d9f760ca84020c4d7db7f1d51cdc96ab47fb306fcddd822175d145038", func := "loop.example/g00972/laws.FnLead", spec := "fnLead", apart := false }
def FnLeadSaid : Prop := fnLeadRow.holds Try.pinned (OpenSpec.ofChange fnLeadSpec)

/-- ITS FALSE NEIGHBOUR: 'it returns false'. Refute it at one input. -/
def fnLeadWrong : ChangeSpec := { name := "fnLead", fn := fun _ => fun
  | [d] => { results := [.lit (.bool false)], args := [d] }
  | _ => none }
def FnLeadWrongFalsely : Prop := fnLeadRow.holds Try.pinned (OpenSpec.ofChange fnLeadWrong)

/-- 'laws.FnMiddle': WHATEVER THE INPUT: true; the input reads as it did. -/
def fnMiddleSpec : ChangeSpec := { name := "fnMiddle", fn := fun _ => fun
  | [d] => { results := [.lit (.bool true)], args := [d] }
  | _ => none }
def fnMiddleRow : OpenClaim := { program := "ytmipjhnjlpmidaa", sum := "e9d8878d9f760ca84020c4d7db7f1d51cdc96ab47fb306fcddd822175d145038", func := "loop.example/g00972/laws.FnMiddle", spec := "fnMiddle", unfollowed := true, recurses := true, apart := false }
def FnMiddleSaid : Prop := fnMiddleRow.holds Try.pinned (OpenSpec.ofChange fnMiddleSpec)

/-- ITS FALSE NEIGHBOUR: 'it returns false'. Refute it at one input. -/
def fnMiddleWrong : ChangeSpec := { name := "fnMiddle", fn := fun _ => fun
  | [d] => { results := [.lit (.bool false)], args := [d] }
  | _ => none }
def FnMiddleWrongFalsely : Prop := fnMiddleRow.holds Try.pinned (OpenSpec.ofChange fnMiddleWrong)

/-- 'laws.FnAligned': WHATEVER THE INPUT: true; the input reads as it did. -/
def fnAlignedSpec : ChangeSpec := { name := "fnAligned", fn := fun _ => fun
  | [d] => { results := [.lit (.bool true)], args := [d] }
  | _ => none }
def fnAlignedRow : OpenClaim := { program := "ytmipjhnjlpmidaa", sum := "e9d8878d9f760ca84020c4d7db7f1d51cdc96ab47fb306fcddd822175d145038", func := "loop.example/g00972/laws.FnAligned", spec := "fnAligned", apart := false }
def FnAlignedSaid : Prop := fnAlignedRow.holds Try.pinned (OpenSpec.ofChange fnAlignedSpec)

/-- ITS FALSE NEIGHBOUR: 'it returns false'. Refute it at one input. -/
def fnAlignedWrong : ChangeSpec := { name := "fnAligned", fn := fun _ => fun
  | [d] => { results := [.lit (.bool false)], args := [d] }
  | _ => none }
def FnAlignedWrongFalsely : Prop := fnAlignedRow.holds Try.pinned (OpenSpec.ofChange fnAlignedWrong)

/-- 'laws.FnFair': WHATEVER THE INPUT: true; the input reads as it did. -/
def fnFairSpec : ChangeSpec := { name := "fnFair", fn := fun _ => fun
  | [d] => { results := [.lit (.bool true)], args := [d] }
  | _ => none }
def fnFairRow : OpenClaim := { program := "ytmipjhnjlpmidaa", sum := "e9d8878d9f760ca84020c4d7db7f1d51cdc96ab47fb306fcddd822175d145038", func := "loop.example/g00972/laws.FnFair", spec := "fnFair", apart := false }
def FnFairSaid : Prop := fnFairRow.holds Try.pinned (OpenSpec.ofChange fnFairSpec)

/-- ITS FALSE NEIGHBOUR: 'it returns false'. Refute it at one input. -/
def fnFairWrong : ChangeSpec := { name := "fnFair", fn := fun _ => fun
  | [d] => { results := [.lit (.bool false)], args := [d] }
  | _ => none }
def FnFairWrongFalsely : Prop := fnFairRow.holds Try.pinned (OpenSpec.ofChange fnFairWrong)

/- THE SECOND FORM. 'bulk': how many values and letters a reading holds, each counted each time it is reached (what is shared counts as often as it is met; a slice's spare places count too). A statement '..UptoSaid' is the law's where the arguments, and the package variables that the reading takes, are together of bulk at most 1048576: NARROWER than '..Said'. Prove '..Said' where nothing that the law and all that it calls make is longer than what came in: it says more and counts as full. Else prove '..UptoSaid'. A law counts once. -/
mutual
def uptoBulk {H : Type} : DataW H → Nat
  | .lit (.string bytes) => bytes.length + 1
  | .lit _ => 1
  | .nil => 1
  | .ptr d => uptoBulk d + 1
  | .slice elems spare => uptoBulkAll elems + uptoBulkAll spare + 1
  | .agg parts => uptoBulkAll parts + 1
  | .iface _ d => uptoBulk d + 1
  | .map entries => uptoBulkEntries entries + 1
  | .held _ => 1
def uptoBulkAll {H : Type} : List (DataW H) → Nat
  | [] => 0
  | d :: r => uptoBulk d + uptoBulkAll r
def uptoBulkEntries {H : Type} : List (Lit × DataW H) → Nat
  | [] => 0
  | x :: r => uptoBulkEntry x + uptoBulkEntries r
def uptoBulkEntry {H : Type} : Lit × DataW H → Nat
  | (.string bytes, d) => bytes.length + uptoBulk d + 1
  | (_, d) => uptoBulk d + 1
 end
def uptoSmall : (H : Type) → List (DataW H) → Bool := fun _ ds => decide (uptoBulkAll ds ≤ 1048576)
def OpenSpec.upto (s : _root_.Go.ChangeSpec) : _root_.Go.OpenSpec := { _root_.Go.OpenSpec.ofChange s with cond := some uptoSmall }

/-- 'laws.FnExactFlexPasses', WHERE WHAT IT READS IS OF BULK AT MOST 1048576: true; the input reads as it did. -/
def fnExactFlexPassesUptoRow : OpenClaim := { program := "ytmipjhnjlpmidaa", sum := "e9d8878d9f760ca84020c4d7db7f1d51cdc96ab47fb306fcddd822175d145038", func := "loop.example/g00972/laws.FnExactFlexPasses", spec := "fnExactFlexPasses", apart := false, narrowed := true }
def FnExactFlexPassesUptoSaid : Prop := fnExactFlexPassesUptoRow.holds Try.pinned (OpenSpec.upto fnExactFlexPassesSpec)

/-- 'laws.FnExactFlexLine', WHERE WHAT IT READS IS OF BULK AT MOST 1048576: true; the input reads as it did. -/
def fnExactFlexLineUptoRow : OpenClaim := { program := "ytmipjhnjlpmidaa", sum := "e9d8878d9f760ca84020c4d7db7f1d51cdc96ab47fb306fcddd822175d145038", func := "loop.example/g00972/laws.FnExactFlexLine", spec := "fnExactFlexLine", apart := false, narrowed := true }
def FnExactFlexLineUptoSaid : Prop := fnExactFlexLineUptoRow.holds Try.pinned (OpenSpec.upto fnExactFlexLineSpec)

/-- 'laws.FnExactLineSizes', WHERE WHAT IT READS IS OF BULK AT MOST 1048576: true; the input reads as it did. -/
def fnExactLineSizesUptoRow : OpenClaim := { program := "ytmipjhnjlpmidaa", sum := "e9d8878d9f760ca84020c4d7db7f1d51cdc96ab47fb306fcddd822175d145038", func := "loop.example/g00972/laws.FnExactLineSizes", spec := "fnExactLineSizes", apart := false, narrowed := true }
def FnExactLineSizesUptoSaid : Prop := fnExactLineSizesUptoRow.holds Try.pinned (OpenSpec.upto fnExactLineSizesSpec)

/-- 'laws.FnLead', WHERE WHAT IT READS IS OF BULK AT MOST 1048576: true; the input reads as it did. -/
def fnLeadUptoRow : OpenClaim := { program := "ytmipjhnjlpmidaa", sum := "e9d8878d9f760ca84020c4d7db7f1d51cdc96ab47fb306fcddd822175d145038", func := "loop.example/g00972/laws.FnLead", spec := "fnLead", apart := false, narrowed := true }
def FnLeadUptoSaid : Prop := fnLeadUptoRow.holds Try.pinned (OpenSpec.upto fnLeadSpec)

/-- 'laws.FnMiddle', WHERE WHAT IT READS IS OF BULK AT MOST 1048576: true; the input reads as it did. -/
def fnMiddleUptoRow : OpenClaim := { program := "ytmipjhnjlpmidaa", sum := "e9d8878d9f760ca84020c4d7db7f1d51cdc96ab47fb306fcddd822175d145038", func := "loop.example/g00972/laws.FnMiddle", spec := "fnMiddle", unfollowed := true, recurses := true, apart := false, narrowed := true }
def FnMiddleUptoSaid : Prop := fnMiddleUptoRow.holds Try.pinned (OpenSpec.upto fnMiddleSpec)

/-- 'laws.FnAligned', WHERE WHAT IT READS IS OF BULK AT MOST 1048576: true; the input reads as it did. -/
def fnAlignedUptoRow : OpenClaim := { program := "ytmipjhnjlpmidaa", sum := "e9d8878d9f760ca84020c4d7db7f1d51cdc96ab47fb306fcddd822175d145038", func := "loop.example/g00972/laws.FnAligned", spec := "fnAligned", apart := false, narrowed := true }
def FnAlignedUptoSaid : Prop := fnAlignedUptoRow.holds Try.pinned (OpenSpec.upto fnAlignedSpec)

/-- 'laws.FnFair', WHERE WHAT IT READS IS OF BULK AT MOST 1048576: true; the input reads as it did. -/
def fnFairUptoRow : OpenClaim := { program := "ytmipjhnjlpmidaa", sum := "e9d8878d9f760ca84020c4d7db7f1d51cdc96ab47fb306fcddd822175d145038", func := "loop.example/g00972/laws.FnFair", spec := "fnFair", apart := false, narrowed := true }
def FnFairUptoSaid : Prop := fnFairUptoRow.holds Try.pinned (OpenSpec.upto fnFairSpec)

end Rows
end Go.Proofs.Ytmipjhnjlpmidaa
