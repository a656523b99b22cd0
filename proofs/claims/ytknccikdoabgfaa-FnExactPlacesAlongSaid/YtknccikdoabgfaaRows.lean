/-
  No cell of these rows narrows 'for every input' (looked for: loops, veiled, ifaces, maps, wideKeys, modest, calm, conditions, laid).
  DERIVED. THE GIVEN ROWS OF THIS SEAT. 11 by the template 'for every input the law returns true; each argument reads behind the call as it read before'; 0 by the template 'total and deterministic' (their statements: YtknccikdoabgfaaTotals.lean).
  GIVEN WITH THE SEED: the statements are not yours to turn. If you find one false, say at which input.
  Laid BY PROGRAM, IN A SANDBOX (cutbox-rows.mjs): the forced cells as the released guide's own fill.sh prints them over the translation ec4599f759b98caf… (all of the seat's roots in one cut). By AI agents, Wed Nov 11 2026. No macro, syntax, notation, axiom, sorry.
-/
import Derived.Test.YtknccikdoabgfaaChecked
import GoSem.Claim
import GoSem.ClaimJoined
import GoSem.ClaimMapViews
import Derived.JoinedTies
import Derived.KernelRfl
namespace Go.Proofs.Ytknccikdoabgfaa
/- THE CELL 'sum', in the pinned program and in every row, IS THE sha256 OF THE DUMP (.gsa) THAT YtknccikdoabgfaaProg.lean LOADS. Nothing in Lean hashes anything: it is a label: what it is worth is what the hold of that sum in a sandbox is worth. -/
noncomputable def Try.pinned : Pinned := { name := "ytknccikdoabgfaa", sum := "ec4599f759b98cafeafbdb664e0511e7b22a0c7bb253320dbe914170343a340e", checked := Try.checked }
namespace Rows
def none {H : Type} : Left H := { results := [], args := [] }

/-- 'laws.FnExactLineOfItem': WHATEVER THE INPUT: true; the input reads as it did. -/
def fnExactLineOfItemSpec : ChangeSpec := { name := "fnExactLineOfItem", fn := fun _ => fun
  | [d1, d2] => { results := [.lit (.bool true)], args := [d1, d2] }
  | _ => none }
def fnExactLineOfItemRow : OpenClaim := { program := "ytknccikdoabgfaa", sum := "ec4599f759b98cafeafbdb664e0511e7b22a0c7bb253320dbe914170343a340e", func := "loop.example/g00972/laws.FnExactLineOfItem", spec := "fnExactLineOfItem", apart := false }
def FnExactLineOfItemSaid : Prop := fnExactLineOfItemRow.holds Try.pinned (OpenSpec.ofChange fnExactLineOfItemSpec)

/-- ITS FALSE NEIGHBOUR: 'it returns false'. Refute it at one input. -/
def fnExactLineOfItemWrong : ChangeSpec := { name := "fnExactLineOfItem", fn := fun _ => fun
  | [d1, d2] => { results := [.lit (.bool false)], args := [d1, d2] }
  | _ => none }
def FnExactLineOfItemWrongFalsely : Prop := fnExactLineOfItemRow.holds Try.pinned (OpenSpec.ofChange fnExactLineOfItemWrong)

/-- 'laws.FnExactAutosIn': WHATEVER THE INPUT: true; the input reads as it did. -/
def fnExactAutosInSpec : ChangeSpec := { name := "fnExactAutosIn", fn := fun _ => fun
  | [d] => { results := [.lit (.bool true)], args := [d] }
  | _ => none }
def fnExactAutosInRow : OpenClaim := { program := "ytknccikdoabgfaa", sum := "ec4599f759b98cafeafbdb664e0511e7b22a0c7bb253320dbe914170343a340e", func := "loop.example/g00972/laws.FnExactAutosIn", spec := "fnExactAutosIn", apart := false }
def FnExactAutosInSaid : Prop := fnExactAutosInRow.holds Try.pinned (OpenSpec.ofChange fnExactAutosInSpec)

/-- ITS FALSE NEIGHBOUR: 'it returns false'. Refute it at one input. -/
def fnExactAutosInWrong : ChangeSpec := { name := "fnExactAutosIn", fn := fun _ => fun
  | [d] => { results := [.lit (.bool false)], args := [d] }
  | _ => none }
def FnExactAutosInWrongFalsely : Prop := fnExactAutosInRow.holds Try.pinned (OpenSpec.ofChange fnExactAutosInWrong)

/-- 'laws.FnExactItemsOk': WHATEVER THE INPUT: true; the input reads as it did. -/
def fnExactItemsOkSpec : ChangeSpec := { name := "fnExactItemsOk", fn := fun _ => fun
  | [d] => { results := [.lit (.bool true)], args := [d] }
  | _ => none }
def fnExactItemsOkRow : OpenClaim := { program := "ytknccikdoabgfaa", sum := "ec4599f759b98cafeafbdb664e0511e7b22a0c7bb253320dbe914170343a340e", func := "loop.example/g00972/laws.FnExactItemsOk", spec := "fnExactItemsOk", apart := false }
def FnExactItemsOkSaid : Prop := fnExactItemsOkRow.holds Try.pinned (OpenSpec.ofChange fnExactItemsOkSpec)

/-- ITS FALSE NEIGHBOUR: 'it returns false'. Refute it at one input. -/
def fnExactItemsOkWrong : ChangeSpec := { name := "fnExactItemsOk", fn := fun _ => fun
  | [d] => { results := [.lit (.bool false)], args := [d] }
  | _ => none }
def FnExactItemsOkWrongFalsely : Prop := fnExactItemsOkRow.holds Try.pinned (OpenSpec.ofChange fnExactItemsOkWrong)

/-- 'laws.FnExactOuterOf': WHATEVER THE INPUT: true; the input reads as it did. -/
def fnExactOuterOfSpec : ChangeSpec := { name := "fnExactOuterOf", fn := fun _ => fun
  | [d1, d2, d3] => { results := [.lit (.bool true)], args := [d1, d2, d3] }
  | _ => none }
def fnExactOuterOfRow : OpenClaim := { program := "ytknccikdoabgfaa", sum := "ec4599f759b98cafeafbdb664e0511e7b22a0c7bb253320dbe914170343a340e", func := "loop.example/g00972/laws.FnExactOuterOf", spec := "fnExactOuterOf", apart := false }
def FnExactOuterOfSaid : Prop := fnExactOuterOfRow.holds Try.pinned (OpenSpec.ofChange fnExactOuterOfSpec)

/-- ITS FALSE NEIGHBOUR: 'it returns false'. Refute it at one input. -/
def fnExactOuterOfWrong : ChangeSpec := { name := "fnExactOuterOf", fn := fun _ => fun
  | [d1, d2, d3] => { results := [.lit (.bool false)], args := [d1, d2, d3] }
  | _ => none }
def FnExactOuterOfWrongFalsely : Prop := fnExactOuterOfRow.holds Try.pinned (OpenSpec.ofChange fnExactOuterOfWrong)

/-- 'laws.FnExactFreeOf': WHATEVER THE INPUT: true; the input reads as it did. -/
def fnExactFreeOfSpec : ChangeSpec := { name := "fnExactFreeOf", fn := fun _ => fun
  | [d1, d2, d3, d4] => { results := [.lit (.bool true)], args := [d1, d2, d3, d4] }
  | _ => none }
def fnExactFreeOfRow : OpenClaim := { program := "ytknccikdoabgfaa", sum := "ec4599f759b98cafeafbdb664e0511e7b22a0c7bb253320dbe914170343a340e", func := "loop.example/g00972/laws.FnExactFreeOf", spec := "fnExactFreeOf", apart := false }
def FnExactFreeOfSaid : Prop := fnExactFreeOfRow.holds Try.pinned (OpenSpec.ofChange fnExactFreeOfSpec)

/-- ITS FALSE NEIGHBOUR: 'it returns false'. Refute it at one input. -/
def fnExactFreeOfWrong : ChangeSpec := { name := "fnExactFreeOf", fn := fun _ => fun
  | [d1, d2, d3, d4] => { results := [.lit (.bool false)], args := [d1, d2, d3, d4] }
  | _ => none }
def FnExactFreeOfWrongFalsely : Prop := fnExactFreeOfRow.holds Try.pinned (OpenSpec.ofChange fnExactFreeOfWrong)

/-- 'laws.FnExactGrows': WHATEVER THE INPUT: true; the input reads as it did. -/
def fnExactGrowsSpec : ChangeSpec := { name := "fnExactGrows", fn := fun _ => fun
  | [d1, d2, d3] => { results := [.lit (.bool true)], args := [d1, d2, d3] }
  | _ => none }
def fnExactGrowsRow : OpenClaim := { program := "ytknccikdoabgfaa", sum := "ec4599f759b98cafeafbdb664e0511e7b22a0c7bb253320dbe914170343a340e", func := "loop.example/g00972/laws.FnExactGrows", spec := "fnExactGrows", apart := false }
def FnExactGrowsSaid : Prop := fnExactGrowsRow.holds Try.pinned (OpenSpec.ofChange fnExactGrowsSpec)

/-- ITS FALSE NEIGHBOUR: 'it returns false'. Refute it at one input. -/
def fnExactGrowsWrong : ChangeSpec := { name := "fnExactGrows", fn := fun _ => fun
  | [d1, d2, d3] => { results := [.lit (.bool false)], args := [d1, d2, d3] }
  | _ => none }
def FnExactGrowsWrongFalsely : Prop := fnExactGrowsRow.holds Try.pinned (OpenSpec.ofChange fnExactGrowsWrong)

/-- 'laws.FnExactLineItems': WHATEVER THE INPUT: true; the input reads as it did. -/
def fnExactLineItemsSpec : ChangeSpec := { name := "fnExactLineItems", fn := fun _ => fun
  | [d1, d2] => { results := [.lit (.bool true)], args := [d1, d2] }
  | _ => none }
def fnExactLineItemsRow : OpenClaim := { program := "ytknccikdoabgfaa", sum := "ec4599f759b98cafeafbdb664e0511e7b22a0c7bb253320dbe914170343a340e", func := "loop.example/g00972/laws.FnExactLineItems", spec := "fnExactLineItems", apart := false }
def FnExactLineItemsSaid : Prop := fnExactLineItemsRow.holds Try.pinned (OpenSpec.ofChange fnExactLineItemsSpec)

/-- ITS FALSE NEIGHBOUR: 'it returns false'. Refute it at one input. -/
def fnExactLineItemsWrong : ChangeSpec := { name := "fnExactLineItems", fn := fun _ => fun
  | [d1, d2] => { results := [.lit (.bool false)], args := [d1, d2] }
  | _ => none }
def FnExactLineItemsWrongFalsely : Prop := fnExactLineItemsRow.holds Try.pinned (OpenSpec.ofChange fnExactLineItemsWrong)

/-- 'laws.FnExactLongestOf': WHATEVER THE INPUT: true; the input reads as it did. -/
def fnExactLongestOfSpec : ChangeSpec := { name := "fnExactLongestOf", fn := fun _ => fun
  | [d1, d2, d3, d4] => { results := [.lit (.bool true)], args := [d1, d2, d3, d4] }
  | _ => none }
def fnExactLongestOfRow : OpenClaim := { program := "ytknccikdoabgfaa", sum := "ec4599f759b98cafeafbdb664e0511e7b22a0c7bb253320dbe914170343a340e", func := "loop.example/g00972/laws.FnExactLongestOf", spec := "fnExactLongestOf", apart := false }
def FnExactLongestOfSaid : Prop := fnExactLongestOfRow.holds Try.pinned (OpenSpec.ofChange fnExactLongestOfSpec)

/-- ITS FALSE NEIGHBOUR: 'it returns false'. Refute it at one input. -/
def fnExactLongestOfWrong : ChangeSpec := { name := "fnExactLongestOf", fn := fun _ => fun
  | [d1, d2, d3, d4] => { results := [.lit (.bool false)], args := [d1, d2, d3, d4] }
  | _ => none }
def FnExactLongestOfWrongFalsely : Prop := fnExactLongestOfRow.holds Try.pinned (OpenSpec.ofChange fnExactLongestOfWrong)

/-- 'laws.FnExactLinesOf': WHATEVER THE INPUT: true; the input reads as it did. -/
def fnExactLinesOfSpec : ChangeSpec := { name := "fnExactLinesOf", fn := fun _ => fun
  | [d1, d2, d3, d4] => { results := [.lit (.bool true)], args := [d1, d2, d3, d4] }
  | _ => none }
def fnExactLinesOfRow : OpenClaim := { program := "ytknccikdoabgfaa", sum := "ec4599f759b98cafeafbdb664e0511e7b22a0c7bb253320dbe914170343a340e", func := "loop.example/g00972/laws.FnExactLinesOf", spec := "fnExactLinesOf", apart := false }
def FnExactLinesOfSaid : Prop := fnExactLinesOfRow.holds Try.pinned (OpenSpec.ofChange fnExactLinesOfSpec)

/-- ITS FALSE NEIGHBOUR: 'it returns false'. Refute it at one input. -/
def fnExactLinesOfWrong : ChangeSpec := { name := "fnExactLinesOf", fn := fun _ => fun
  | [d1, d2, d3, d4] => { results := [.lit (.bool false)], args := [d1, d2, d3, d4] }
  | _ => none }
def FnExactLinesOfWrongFalsely : Prop := fnExactLinesOfRow.holds Try.pinned (OpenSpec.ofChange fnExactLinesOfWrong)

/-- 'laws.FnExactEndsAlong': WHATEVER THE INPUT: true; the input reads as it did. -/
def fnExactEndsAlongSpec : ChangeSpec := { name := "fnExactEndsAlong", fn := fun _ => fun
  | [d1, d2, d3, d4, d5] => { results := [.lit (.bool true)], args := [d1, d2, d3, d4, d5] }
  | _ => none }
def fnExactEndsAlongRow : OpenClaim := { program := "ytknccikdoabgfaa", sum := "ec4599f759b98cafeafbdb664e0511e7b22a0c7bb253320dbe914170343a340e", func := "loop.example/g00972/laws.FnExactEndsAlong", spec := "fnExactEndsAlong", unfollowed := true, recurses := true, apart := false }
def FnExactEndsAlongSaid : Prop := fnExactEndsAlongRow.holds Try.pinned (OpenSpec.ofChange fnExactEndsAlongSpec)

/-- ITS FALSE NEIGHBOUR: 'it returns false'. Refute it at one input. -/
def fnExactEndsAlongWrong : ChangeSpec := { name := "fnExactEndsAlong", fn := fun _ => fun
  | [d1, d2, d3, d4, d5] => { results := [.lit (.bool false)], args := [d1, d2, d3, d4, d5] }
  | _ => none }
def FnExactEndsAlongWrongFalsely : Prop := fnExactEndsAlongRow.holds Try.pinned (OpenSpec.ofChange fnExactEndsAlongWrong)

/-- 'laws.FnExactPlacesAlong': WHATEVER THE INPUT: true; the input reads as it did. -/
def fnExactPlacesAlongSpec : ChangeSpec := { name := "fnExactPlacesAlong", fn := fun _ => fun
  | [d1, d2, d3, d4, d5] => { results := [.lit (.bool true)], args := [d1, d2, d3, d4, d5] }
  | _ => none }
def fnExactPlacesAlongRow : OpenClaim := { program := "ytknccikdoabgfaa", sum := "ec4599f759b98cafeafbdb664e0511e7b22a0c7bb253320dbe914170343a340e", func := "loop.example/g00972/laws.FnExactPlacesAlong", spec := "fnExactPlacesAlong", unfollowed := true, recurses := true, apart := false }
def FnExactPlacesAlongSaid : Prop := fnExactPlacesAlongRow.holds Try.pinned (OpenSpec.ofChange fnExactPlacesAlongSpec)

/-- ITS FALSE NEIGHBOUR: 'it returns false'. Refute it at one input. -/
def fnExactPlacesAlongWrong : ChangeSpec := { name := "fnExactPlacesAlong", fn := fun _ => fun
  | [d1, d2, d3, d4, d5] => { results := [.lit (.bool false)], args := [d1, d2, d3, d4, d5] }
  | _ => none }
def FnExactPlacesAlongWrongFalsely : Prop := fnExactPlacesAlongRow.holds Try.pinned (OpenSpec.ofChange fnExactPlacesAlongWrong)

/- THE SECOND FORM. 'bulk': how many values and letters a reading holds, each counted each time it is reached (what is shared counts as often as it is met; a slice's spare places count too). A statement '..UptoSaid' is the law's where the arguments, and the package variables that the reading takes, are together of bulk at most 1048576: NARROWER than '..Said'. Prove '..Said' where nothing that the law and all that it calls make is longer than what came in: it says more and counts as full. Else prove '..UptoSaid'. A law counts once. -/
mutual
def uptoBulk {H : Type} : DataW H → Nat
  | .lit (.string bytes) => bytes.length + 1
  | .lit _ => 1
  | .nil => 1
  | .ptr d => uptoBulk d + 1
  | .slice elems spare => uptoBulkAll elems + uptoBulkAll spare + 1
  | .agg parts => uptoBulkAll parts + 1
  | .iface _ d => uptoBulk d + 1
  | .map entries => uptoBulkEntries entries + 1
  | .held _ => 1
def uptoBulkAll {H : Type} : List (DataW H) → Nat
  | [] => 0
  | d :: r => uptoBulk d + uptoBulkAll r
def uptoBulkEntries {H : Type} : List (Lit × DataW H) → Nat
  | [] => 0
  | x :: r => uptoBulkEntry x + uptoBulkEntries r
def uptoBulkEntry {H : Type} : Lit × DataW H → Nat
  | (.string bytes, d) => bytes.length + uptoBulk d + 1
  | (_, d) => uptoBulk d + 1
 end
def uptoSmall : (H : Type) → List (DataW H) → Bool := fun _ ds => decide (uptoBulkAll ds ≤ 1048576)
def OpenSpec.upto (s : _root_.Go.ChangeSpec) : _root_.Go.OpenSpec := { _root_.Go.OpenSpec.ofChange s with cond := some uptoSmall }

/-- 'laws.FnExactLineOfItem', WHERE WHAT IT READS IS OF BULK AT MOST 1048576: true; the input reads as it did. -/
def fnExactLineOfItemUptoRow : OpenClaim := { program := "ytknccikdoabgfaa", sum := "ec4599f759b98cafeafbdb664e0511e7b22a0c7bb253320dbe914170343a340e", func := "loop.example/g00972/laws.FnExactLineOfItem", spec := "fnExactLineOfItem", apart := false, narrowed := true }
def FnExactLineOfItemUptoSaid : Prop := fnExactLineOfItemUptoRow.holds Try.pinned (OpenSpec.upto fnExactLineOfItemSpec)

/-- 'laws.FnExactAutosIn', WHERE WHAT IT READS IS OF BULK AT MOST 1048576: true; the input reads as it did. -/
def fnExactAutosInUptoRow : OpenClaim := { program := "ytknccikdoabgfaa", sum := "ec4599f759b98cafeafbdb664e0511e7b22a0c7bb253320dbe914170343a340e", func := "loop.example/g00972/laws.FnExactAutosIn", spec := "fnExactAutosIn", apart := false, narrowed := true }
def FnExactAutosInUptoSaid : Prop := fnExactAutosInUptoRow.holds Try.pinned (OpenSpec.upto fnExactAutosInSpec)

/-- 'laws.FnExactItemsOk', WHERE WHAT IT READS IS OF BULK AT MOST 1048576: true; the input reads as it did. -/
def fnExactItemsOkUptoRow : OpenClaim := { program := "ytknccikdoabgfaa", sum := "ec4599f759b98cafeafbdb664e0511e7b22a0c7bb253320dbe914170343a340e", func := "loop.example/g00972/laws.FnExactItemsOk", spec := "fnExactItemsOk", apart := false, narrowed := true }
def FnExactItemsOkUptoSaid : Prop := fnExactItemsOkUptoRow.holds Try.pinned (OpenSpec.upto fnExactItemsOkSpec)

/-- 'laws.FnExactOuterOf', WHERE WHAT IT READS IS OF BULK AT MOST 1048576: true; the input reads as it did. -/
def fnExactOuterOfUptoRow : OpenClaim := { program := "ytknccikdoabgfaa", sum := "ec4599f759b98cafeafbdb664e0511e7b22a0c7bb253320dbe914170343a340e", func := "loop.example/g00972/laws.FnExactOuterOf", spec := "fnExactOuterOf", apart := false, narrowed := true }
def FnExactOuterOfUptoSaid : Prop := fnExactOuterOfUptoRow.holds Try.pinned (OpenSpec.upto fnExactOuterOfSpec)

/-- 'laws.FnExactFreeOf', WHERE WHAT IT READS IS OF BULK AT MOST 1048576: true; the input reads as it did. -/
def fnExactFreeOfUptoRow : OpenClaim := { program := "ytknccikdoabgfaa", sum := "ec4599f759b98cafeafbdb664e0511e7b22a0c7bb253320dbe914170343a340e", func := "loop.example/g00972/laws.FnExactFreeOf", spec := "fnExactFreeOf", apart := false, narrowed := true }
def FnExactFreeOfUptoSaid : Prop := fnExactFreeOfUptoRow.holds Try.pinned (OpenSpec.upto fnExactFreeOfSpec)

/-- 'laws.FnExactGrows', WHERE WHAT IT READS IS OF BULK AT MOST 1048576: true; the input reads as it did. -/
def fnExactGrowsUptoRow : OpenClaim := { program := "ytknccikdoabgfaa", sum := "ec4599f759b98cafeafbdb664e0511e7b22a0c7bb253320dbe914170343a340e", func := "loop.example/g00972/laws.FnExactGrows", spec := "fnExactGrows", apart := false, narrowed := true }
def FnExactGrowsUptoSaid : Prop := fnExactGrowsUptoRow.holds Try.pinned (OpenSpec.upto fnExactGrowsSpec)

/-- 'laws.FnExactLineItems', WHERE WHAT IT READS IS OF BULK AT MOST 1048576: true; the input reads as it did. -/
def fnExactLineItemsUptoRow : OpenClaim := { program := "ytknccikdoabgfaa", sum := "ec4599f759b98cafeafbdb664e0511e7b22a0c7bb253320dbe914170343a340e", func := "loop.example/g00972/laws.FnExactLineItems", spec := "fnExactLineItems", apart := false, narrowed := true }
def FnExactLineItemsUptoSaid : Prop := fnExactLineItemsUptoRow.holds Try.pinned (OpenSpec.upto fnExactLineItemsSpec)

/-- 'laws.FnExactLongestOf', WHERE WHAT IT READS IS OF BULK AT MOST 1048576: true; the input reads as it did. -/
def fnExactLongestOfUptoRow : OpenClaim := { program := "ytknccikdoabgfaa", sum := "ec4599f759b98cafeafbdb664e0511e7b22a0c7bb253320dbe914170343a340e", func := "loop.example/g00972/laws.FnExactLongestOf", spec := "fnExactLongestOf", apart := false, narrowed := true }
def FnExactLongestOfUptoSaid : Prop := fnExactLongestOfUptoRow.holds Try.pinned (OpenSpec.upto fnExactLongestOfSpec)

/-- 'laws.FnExactLinesOf', WHERE WHAT IT READS IS OF BULK AT MOST 1048576: true; the input reads as it did. -/
def fnExactLinesOfUptoRow : OpenClaim := { program := "ytknccikdoabgfaa", sum := "ec4599f759b98cafeafbdb664e0511e7b22a0c7bb253320dbe914170343a340e", func := "loop.example/g00972/laws.FnExactLinesOf", spec := "fnExactLinesOf", apart := false, narrowed := true }
def FnExactLinesOfUptoSaid : Prop := fnExactLinesOfUptoRow.holds Try.pinned (OpenSpec.upto fnExactLinesOfSpec)

/-- 'laws.FnExactEndsAlong', WHERE WHAT IT READS IS OF BULK AT MOST 1048576: true; the input reads as it did. -/
def fnExactEndsAlongUptoRow : OpenClaim := { program := "ytknccikdoabgfaa", sum := "ec4599f759b98cafeafbdb664e0511e7b22a0c7bb253320dbe914170343a340e", func := "loop.example/g00972/laws.FnExactEndsAlong", spec := "fnExactEndsAlong", unfollowed := true, recurses := true, apart := false, narrowed := true }
def FnExactEndsAlongUptoSaid : Prop := fnExactEndsAlongUptoRow.holds Try.pinned (OpenSpec.upto fnExactEndsAlongSpec)

/-- 'laws.FnExactPlacesAlong', WHERE WHAT IT READS IS OF BULK AT MOST 1048576: true; the input reads as it did. -/
def fnExactPlacesAlongUptoRow : OpenClaim := { program := "ytknccikdoabgfaa", sum := "ec4599f759b98cafeafbdb664e0511e7b22a0c7bb253320dbe914170343a340e", func := "loop.example/g00972/laws.FnExactPlacesAlong", spec := "fnExactPlacesAlong", unfollowed := true, recurses := true, apart := false, narrowed := true }
def FnExactPlacesAlongUptoSaid : Prop := fnExactPlacesAlongUptoRow.holds Try.pinned (OpenSpec.upto fnExactPlacesAlongSpec)

end Rows
end Go.Proofs.Ytknccikdoabgfaa
