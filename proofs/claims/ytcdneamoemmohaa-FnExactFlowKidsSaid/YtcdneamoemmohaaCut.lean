/- Slices of ints cut in two; the ways of a drawn region joined. -/
import Derived.Test.YtcdneamoemmohaaUnder
import Derived.Deep.RegionHeld3
namespace Go.Proofs.Ytcdneamoemmohaa
open Go.RowKit Go.ChangeShapes Go.WideShapes
set_option linter.unusedVariables false
set_option linter.unusedSimpArgs false

/-- the first at of them -/
theorem cut_take {w : World} {K : Option Addr} {l : List Int} (h : Ints w K l) (a : Nat) : Ints w K (l.take a) := fun i hi => by
  rw [List.length_take] at hi
  obtain ⟨b, o, e, hb, hc⟩ := h i (by omega)
  refine ⟨b, o, e, hb, fun j hj => ?_⟩
  rw [List.length_take] at hj
  rw [hc j (by omega)]
  congr 2
  unfold at_ List.getD
  rw [List.getElem?_take_of_lt (by omega)]
def addO (K : Option Addr) (a : Nat) : Option Addr := K.map (·.add a)
theorem cut_drop {w : World} {K : Option Addr} {l : List Int} (h : Ints w K l) (a : Nat) : Ints w (addO K a) (l.drop a) := fun i hi => by
  rw [List.length_drop] at hi
  obtain ⟨b, o, e, hb, hc⟩ := h i (by omega)
  have ea : addO K a = some ⟨b, o + a, none⟩ := by
    rw [e]
    unfold addO Addr.add
    simp only [Option.map_some]
    split
    · rename_i h0; subst h0; rfl
    · rfl
  refine ⟨b, o + a, ea, hb, fun j hj => ?_⟩
  rw [List.length_drop] at hj
  rw [Nat.add_assoc, hc (a + j) (by omega)]
  congr 2
  unfold at_ List.getD
  rw [List.getElem?_drop]
theorem run_cutH (t : TypeId) (ht : Try.prog.underlying t = some (.slice (Try.prog.elem t))) (hs : ∀ w, (sizeOf (Try.prog.elem t)).run Try.prog w = .ok 1 w) (K : Option Addr) (n ck a : Nat) (ha : a ≤ n) (hn : n ≤ ck) (w : World) :
    (Instr.slice t (.slice K n ck) none (some (.int .i64 (a : Int))) none).run Try.prog w = .ok (.slice K a ck) w := by
  rw [run_slice_h w t K n ck ht .i64 (a : Int) (by omega) (by omega), hs, Result.andThen_ok]
  have e : (if ck = 0 then K else K.map (·.add (0 * 1))) = K := by
    split
    · rfl
    · rcases K with _ | ad
      · rfl
      · simp [Addr.add]
  unfold sliced
  rw [e, Int.toNat_natCast, Nat.sub_zero, Nat.sub_zero]
def cutO (K : Option Addr) (a ck : Nat) : Option Addr := if ck = a then K else addO K a
theorem run_cutL (t : TypeId) (ht : Try.prog.underlying t = some (.slice (Try.prog.elem t))) (hs : ∀ w, (sizeOf (Try.prog.elem t)).run Try.prog w = .ok 1 w) (K : Option Addr) (n ck a : Nat) (ha : a ≤ n) (w : World) :
    (Instr.slice t (.slice K n ck) (some (.int .i64 (a : Int))) none none).run Try.prog w = .ok (.slice (cutO K a ck) (n - a) (ck - a)) w := by
  rw [run_slice_l w t K n ck ht .i64 (a : Int) (by omega) (by omega), hs, Result.andThen_ok]
  unfold sliced cutO addO
  rw [Int.toNat_natCast, Nat.mul_one]
theorem cut_dropO {w : World} {K : Option Addr} {l : List Int} {ck a : Nat} (h : Ints w K l) (hn : l.length ≤ ck) : Ints w (cutO K a ck) (l.drop a) := by
  unfold cutO
  split
  · rename_i e
    have : l.drop a = [] := List.drop_of_length_le (by omega)
    rw [this]
    exact Ints.nil _ _
  · exact cut_drop h a
theorem cut_none {K : Option Addr} {ck a : Nat} (h : K = none → ck = 0) : cutO K a ck = none → ck - a = 0 := by
  unfold cutO addO
  split
  · intro; omega
  · rcases K with _ | ad
    · intro; have := h rfl; omega
    · intro e; cases e
theorem size_int (w : World) : (sizeOf (Try.prog.elem 26)).run Try.prog w = .ok 1 w := by
  have he : Try.prog.elem 26 = 3 := by kernel_rfl
  rw [he]
  obtain ⟨i0, hi, hz0, hz1, hz2⟩ := info_parts Try.info_int
  simp [sizeOf, typeInfo, hi, hz1]
theorem elem_ints : Try.prog.underlying 26 = some (.slice (Try.prog.elem 26)) := by kernel_rfl
theorem ints_one {w : World} {b : Nat} {z : Int} (h : w.cell? ⟨b, 0, none⟩ = some (.int .i64 z)) (hb : b < w.heap.size) : Ints w (some ⟨b, 0, none⟩) [z] := fun i hi => ⟨b, 0, rfl, hb, fun q hq => by
  obtain rfl : q = 0 := by simpa using hq
  exact h⟩
def setAll (t : Array Value) (ds : List Nat) (y : Nat → Value) : Array Value := ds.foldl (fun t d => t.setIfInBounds d (y d)) t
theorem wp_join {P : Program} {c : Code} {Q : Exit → Act → World → Prop} {t : Array Value} {w : World} (ds : List Nat) (R : (Nat → Value) → World → Prop)
    (h : c.wp P (fun e a u => e = .normal ∧ ∃ y, a = ⟨setAll t ds y, []⟩ ∧ R y u) ⟨t, []⟩ w) (k : ∀ y u, R y u → Q .normal ⟨setAll t ds y, []⟩ u) : c.wp P Q ⟨t, []⟩ w :=
  Code.wp_mono (by rintro e a u ⟨rfl, y, rfl, hR⟩; exact k y u hR) h
theorem join_here {t t' : Array Value} {ds : List Nat} {R : (Nat → Value) → Prop} (hs : setAll t ds (fun i => t'.getD i undef) = t') (hR : R (fun i => t'.getD i undef)) :
    Exit.normal = .normal ∧ ∃ y, (⟨t', []⟩ : Act) = ⟨setAll t ds y, []⟩ ∧ R y := ⟨rfl, _, by rw [hs], hR⟩
end Go.Proofs.Ytcdneamoemmohaa
