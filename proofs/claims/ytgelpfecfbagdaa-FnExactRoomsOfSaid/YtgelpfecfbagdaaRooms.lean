/- RoomsOf and SameTable, both texts. -/
import Derived.Test.YtgelpfecfbagdaaRuleFn
import Derived.Test.YtgelpfecfbagdaaMark
import Derived.Deep.RegionWith
namespace Go.Proofs.Ytgelpfecfbagdaa
open Go.RowKit Go.ChangeShapes Go.WideShapes
set_option linter.unusedVariables false
set_option linter.unusedSimpArgs false

def roomsTo (L : List Rec) (k : Nat) : List Int := (List.range k).map fun i => (rec_ L i).s 0
def rooms (L : List Rec) : List Int := roomsTo L L.length
theorem roomsTo_succ (L : List Rec) (k : Nat) : roomsTo L (k + 1) = roomsTo L k ++ [(rec_ L k).s 0] := by simp [roomsTo, List.range_succ]
theorem rooms_length (L : List Rec) : (rooms L).length = L.length := by simp [rooms, roomsTo]
set_option maxHeartbeats 2000000 in
theorem iRoomsOf_c (A : Option Addr) (c : Nat) (L : List Rec) (w : World) (h : Recs w A k_rule L) (hn : L.length ≤ 1048576) :
    Calls Try.prog 28 #[tableV A L.length c] w fun r w' => ∃ v, r = .returned v ∧ w'.ownsRow w.heap.size 3 1 v L.length (VI (rooms L)) ∧ Bel w w' := by
  have ho0 : ((w.alloc (.cells #[.slice A L.length c] 32))).ownsRow (w.heap.size + 1) 3 1 (.slice none 0 0) 0 (VI []) := ⟨rfl, .inl ⟨rfl, rfl⟩⟩
  have hb0 : Bel (w.alloc (.cells #[.slice A L.length c] 32)) ((w.alloc (.cells #[.slice A L.length c] 32))) := by repeat (first | exact Bel.refl _ | refine Bel.alloc ?_ _)
  go_enter Try.func28, Try.ntmps28
  go_wp2_with fail
  go_loopw [3, 9] (fun v i wr => ∃ (k : Nat), k ≤ L.length ∧ i = .int .i64 k ∧ wr.ownsRow (w.heap.size + 1) 3 1 v k (VI (roomsTo L k)) ∧ Bel (w.alloc (.cells #[.slice A L.length c] 32)) wr) (fun _ i _ => L.length - (intOf i).toNat)
  case atStart => exact ⟨0, Nat.zero_le _, by go_num, ho0, hb0⟩
  case round =>
    obtain ⟨k, hk, rfl, ho, hb⟩ := hrel
    have hbw : Bel w wr := ((Bel.refl w).alloc _).trans hb
    have hT : wr.cell? ⟨w.heap.size, 0, none⟩ = some (.slice A L.length c) := (hb.cell _ _ (by simp)).trans (by simp)
    have hl : w.heap.size < wr.heap.size := by have := hb.sz; simp at this; omega
    by_cases hlt : k < L.length
    · obtain ⟨b, o, rfl, hbl, hc⟩ := h k hlt
      obtain ⟨x0, x1, x2⟩ := rule_cells hc hlt
      have d0 := (hbw.cell _ _ hbl).trans x0
      have d1 := (hbw.cell _ _ hbl).trans x1
      have d2 := (hbw.cell _ _ hbl).trans x2
      clear hc x0 x1 x2
      have hlti : (k : Int) < (L.length : Int) := by omega
      go_wp2_with (at_builtin; refine app1 rfl (.tmp 13) (.tmp 16) rfl (w.heap.size + 1) _ k _ rfl ((ho.alloc _).alloc _) (wr.heap.size + 1) ((rec_ L k).s 0) rfl (by simp) (by omega) (by first | (simp; done) | (simp; omega)) ?_; intro v' w' ho' hg')
      go_roundw
      case rel =>
        refine ⟨k + 1, by omega, by go_num, ?_, Bel.own (a := w.alloc _) (by repeat (first | exact hb | refine Bel.alloc ?_ _)) (by simp) ((ho.alloc _).alloc _) hg'⟩
        rw [roomsTo_succ, ← VI_snoc]
        exact ho'
      case measure => simp [intOf]; omega
    · obtain rfl : k = L.length := by omega
      go_wp2_with fail
      go_ret
      exact ⟨_, rfl, own_base ho (by omega), hbw⟩
set_option maxHeartbeats 2000000 in
theorem sRoomsOf_c (A : Option Addr) (c : Nat) (L : List Rec) (w : World) (h : Recs w A k_rule L) (hn : L.length ≤ 1048576) :
    Calls Try.prog 27 #[tableV A L.length c] w fun r w' => ∃ v, r = .returned v ∧ w'.ownsRow w.heap.size 3 1 v L.length (VI (rooms L)) ∧ Bel w w' := by
  have ho0 : (((w.alloc (.cells #[.slice A L.length c] 32)).alloc (.cells #[] 3))).ownsRow (w.heap.size + 1) 3 1 (.slice (some ⟨w.heap.size + 1, 0, none⟩) 0 0) 0 (VI []) := (by have := World.ownsRow_lit (base := w.heap.size + 1) (e := 3) (size := 1) (w.alloc (.cells #[.slice A L.length c] 32)) #[] 0 (by simp) (by unfold maxLen; omega) rfl; simpa [VI] using this)
  have hb0 : Bel (w.alloc (.cells #[.slice A L.length c] 32)) (((w.alloc (.cells #[.slice A L.length c] 32)).alloc (.cells #[] 3))) := by repeat (first | exact Bel.refl _ | refine Bel.alloc ?_ _)
  go_enter Try.func27, Try.ntmps27
  go_wp2_with fail
  go_loopw [3, 4] (fun v i wr => ∃ (k : Nat), k ≤ L.length ∧ i = .int .i64 k ∧ wr.ownsRow (w.heap.size + 1) 3 1 v k (VI (roomsTo L k)) ∧ Bel (w.alloc (.cells #[.slice A L.length c] 32)) wr) (fun _ i _ => L.length - (intOf i).toNat)
  case atStart => exact ⟨0, Nat.zero_le _, by go_num, ho0, hb0⟩
  case round =>
    obtain ⟨k, hk, rfl, ho, hb⟩ := hrel
    have hbw : Bel w wr := ((Bel.refl w).alloc _).trans hb
    have hT : wr.cell? ⟨w.heap.size, 0, none⟩ = some (.slice A L.length c) := (hb.cell _ _ (by simp)).trans (by simp)
    have hl : w.heap.size < wr.heap.size := by have := hb.sz; simp at this; omega
    by_cases hlt : k < L.length
    · obtain ⟨b, o, rfl, hbl, hc⟩ := h k hlt
      obtain ⟨x0, x1, x2⟩ := rule_cells hc hlt
      have d0 := (hbw.cell _ _ hbl).trans x0
      have d1 := (hbw.cell _ _ hbl).trans x1
      have d2 := (hbw.cell _ _ hbl).trans x2
      clear hc x0 x1 x2
      have hlti : (k : Int) < (L.length : Int) := by omega
      go_wp2_with (at_builtin; refine app1 rfl (.tmp 13) (.tmp 20) rfl (w.heap.size + 1) _ k _ rfl (ho.alloc _) wr.heap.size ((rec_ L k).s 0) rfl (by simp) (by omega) (by first | (simp; done) | (simp; omega)) ?_; intro v' w' ho' hg')
      go_roundw
      case rel =>
        refine ⟨k + 1, by omega, by go_num, ?_, Bel.own (a := w.alloc _) (by repeat (first | exact hb | refine Bel.alloc ?_ _)) (by simp) (ho.alloc _) hg'⟩
        rw [roomsTo_succ, ← VI_snoc]
        exact ho'
      case measure => simp [intOf]; omega
    · obtain rfl : k = L.length := by omega
      go_wp2_with fail
      go_ret
      exact ⟨_, rfl, own_base ho (by omega), hbw⟩
end Go.Proofs.Ytgelpfecfbagdaa
