/- Places along: the reference's text. -/
import Derived.Test.YtknccikdoabgfaaAlongI
namespace Go.Proofs.Ytknccikdoabgfaa
open Go.RowKit Go.ChangeShapes Go.WideShapes
set_option linter.unusedVariables false
set_option linter.unusedSimpArgs false

/-- a slice of numbers that is read while another one grows -/
def Beside (w : World) (out : Value) (S : Option Addr) (zs : List Int) : Prop := Ints w S zs ∧ (0 < zs.length → Apart out S)
theorem Beside.keep {w w' : World} {out : Value} {S : Option Addr} {zs : List Int} (h : Beside w out S zs) (hb : Bel w w') : Beside w' out S zs := ⟨h.1.keep hb, h.2⟩
theorem Beside.step {w w' : World} {out v' : Value} {S : Option Addr} {zs : List Int} (h : Beside w out S zs) (hg : w.grownBy w' out.ownBlock) (ha : v'.ownBlock = out.ownBlock ∨ v'.ownBlock = some w.heap.size) : Beside w' v' S zs := by
  by_cases hz : 0 < zs.length
  · exact ⟨h.1.grown hg (h.2 hz), fun _ => (h.2 hz).step ha h.1 hz⟩
  · exact ⟨fun i hi => by omega, fun h => absurd h hz⟩

theorem autosTo_mono (L : List Rec) {i j : Nat} (h : i ≤ j) : autosTo L i ≤ autosTo L j := by
  induction h with
  | refl => exact Int.le_refl _
  | step _ ih => simp only [autosTo]; split <;> split <;> omega
theorem autosTo_lt7 {L : List Rec} {k n : Nat} (h : k < n) (h7 : (rec_ L k).b 7 = true) : autosTo L k < autosTo L n := by
  have := autosTo_mono L (show k + 1 ≤ n by omega)
  simp only [autosTo] at this
  rw [if_pos h7] at this
  split at this <;> omega
theorem autosTo_lt8 {L : List Rec} {k n : Nat} (h : k < n) (h8 : (rec_ L k).b 8 = true) : autosTo L k + (if (rec_ L k).b 7 = true then 1 else 0) < autosTo L n := by
  have := autosTo_mono L (show k + 1 ≤ n by omega)
  simp only [autosTo] at this
  rw [if_pos h8] at this
  omega

set_option maxHeartbeats 2000000 in
theorem l15Ok_c (A : Option Addr) (c : Nat) (L : List Rec) (B : Option Addr) (d : Nat) (zs : List Int) (gap inner : Int) (w : World) (h : Recs w A k_item L) (hz : Ints w B zs) (hn : L.length ≤ 1048576) (hm : zs.length ≤ 1048576) :
    Calls Try.prog 67 #[.slice A L.length c, .slice B zs.length d, .int .i64 gap, .int .i64 inner] w fun r w' => r = .returned (.bool (alongOk L zs gap inner)) ∧ Bel w w' := by
  go_enter Try.func67, Try.ntmps67
  go_wp2_with fail
  go_loopw [9] (fun i wr => ∃ (k : Nat), k ≤ zs.length ∧ i = .int .i64 k ∧ (∀ j, j < k → inB (at_ zs j) 0 1048576 = true) ∧ Bel w wr) (fun i _ => zs.length - (intOf i).toNat)
  case atStart => exact ⟨0, Nat.zero_le _, by go_num, fun j hj => absurd hj (Nat.not_lt_zero _), Bel.refl w⟩
  case round =>
    obtain ⟨k, hk, rfl, hx, hb⟩ := hrel
    have HX := Lib.hid hx
    clear hx
    by_cases hlt : k < zs.length
    · obtain ⟨b, o, rfl, hbl, hc⟩ := hz k hlt
      have hcA : wr.cell? ⟨b, o + k, none⟩ = some (.int .i64 (at_ zs k)) := (hb.cell _ _ hbl).trans (hc k hlt)
      clear hc
      cases he : inB (at_ zs k) 0 1048576 with
      | true =>
        go_wp2_with ((go_at_call 59; refine (l01In_c _ _ _ _).mono ?_; rintro e w' ⟨rfl, rfl⟩))
        go_roundw
        case rel => exact ⟨k + 1, by omega, by go_num, fun j hj => (by rcases Nat.lt_succ_iff_lt_or_eq.1 hj with h | h; exact HX.out j h; subst h; exact he), hb⟩
        case measure => simp [intOf]; omega
      | false =>
        have HF := Lib.hid (allIn_false (zs := zs) hlt he)
        go_wp2_with ((go_at_call 59; refine (l01In_c _ _ _ _).mono ?_; rintro e w' ⟨rfl, rfl⟩))
        go_ret
        exact ⟨by simp [alongOk, HF.out], hb⟩
    · have HA := Lib.hid (allIn_true (zs := zs) (a := 0) (b := 1048576) fun j hj => HX.out j (by omega))
      go_wp2_with fail
      refine (sItemsOk_c _ _ _ _ (h.keep hb) hn).mono ?_; rintro e w1 ⟨rfl, hb1⟩
      cases h1 : itemsOk L
      · go_wp2_with fail
        go_ret
        exact ⟨by simp [alongOk, h1], hb.trans hb1⟩
      · by_cases h2 : zs.length = L.length
        · have h2' : ((zs.length : Int) == (L.length : Int)) = true := by simp; omega
          cases h3 : inB gap 0 1048576 <;> cases h4 : inB inner 0 1048576
          all_goals
            have H2 := Lib.hid h2
            clear h2
            go_wp2_with ((go_at_call 59; refine (l01In_c _ _ _ _).mono ?_; rintro e w' ⟨rfl, rfl⟩))
            go_ret
            exact ⟨by simp [alongOk, h1, H2.out, h3, h4, HA.out], hb.trans hb1⟩
        · have h2' : ((zs.length : Int) == (L.length : Int)) = false := by simp; omega
          go_wp2_with fail
          go_ret
          exact ⟨by simp [alongOk, h1, h2], hb.trans hb1⟩
end Go.Proofs.Ytknccikdoabgfaa
