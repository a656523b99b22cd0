/- along, PlacesAlong, EndsAlong: the program's text. -/
import Derived.Test.YtmipjhnjlpmidaaAlong
namespace Go.Proofs.Ytmipjhnjlpmidaa
open Go.RowKit Go.ChangeShapes Go.WideShapes
set_option linter.unusedVariables false
set_option linter.unusedSimpArgs false

theorem along_no {L : List Rec} {zs : List Int} {gap inner : Int} (justify : Int) (h : alongOk L zs gap inner = false) : alongL L zs gap inner justify = [] ∧ alongE L zs gap inner justify = 0 := by
  simp [alongL, alongE, h]
theorem along_yes {L : List Rec} {zs : List Int} {gap inner : Int} (justify : Int) (h : alongOk L zs gap inner = true) : alongL L zs gap inner justify = (alOf L zs gap inner justify).starts L.length ∧ alongE L zs gap inner justify = (alOf L zs gap inner justify).at_ L.length := by
  simp [alongL, alongE, h]
def AlongRet (w : World) (L : List Rec) (zs : List Int) (gap inner justify : Int) (r : Ending) (w' : World) : Prop :=
  ∃ v, r = .returned (.tuple #[v, .int .i64 (alongE L zs gap inner justify), .bool (alongOk L zs gap inner)]) ∧ w'.ownsRow w.heap.size 3 1 v (alongL L zs gap inner justify).length (VI (alongL L zs gap inner justify)) ∧ Bel w w'
theorem alongRet_no {w w' : World} {L : List Rec} {zs : List Int} {gap inner justify : Int} (h : alongOk L zs gap inner = false) (hb : Bel w w') : AlongRet w L zs gap inner justify (.returned (.tuple #[.slice none 0 0, .int .i64 0, .bool false])) w' := by
  obtain ⟨h1, h2⟩ := along_no justify h
  refine ⟨.slice none 0 0, ?_, ?_, hb⟩
  · rw [h2, h]
  · rw [h1]; exact ⟨rfl, .inl ⟨rfl, rfl⟩⟩
theorem notOk_cases {L : List Rec} {zs : List Int} {gap inner : Int} (h : alongOk L zs gap inner = false) :
    itemsOk L = false ∨ (itemsOk L = true ∧ zs.length ≠ L.length) ∨ (itemsOk L = true ∧ zs.length = L.length ∧ inB gap 0 1048576 = false) ∨ (itemsOk L = true ∧ zs.length = L.length ∧ inB gap 0 1048576 = true ∧ inB inner 0 1048576 = false) ∨
      (itemsOk L = true ∧ zs.length = L.length ∧ inB gap 0 1048576 = true ∧ inB inner 0 1048576 = true ∧ allIn zs 0 1048576 = false) := by
  unfold alongOk at h
  cases h1 : itemsOk L
  · exact .inl rfl
  · by_cases h2 : zs.length = L.length
    · cases h3 : inB gap 0 1048576
      · exact .inr (.inr (.inl ⟨rfl, h2, rfl⟩))
      · cases h4 : inB inner 0 1048576
        · exact .inr (.inr (.inr (.inl ⟨rfl, h2, rfl, rfl⟩)))
        · refine .inr (.inr (.inr (.inr ⟨rfl, h2, rfl, rfl, ?_⟩)))
          simpa [h1, h2, h3, h4] using h
    · exact .inr (.inl ⟨rfl, h2⟩)

set_option maxRecDepth 100000 in
set_option maxHeartbeats 4000000 in
theorem along_bad (A : Option Addr) (c : Nat) (L : List Rec) (B : Option Addr) (d : Nat) (zs : List Int) (gap inner justify : Int) (w : World) (h : Recs w A k_item L) (hz : Ints w B zs) (hn : L.length ≤ 1048576) (hm : zs.length ≤ 1048576) (hq : alongOk L zs gap inner = false) :
    Calls Try.prog 78 #[.slice A L.length c, .slice B zs.length d, .int .i64 gap, .int .i64 inner, .int .i64 justify] w (AlongRet w L zs gap inner justify) := by
  have HQ := Lib.hid hq
  rcases notOk_cases hq with q1 | ⟨q1, q2⟩ | ⟨q1, q2, q3⟩ | ⟨q1, q2, q3, q4⟩ | ⟨q1, q2, q3, q4, q5⟩
  · clear hq
    go_enter Try.func78, Try.ntmps78
    go_wp2_with (first | (go_at_call 93; refine (iItemsOk_c _ _ _ _ h hn).mono ?_; rintro e w1 ⟨rfl, hb1⟩) | (go_at_call 68; refine (in_c _ _ _ _).mono ?_; rintro e w' ⟨rfl, rfl⟩))
    go_ret3
    exact alongRet_no HQ.out hb1
  · have hne : ((zs.length : Int) != (L.length : Int)) = true := by simp; omega
    clear hq q2
    go_enter Try.func78, Try.ntmps78
    go_wp2_with (first | (go_at_call 93; refine (iItemsOk_c _ _ _ _ h hn).mono ?_; rintro e w1 ⟨rfl, hb1⟩) | (go_at_call 68; refine (in_c _ _ _ _).mono ?_; rintro e w' ⟨rfl, rfl⟩))
    go_ret3
    exact alongRet_no HQ.out hb1
  · have hne : ((zs.length : Int) != (L.length : Int)) = false := by simp [q2]
    clear hq q2
    go_enter Try.func78, Try.ntmps78
    go_wp2_with (first | (go_at_call 93; refine (iItemsOk_c _ _ _ _ h hn).mono ?_; rintro e w1 ⟨rfl, hb1⟩) | (go_at_call 68; refine (in_c _ _ _ _).mono ?_; rintro e w' ⟨rfl, rfl⟩))
    go_ret3
    exact alongRet_no HQ.out hb1
  · have hne : ((zs.length : Int) != (L.length : Int)) = false := by simp [q2]
    clear hq q2
    go_enter Try.func78, Try.ntmps78
    go_wp2_with (first | (go_at_call 93; refine (iItemsOk_c _ _ _ _ h hn).mono ?_; rintro e w1 ⟨rfl, hb1⟩) | (go_at_call 68; refine (in_c _ _ _ _).mono ?_; rintro e w' ⟨rfl, rfl⟩))
    go_ret3
    exact alongRet_no HQ.out hb1
  · have hne : ((zs.length : Int) != (L.length : Int)) = false := by simp [q2]
    clear hq q2
    have HA := Lib.hid q5
    clear q5
    go_enter Try.func78, Try.ntmps78
    go_wp2_with (first | (go_at_call 93; refine (iItemsOk_c _ _ _ _ h hn).mono ?_; rintro e w1 ⟨rfl, hb1⟩) | (go_at_call 68; refine (in_c _ _ _ _).mono ?_; rintro e w' ⟨rfl, rfl⟩))
    go_loopw [46] (fun i wr => ∃ (k : Nat), k ≤ zs.length ∧ i = .int .i64 k ∧ Hid (∀ j, j < k → inB (at_ zs j) 0 1048576 = true) ∧ Bel w wr) (fun i _ => zs.length - (intOf i).toNat)
    case atStart => exact ⟨0, Nat.zero_le _, by go_num, hid' (fun j hj => absurd hj (Nat.not_lt_zero _)), hb1⟩
    case round =>
      obtain ⟨k, hk, rfl, HX, hb⟩ := hrel
      by_cases hlt : k < zs.length
      · obtain ⟨b, o, rfl, hbl, hc⟩ := hz k hlt
        have hcA : wr.cell? ⟨b, o + k, none⟩ = some (.int .i64 (at_ zs k)) := (hb.cell _ _ hbl).trans (hc k hlt)
        clear hc
        cases he : inB (at_ zs k) 0 1048576
        · go_wp2_with ((go_at_call 68; refine (in_c _ _ _ _).mono ?_; rintro e w' ⟨rfl, rfl⟩))
          go_ret3
          exact alongRet_no HQ.out hb
        · have HE := Lib.hid he
          go_wp2_with ((go_at_call 68; refine (in_c _ _ _ _).mono ?_; rintro e w' ⟨rfl, rfl⟩))
          go_roundw
          case rel => exact ⟨k + 1, by omega, by go_num, hid' (fun j hj => by rcases Nat.lt_succ_iff_lt_or_eq.1 hj with h | h; exact HX.out j h; subst h; exact HE.out), hb⟩
          case measure => simp [intOf]; omega
      · have := allIn_true (zs := zs) (a := 0) (b := 1048576) fun j hj => HX.out j (by omega)
        exact absurd HA.out (by rw [this]; decide)
end Go.Proofs.Ytmipjhnjlpmidaa
