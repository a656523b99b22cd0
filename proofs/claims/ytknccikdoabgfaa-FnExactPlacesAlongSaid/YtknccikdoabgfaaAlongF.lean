/- PlacesAlong, EndsAlong, both sides. -/
import Derived.Test.YtknccikdoabgfaaAlongG
import Derived.Test.YtknccikdoabgfaaAlongP
namespace Go.Proofs.Ytknccikdoabgfaa
open Go.RowKit Go.ChangeShapes Go.WideShapes
set_option linter.unusedVariables false
set_option linter.unusedSimpArgs false

def endsAlong (L : List Rec) (zs : List Int) (gap inner justify : Int) : Int := if L.length = 0 then 0 else alongE L zs gap inner justify
theorem alongL_len (L : List Rec) (zs : List Int) (gap inner justify : Int) : (alongL L zs gap inner justify).length = if alongOk L zs gap inner = true then L.length else 0 := by
  unfold alongL
  split
  · exact Al.starts_length _ _
  · rfl
theorem alongL_le (L : List Rec) (zs : List Int) (gap inner justify : Int) : (alongL L zs gap inner justify).length ≤ L.length := by
  rw [alongL_len]; split <;> omega
theorem ends_eq (L : List Rec) (zs : List Int) (gap inner justify : Int) : (if (alongL L zs gap inner justify).length = 0 then 0 else alongE L zs gap inner justify) = endsAlong L zs gap inner justify := by
  rw [alongL_len, endsAlong]
  by_cases h : alongOk L zs gap inner = true
  · rw [if_pos h]
  · simp [alongE, h]

theorem along_c (A : Option Addr) (c : Nat) (L : List Rec) (B : Option Addr) (d : Nat) (zs : List Int) (gap inner justify : Int) (w : World) (h : Recs w A k_item L) (hz : Ints w B zs) (hn : L.length ≤ 1048576) (hm : zs.length ≤ 1048576) :
    Calls Try.prog 64 #[.slice A L.length c, .slice B zs.length d, .int .i64 gap, .int .i64 inner, .int .i64 justify] w (AlongRet w L zs gap inner justify) := by
  cases hq : alongOk L zs gap inner
  · exact along_bad A c L B d zs gap inner justify w h hz hn hm hq
  · exact along_go (alOf L zs gap inner justify) justify A c B d inner w h hz (hid' hq) (hid' rfl)
set_option maxRecDepth 100000 in
set_option maxHeartbeats 2000000 in
theorem l15Places_c (A : Option Addr) (c : Nat) (L : List Rec) (B : Option Addr) (d : Nat) (zs : List Int) (gap inner justify : Int) (w : World) (h : Recs w A k_item L) (hz : Ints w B zs) (hn : L.length ≤ 1048576) (hm : zs.length ≤ 1048576) :
    Calls Try.prog 63 #[.slice A L.length c, .slice B zs.length d, .int .i64 gap, .int .i64 inner, .int .i64 justify] w (PlacesRet w L zs gap inner justify) := by
  cases hq : alongOk L zs gap inner
  · have ho0 : (w.alloc (.cells #[] 3)).ownsRow w.heap.size 3 1 (.slice (some ⟨w.heap.size, 0, none⟩) 0 0) 0 (VI []) := World.ownsRow_lit w #[] 0 (Nat.le_refl _) (by unfold maxLen; omega) rfl
    have hb0 : Bel w (w.alloc (.cells #[] 3)) := (Bel.refl w).alloc _
    have HRET : Hid (∀ w', Bel (w.alloc (.cells #[] 3)) w' → PlacesRet w L zs gap inner justify (.returned (.tuple #[.slice (some ⟨w.heap.size, 0, none⟩) 0 0, .int .i64 0])) w') := hid' (fun w' hb => by
      obtain ⟨e1, e2⟩ := along_no justify hq
      refine ⟨_, by rw [e2], ?_, hb0.trans hb⟩
      rw [e1]
      exact own_keep ho0 hb)
    clear ho0
    go_enter Try.func63, Try.ntmps63
    go_wp2_with fail
    refine (l15Ok_c _ _ _ _ _ _ _ _ _ (h.keep hb0) (hz.keep hb0) hn hm).mono ?_; rintro e w1 ⟨rfl, hb1⟩
    rw [hq]
    go_wp2_with fail
    go_ret2
    exact HRET.out _ hb1
  · exact sPlaces_go (alOf L zs gap inner justify) justify A c B d inner w h hz (hid' hq) (hid' rfl)
set_option maxRecDepth 100000 in
set_option maxHeartbeats 2000000 in
theorem iPlacesAlong_c (A : Option Addr) (c : Nat) (L : List Rec) (B : Option Addr) (d : Nat) (zs : List Int) (gap inner justify : Int) (w : World) (h : Recs w A k_item L) (hz : Ints w B zs) (hn : L.length ≤ 1048576) (hm : zs.length ≤ 1048576) :
    Calls Try.prog 48 #[.slice A L.length c, .slice B zs.length d, .int .i64 gap, .int .i64 inner, .int .i64 justify] w fun r w' => ∃ v, r = .returned v ∧ w'.ownsRow w.heap.size 3 1 v (alongL L zs gap inner justify).length (VI (alongL L zs gap inner justify)) ∧ Bel w w' := by
  go_enter Try.func48, Try.ntmps48
  go_wp2_with fail
  refine (along_c _ _ _ _ _ _ _ _ _ _ h hz hn hm).mono ?_; rintro e w1 ⟨v, rfl, ho, hb⟩
  go_wp2_with fail
  go_ret
  exact ⟨_, rfl, ho, hb⟩
set_option maxRecDepth 100000 in
set_option maxHeartbeats 2000000 in
theorem sPlacesAlong_c (A : Option Addr) (c : Nat) (L : List Rec) (B : Option Addr) (d : Nat) (zs : List Int) (gap inner justify : Int) (w : World) (h : Recs w A k_item L) (hz : Ints w B zs) (hn : L.length ≤ 1048576) (hm : zs.length ≤ 1048576) :
    Calls Try.prog 47 #[.slice A L.length c, .slice B zs.length d, .int .i64 gap, .int .i64 inner, .int .i64 justify] w fun r w' => ∃ v, r = .returned v ∧ w'.ownsRow w.heap.size 3 1 v (alongL L zs gap inner justify).length (VI (alongL L zs gap inner justify)) ∧ Bel w w' := by
  go_enter Try.func47, Try.ntmps47
  go_wp2_with fail
  refine (l15Places_c _ _ _ _ _ _ _ _ _ _ h hz hn hm).mono ?_; rintro e w1 ⟨v, rfl, ho, hb⟩
  go_wp2_with fail
  go_ret
  exact ⟨_, rfl, ho, hb⟩
set_option maxRecDepth 100000 in
set_option maxHeartbeats 2000000 in
theorem iEndsAlong_c (A : Option Addr) (c : Nat) (L : List Rec) (B : Option Addr) (d : Nat) (zs : List Int) (gap inner justify : Int) (w : World) (h : Recs w A k_item L) (hz : Ints w B zs) (hn : L.length ≤ 1048576) (hm : zs.length ≤ 1048576) :
    Calls Try.prog 46 #[.slice A L.length c, .slice B zs.length d, .int .i64 gap, .int .i64 inner, .int .i64 justify] w fun r w' => r = .returned (.int .i64 (endsAlong L zs gap inner justify)) ∧ Bel w w' := by
  have HE : Hid ((if (alongL L zs gap inner justify).length = 0 then 0 else alongE L zs gap inner justify) = endsAlong L zs gap inner justify) := hid' (ends_eq L zs gap inner justify)
  go_enter Try.func46, Try.ntmps46
  go_wp2_with fail
  refine (along_c _ _ _ _ _ _ _ _ _ _ h hz hn hm).mono ?_; rintro e w1 ⟨v, rfl, ho, hb⟩
  obtain ⟨V, cv, rfl, -, -, -, -⟩ := own_openN ho
  have HO := Lib.hid ho
  clear ho
  by_cases h0 : (alongL L zs gap inner justify).length = 0
  · have h0' : (((alongL L zs gap inner justify).length : Nat) : Int) = 0 := by omega
    rw [if_pos h0] at HE
    go_wp2_with fail
    go_ret
    exact ⟨by (show Ending.returned (.int .i64 0) = _; rw [HE.out]), hb⟩
  · have h0' : (((alongL L zs gap inner justify).length : Nat) : Int) ≠ 0 := by omega
    rw [if_neg h0] at HE
    go_wp2_with fail
    go_ret
    exact ⟨by (show Ending.returned (.int .i64 (alongE L zs gap inner justify)) = _; rw [HE.out]), hb⟩
set_option maxRecDepth 100000 in
set_option maxHeartbeats 2000000 in
theorem sEndsAlong_c (A : Option Addr) (c : Nat) (L : List Rec) (B : Option Addr) (d : Nat) (zs : List Int) (gap inner justify : Int) (w : World) (h : Recs w A k_item L) (hz : Ints w B zs) (hn : L.length ≤ 1048576) (hm : zs.length ≤ 1048576) :
    Calls Try.prog 45 #[.slice A L.length c, .slice B zs.length d, .int .i64 gap, .int .i64 inner, .int .i64 justify] w fun r w' => r = .returned (.int .i64 (endsAlong L zs gap inner justify)) ∧ Bel w w' := by
  have HE : Hid ((if L.length = 0 then 0 else alongE L zs gap inner justify) = endsAlong L zs gap inner justify) := hid' (rfl)
  go_enter Try.func45, Try.ntmps45
  go_wp2_with fail
  refine (l15Places_c _ _ _ _ _ _ _ _ _ _ h hz hn hm).mono ?_; rintro e w1 ⟨v, rfl, ho, hb⟩
  obtain ⟨V, cv, rfl, -, -, -, -⟩ := own_openN ho
  have HO := Lib.hid ho
  clear ho
  by_cases h0 : L.length = 0
  · have h0' : ((L.length : Nat) : Int) = 0 := by omega
    rw [if_pos h0] at HE
    go_wp2_with fail
    go_ret
    exact ⟨by (show Ending.returned (.int .i64 0) = _; rw [HE.out]), hb⟩
  · have h0' : ((L.length : Nat) : Int) ≠ 0 := by omega
    rw [if_neg h0] at HE
    go_wp2_with fail
    go_ret
    exact ⟨by (show Ending.returned (.int .i64 (alongE L zs gap inner justify)) = _; rw [HE.out]), hb⟩
end Go.Proofs.Ytknccikdoabgfaa
