/- PlacesAlong, EndsAlong, both sides. -/
import Derived.Test.YtmipjhnjlpmidaaAlongG
import Derived.Test.YtmipjhnjlpmidaaAlongP
namespace Go.Proofs.Ytmipjhnjlpmidaa
open Go.RowKit Go.ChangeShapes Go.WideShapes
set_option linter.unusedVariables false
set_option linter.unusedSimpArgs false

def endsAlong (L : List Rec) (zs : List Int) (gap inner justify : Int) : Int := if L.length = 0 then 0 else alongE L zs gap inner justify
theorem alongL_len (L : List Rec) (zs : List Int) (gap inner justify : Int) : (alongL L zs gap inner justify).length = if alongOk L zs gap inner = true then L.length else 0 := by
  unfold alongL
  split
  · exact Al.starts_length _ _
  · rfl
theorem alongL_le (L : List Rec) (zs : List Int) (gap inner justify : Int) : (alongL L zs gap inner justify).length ≤ L.length := by
  rw [alongL_len]; split <;> omega
theorem ends_eq (L : List Rec) (zs : List Int) (gap inner justify : Int) : (if (alongL L zs gap inner justify).length = 0 then 0 else alongE L zs gap inner justify) = endsAlong L zs gap inner justify := by
  rw [alongL_len, endsAlong]
  by_cases h : alongOk L zs gap inner = true
  · rw [if_pos h]
  · simp [alongE, h]

theorem along_c (A : Option Addr) (c : Nat) (L : List Rec) (B : Option Addr) (d : Nat) (zs : List Int) (gap inner justify : Int) (w : World) (h : Recs w A k_item L) (hz : Ints w B zs) (hn : L.length ≤ 1048576) (hm : zs.length ≤ 1048576) :
    Calls Try.prog 78 #[.slice A L.length c, .slice B zs.length d, .int .i64 gap, .int .i64 inner, .int .i64 justify] w (AlongRet w L zs gap inner justify) := by
  cases hq : alongOk L zs gap inner
  · exact along_bad A c L B d zs gap inner justify w h hz hn hm hq
  · exact along_go (alOf L zs gap inner justify) justify A c B d inner w h hz (hid' hq) (hid' rfl)
set_option maxRecDepth 100000 in
set_option maxHeartbeats 2000000 in
theorem iPlacesAlong_c (A : Option Addr) (c : Nat) (L : List Rec) (B : Option Addr) (d : Nat) (zs : List Int) (gap inner justify : Int) (w : World) (h : Recs w A k_item L) (hz : Ints w B zs) (hn : L.length ≤ 1048576) (hm : zs.length ≤ 1048576) :
    Calls Try.prog 34 #[.slice A L.length c, .slice B zs.length d, .int .i64 gap, .int .i64 inner, .int .i64 justify] w fun r w' => ∃ v, r = .returned v ∧ w'.ownsRow w.heap.size 3 1 v (alongL L zs gap inner justify).length (VI (alongL L zs gap inner justify)) ∧ Bel w w' := by
  go_enter Try.func34, Try.ntmps34
  go_wp2_with fail
  refine (along_c _ _ _ _ _ _ _ _ _ _ h hz hn hm).mono ?_; rintro e w1 ⟨v, rfl, ho, hb⟩
  go_wp2_with fail
  go_ret
  exact ⟨_, rfl, ho, hb⟩
end Go.Proofs.Ytmipjhnjlpmidaa
