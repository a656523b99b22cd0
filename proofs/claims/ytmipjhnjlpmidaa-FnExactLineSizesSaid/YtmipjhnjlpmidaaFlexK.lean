/- Flexing and the families. -/
import Derived.Test.YtmipjhnjlpmidaaFlexIf
import Derived.Test.YtmipjhnjlpmidaaFamItem
namespace Go.Proofs.Ytmipjhnjlpmidaa
open Go.RowKit
theorem flexL_length (L : List Rec) (gap inner : Int) : (flexL L gap inner).length = L.length := by
  unfold flexL
  split
  · exact rowOf_length _ _
  · exact hyps_length _
theorem iFlexLineL_c (A : Option Addr) (c : Nat) (L : List Rec) (gap inner : Int) (w : World) (h : Recs w A k_item L) (hn : L.length ≤ 1048576) :
    Calls Try.prog 16 #[.slice A L.length c, .int .i64 gap, .int .i64 inner] w fun e w' => ∃ v, e = .returned v ∧ w'.ownsRow w.heap.size 3 1 v (flexL L gap inner).length (VI (flexL L gap inner)) ∧ Bel w w' :=
  (iFlexLine_c A c L gap inner w h hn).mono fun e w' hx => by
    obtain ⟨v, hv, ho, hb⟩ := hx
    exact ⟨v, hv, by rw [flexL_length]; exact ho, hb⟩
theorem sFlexLineL_c (A : Option Addr) (c : Nat) (L : List Rec) (gap inner : Int) (w : World) (h : Recs w A k_item L) (hn : L.length ≤ 1048576) :
    Calls Try.prog 15 #[.slice A L.length c, .int .i64 gap, .int .i64 inner] w fun e w' => ∃ v, e = .returned v ∧ w'.ownsRow w.heap.size 3 1 v (flexL L gap inner).length (VI (flexL L gap inner)) ∧ Bel w w' :=
  (sFlexLine_c A c L gap inner w h hn).mono fun e w' hx => by
    obtain ⟨v, hv, ho, hb⟩ := hx
    exact ⟨v, hv, by rw [flexL_length]; exact ho, hb⟩
end Go.Proofs.Ytmipjhnjlpmidaa
