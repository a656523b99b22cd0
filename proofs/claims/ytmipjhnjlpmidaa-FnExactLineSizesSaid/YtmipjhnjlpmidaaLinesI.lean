/- LinesOf, the given text of the program. -/
import Derived.Test.YtmipjhnjlpmidaaLines
namespace Go.Proofs.Ytmipjhnjlpmidaa
open Go.RowKit Go.ChangeShapes Go.WideShapes
set_option linter.unusedVariables false
set_option linter.unusedSimpArgs false

set_option maxRecDepth 100000 in
set_option maxHeartbeats 8000000 in
theorem iLinesOf_no (A : Option Addr) (c : Nat) (L : List Rec) (gap room : Int) (w : World) (h : Recs w A k_item L) (hn : L.length ≤ 1048576) (hr : ¬ room < 0) (hi : itemsOk L = true) (HO : Hid (oneOf L room true = false)) :
    Calls Try.prog 62 #[.slice A L.length c, .int .i64 gap, .int .i64 room, .bool true] w fun r w' => ∃ v, r = .returned v ∧ LinesAt w' w.heap.size v (linesOf L gap room true) ∧ Bel w w' := by
  go_enter Try.func62, Try.ntmps62
  go_wp2_with ((go_at_call 93; refine (iItemsOk_c _ _ _ _ h hn).mono ?_; rintro e w1 ⟨rfl, hb1⟩))
  clear hi
  go_loopw [9, 28] (fun v i wr => ∃ (k : Nat) (VS : List Value), k ≤ L.length ∧ i = .int .i64 k ∧ VS.length = (linesTo L gap room false k).length ∧ Fam wr w.heap.size (⟨29, 1, v, (linesTo L gap room false k).length, VS⟩ :: rowsOf VS (linesTo L gap room false k)) ∧ Bel w wr) (fun _ i _ => L.length - (intOf i).toNat)
  case atStart => exact ⟨0, [], Nat.zero_le _, by go_num, rfl, Fam.one (r := ⟨29, 1, .slice none 0 0, 0, []⟩) ⟨rfl, .inl ⟨rfl, rfl⟩⟩, hb1⟩
  case round =>
    obtain ⟨k, VS, hk, rfl, hl, hF, hb⟩ := hrel
    obtain ⟨P, hP⟩ : ∃ P, linesTo L gap room false k = P := ⟨_, rfl⟩
    rw [hP] at hl hF
    have hbd := linesTo_bd L gap room false k
    rw [hP] at hbd
    obtain ⟨Av, cv, rfl, hcv, hcm, hR⟩ := LinesAt.rows ⟨VS, hl, hF⟩
    have HP := Lib.hid hP
    have HBD := Lib.hid hbd
    have HL := Lib.hid hl
    have hPk : P.length ≤ k := hbd.1
    clear hP hbd hl
    have HF := Lib.hid hF
    have ho := LinesAt.outer hF
    clear hF
    by_cases hlt : k < L.length
    · by_cases h0 : P.length = 0
      · have HN : Hid (linesTo L gap room false (k + 1) = P ++ [[(k : Int)]]) := hid' (next_first HP.out h0)
        have h0i : (P.length : Int) ≤ 0 := by omega
        have H0 := Lib.hid h0
        clear h0
        -- one line more: 61 64 the operands, wr the world, hb Bel w wr, Bel.refl wr Bel wr wr, ho the row
        go_wp2_with (at_builtin; refine appG rfl (.tmp 61) (.tmp 64) 73 29 rfl (.slice none 0 0) 1 24 Try.underlying73 Try.info_ints rfl (by decide) (by decide) w.heap.size _ _ VS rfl (((ho).alloc _).alloc _) (wr.heap.size + 1) rfl [.slice (some ⟨wr.heap.size, 0, none⟩) 1 1] rfl (fun j u hj => by match j, hj with | 0, hj => simp at hj; subst hj; simp) (fun u hu => by simp at hu; subst hu; rfl) (by omega) (by have := (hb).sz; simp; omega) ?_; intro v' w' hov hg' hloc)
        go_roundw
        case rel =>
          have hn1 : (wr.alloc (.cells #[.int .i64 (k : Int)] 3)).ownsRow wr.heap.size 3 1 (.slice (some ⟨wr.heap.size, 0, none⟩) 1 1) 1 (VI [(k : Int)]) := World.ownsRow_lit wr #[.int .i64 (k : Int)] 1 (Bel.refl wr).sz (by unfold maxLen; omega) rfl
          have hAt := LinesAt.push (l := [(k : Int)]) HL.out HF.out (((Bel.refl wr).alloc _).alloc _) hb.sz (hn1.alloc _) hov hg' hloc
          rw [← HN.out] at hAt
          obtain ⟨VT, t1, t2⟩ := hAt
          exact ⟨k + 1, VT, by omega, by go_num, t1, t2, ((((hb).alloc _).alloc _)).own (Nat.le_refl _) (((ho).alloc _).alloc _) hg'⟩
        case measure => simp [intOf]; omega
      · -- the last line, and the item behind it
        obtain ⟨b, o, rfl, hbl, hR2⟩ := hR (P.length - 1) (by omega)
        obtain rfl : o = 0 := own_off ho (by omega)
        obtain ⟨B, d, hcB, hd1, hd2, hB0, hBI⟩ := hR2 (P.length - 1) (by omega)
        rw [Nat.zero_add] at hcB
        have hl0 : (P.getD (P.length - 1) []).length ≤ k := HBD.out.2 _ (List.mem_of_getElem? (getD_eq (by omega)))
        obtain ⟨l0, he0⟩ : ∃ l0, P.getD (P.length - 1) [] = l0 := ⟨_, rfl⟩
        rw [he0] at hcB hd1 hBI hl0
        have HE0 := Lib.hid he0
        obtain ⟨l1, he1⟩ : ∃ l1, l0 ++ [(k : Int)] = l1 := ⟨_, rfl⟩
        have hl1 : l1.length = l0.length + 1 := by rw [← he1]; simp
        have hlen : l1.length ≤ 1048576 := by omega
        have HE1 := Lib.hid he1
        have HLE := Lib.hid hl1
        clear hR2 hR he0 he1 hl1
        have hlin := lineItems_le L l1
        go_wp2_with fail
        refine (copyInts_c _ _ _ _ hBI hB0 (by omega)).mono ?_; rintro e w1 ⟨u1, rfl, hu1, hb1⟩
        go_wp2_with (at_builtin; refine app1 rfl (.tmp 40) (.tmp 42) rfl wr.heap.size _ _ _ rfl (hu1.alloc _) w1.heap.size _ rfl (World.cell?_alloc_new _ _ _ _) (by omega) (hb1.alloc _).sz ?_; intro u2 w2 hu2 hg2)
        have hB2 : Bel wr w2 := (hb1.alloc _).own (Nat.le_refl _) (hu1.alloc _) hg2
        rw [VI_snoc, HE1.out] at hu2
        obtain ⟨A2, c2, rfl, -, -, -, hI2⟩ := own_open hu2
        have h2 := (h.keep hb).keep hB2
        by_cases hq : outerOf (lineItems L l1) (hyps (lineItems L l1)) gap ≤ room
        · have HN : Hid (linesTo L gap room false (k + 1) = P.set (P.length - 1) l1) := hid' (next_set HP.out (by omega) HE0.out HE1.out (by simp [outerL, hq]))
          go_wp2_with fail
          refine (iLineItems_c _ _ _ _ _ _ _ h2 hI2 hn hlen).mono ?_; rintro e w3 ⟨v3, rfl, ho3, hb3⟩
          obtain ⟨A3, c3, rfl, -, -, h3⟩ := own_openR rfl ho3
          go_wp2_with fail
          refine (ihyps_c _ _ _ _ h3 (by omega)).mono ?_; rintro e w4 ⟨v4, rfl, ho4, hb4⟩
          obtain ⟨A4, c4, rfl, -, -, -, h4⟩ := own_open ho4
          go_wp2_with fail
          refine (iOuterOf_c _ _ _ _ _ _ _ _ (h3.keep hb4) h4 (by omega) (by rw [hyps_length]; omega)).mono ?_; rintro e w5 ⟨rfl, hb5⟩
          have hB5 : Bel wr w5 := ((hB2.trans hb3).trans hb4).trans hb5
          -- the line is put back: w5 the world, hb.trans hB5 Bel w w5, hB5 Bel wr w5, own_keep hu2 ((hb3.trans hb4).trans hb5) the line's row there
          have hoX := own_keep ho (hB5)
          have hcX : w5.cell? ⟨b, P.length - 1, none⟩ = some (.slice B l0.length d) := ((hB5).cell _ _ hbl).trans hcB
          have hfX : w5.frozen? ⟨b, P.length - 1, none⟩ = false := hoX.frozenAt _
          have hbg : w.heap.size ≤ b := (ho.lt b rfl).1
          have HS := Lib.hid (hoX.stored (P.length - 1) (.slice A2 l1.length c2))
          go_wp2_with fail
          go_roundw
          case rel =>
            have hAt := LinesAt.store HL.out HF.out (hB5) hb.sz (own_keep hu2 ((hb3.trans hb4).trans hb5)) (by omega) HS.out.1 HS.out.2
            rw [← HN.out] at hAt
            obtain ⟨VT, t1, t2⟩ := hAt
            exact ⟨k + 1, VT, by omega, by go_num, t1, t2, (hb.trans hB5).setCell hbg _⟩
          case measure => simp [intOf]; omega
        · have HN : Hid (linesTo L gap room false (k + 1) = P ++ [[(k : Int)]]) := hid' (next_new HP.out (by omega) HE0.out HE1.out (by rw [Bool.false_or]; exact decide_eq_false hq))
          go_wp2_with fail
          refine (iLineItems_c _ _ _ _ _ _ _ h2 hI2 hn hlen).mono ?_; rintro e w3 ⟨v3, rfl, ho3, hb3⟩
          obtain ⟨A3, c3, rfl, -, -, h3⟩ := own_openR rfl ho3
          go_wp2_with fail
          refine (ihyps_c _ _ _ _ h3 (by omega)).mono ?_; rintro e w4 ⟨v4, rfl, ho4, hb4⟩
          obtain ⟨A4, c4, rfl, -, -, -, h4⟩ := own_open ho4
          go_wp2_with fail
          refine (iOuterOf_c _ _ _ _ _ _ _ _ (h3.keep hb4) h4 (by omega) (by rw [hyps_length]; omega)).mono ?_; rintro e w5 ⟨rfl, hb5⟩
          have hB5 : Bel wr w5 := ((hB2.trans hb3).trans hb4).trans hb5
          -- one line more: 61 64 the operands, w5 the world, hb.trans hB5 Bel w w5, hB5 Bel wr w5, own_keep ho hB5 the row
          go_wp2_with (at_builtin; refine appG rfl (.tmp 61) (.tmp 64) 73 29 rfl (.slice none 0 0) 1 24 Try.underlying73 Try.info_ints rfl (by decide) (by decide) w.heap.size _ _ VS rfl (((own_keep ho hB5).alloc _).alloc _) (w5.heap.size + 1) rfl [.slice (some ⟨w5.heap.size, 0, none⟩) 1 1] rfl (fun j u hj => by match j, hj with | 0, hj => simp at hj; subst hj; simp) (fun u hu => by simp at hu; subst hu; rfl) (by omega) (by have := (hb.trans hB5).sz; simp; omega) ?_; intro v' w' hov hg' hloc)
          go_roundw
          case rel =>
            have hn1 : (w5.alloc (.cells #[.int .i64 (k : Int)] 3)).ownsRow wr.heap.size 3 1 (.slice (some ⟨w5.heap.size, 0, none⟩) 1 1) 1 (VI [(k : Int)]) := World.ownsRow_lit w5 #[.int .i64 (k : Int)] 1 (hB5).sz (by unfold maxLen; omega) rfl
            have hAt := LinesAt.push (l := [(k : Int)]) HL.out HF.out (((hB5).alloc _).alloc _) hb.sz (hn1.alloc _) hov hg' hloc
            rw [← HN.out] at hAt
            obtain ⟨VT, t1, t2⟩ := hAt
            exact ⟨k + 1, VT, by omega, by go_num, t1, t2, ((((hb.trans hB5).alloc _).alloc _)).own (Nat.le_refl _) (((own_keep ho hB5).alloc _).alloc _) hg'⟩
          case measure => simp [intOf]; omega
    · obtain rfl : k = L.length := by omega
      go_wp2_with fail
      go_ret
      refine ⟨_, rfl, ?_, hb⟩
      unfold linesOf
      rw [HO.out, HP.out]
      exact ⟨VS, HL.out, HF.out⟩
set_option maxRecDepth 100000 in
set_option maxHeartbeats 8000000 in
theorem iLinesOf_yes (A : Option Addr) (c : Nat) (L : List Rec) (gap room : Int) (wraps : Bool) (w : World) (h : Recs w A k_item L) (hn : L.length ≤ 1048576) (HO : Hid (oneOf L room wraps = true)) :
    Calls Try.prog 62 #[.slice A L.length c, .int .i64 gap, .int .i64 room, .bool wraps] w fun r w' => ∃ v, r = .returned v ∧ LinesAt w' w.heap.size v (linesOf L gap room wraps) ∧ Bel w w' := by
  have hcases : wraps = false ∨ (wraps = true ∧ room < 0) ∨ (wraps = true ∧ ¬ room < 0 ∧ itemsOk L = false) := by
    have := HO.out
    simp [oneOf] at this
    cases wraps
    · exact .inl rfl
    · by_cases hr : room < 0
      · exact .inr (.inl ⟨rfl, hr⟩)
      · exact .inr (.inr ⟨rfl, hr, by simpa [show ¬ room < 0 from hr] using this⟩)
  rcases hcases with rfl | ⟨rfl, hr⟩ | ⟨rfl, hr, hi⟩
  all_goals
    go_enter Try.func62, Try.ntmps62
    go_wp2_with ((go_at_call 93; refine (iItemsOk_c _ _ _ _ h hn).mono ?_; rintro e w1 ⟨rfl, hb1⟩))
    go_loopw [9, 28] (fun v i wr => ∃ (k : Nat) (VS : List Value), k ≤ L.length ∧ i = .int .i64 k ∧ VS.length = (linesTo L gap room true k).length ∧ Fam wr w.heap.size (⟨29, 1, v, (linesTo L gap room true k).length, VS⟩ :: rowsOf VS (linesTo L gap room true k)) ∧ Bel w wr) (fun _ i _ => L.length - (intOf i).toNat)
    case atStart => exact ⟨0, [], Nat.zero_le _, by go_num, rfl, Fam.one (r := ⟨29, 1, .slice none 0 0, 0, []⟩) ⟨rfl, .inl ⟨rfl, rfl⟩⟩, by first | exact hb1 | exact Bel.refl w⟩
    case round =>
      obtain ⟨k, VS, hk, rfl, hl, hF, hb⟩ := hrel
      obtain ⟨P, hP⟩ : ∃ P, linesTo L gap room true k = P := ⟨_, rfl⟩
      rw [hP] at hl hF
      have hbd := linesTo_bd L gap room true k
      rw [hP] at hbd
      obtain ⟨Av, cv, rfl, hcv, hcm, hR⟩ := LinesAt.rows ⟨VS, hl, hF⟩
      have HP := Lib.hid hP
      have HBD := Lib.hid hbd
      have HL := Lib.hid hl
      have hPk : P.length ≤ k := hbd.1
      clear hP hbd hl
      have HF := Lib.hid hF
      have ho := LinesAt.outer hF
      clear hF
      by_cases hlt : k < L.length
      · by_cases h0 : P.length = 0
        · have HN : Hid (linesTo L gap room true (k + 1) = P ++ [[(k : Int)]]) := hid' (next_first HP.out h0)
          have h0i : (P.length : Int) ≤ 0 := by omega
          have H0 := Lib.hid h0
          clear h0
          -- one line more: 61 64 the operands, wr the world, hb Bel w wr, Bel.refl wr Bel wr wr, ho the row
          go_wp2_with (at_builtin; refine appG rfl (.tmp 61) (.tmp 64) 73 29 rfl (.slice none 0 0) 1 24 Try.underlying73 Try.info_ints rfl (by decide) (by decide) w.heap.size _ _ VS rfl (((ho).alloc _).alloc _) (wr.heap.size + 1) rfl [.slice (some ⟨wr.heap.size, 0, none⟩) 1 1] rfl (fun j u hj => by match j, hj with | 0, hj => simp at hj; subst hj; simp) (fun u hu => by simp at hu; subst hu; rfl) (by omega) (by have := (hb).sz; simp; omega) ?_; intro v' w' hov hg' hloc)
          go_roundw
          case rel =>
            have hn1 : (wr.alloc (.cells #[.int .i64 (k : Int)] 3)).ownsRow wr.heap.size 3 1 (.slice (some ⟨wr.heap.size, 0, none⟩) 1 1) 1 (VI [(k : Int)]) := World.ownsRow_lit wr #[.int .i64 (k : Int)] 1 (Bel.refl wr).sz (by unfold maxLen; omega) rfl
            have hAt := LinesAt.push (l := [(k : Int)]) HL.out HF.out (((Bel.refl wr).alloc _).alloc _) hb.sz (hn1.alloc _) hov hg' hloc
            rw [← HN.out] at hAt
            obtain ⟨VT, t1, t2⟩ := hAt
            exact ⟨k + 1, VT, by omega, by go_num, t1, t2, ((((hb).alloc _).alloc _)).own (Nat.le_refl _) (((ho).alloc _).alloc _) hg'⟩
          case measure => simp [intOf]; omega
        · -- the last line, and the item behind it
          obtain ⟨b, o, rfl, hbl, hR2⟩ := hR (P.length - 1) (by omega)
          obtain rfl : o = 0 := own_off ho (by omega)
          obtain ⟨B, d, hcB, hd1, hd2, hB0, hBI⟩ := hR2 (P.length - 1) (by omega)
          rw [Nat.zero_add] at hcB
          have hl0 : (P.getD (P.length - 1) []).length ≤ k := HBD.out.2 _ (List.mem_of_getElem? (getD_eq (by omega)))
          obtain ⟨l0, he0⟩ : ∃ l0, P.getD (P.length - 1) [] = l0 := ⟨_, rfl⟩
          rw [he0] at hcB hd1 hBI hl0
          have HE0 := Lib.hid he0
          obtain ⟨l1, he1⟩ : ∃ l1, l0 ++ [(k : Int)] = l1 := ⟨_, rfl⟩
          have hl1 : l1.length = l0.length + 1 := by rw [← he1]; simp
          have hlen : l1.length ≤ 1048576 := by omega
          have HE1 := Lib.hid he1
          have HLE := Lib.hid hl1
          clear hR2 hR he0 he1 hl1
          have hlin := lineItems_le L l1
          go_wp2_with fail
          refine (copyInts_c _ _ _ _ hBI hB0 (by omega)).mono ?_; rintro e w1 ⟨u1, rfl, hu1, hb1⟩
          go_wp2_with (at_builtin; refine app1 rfl (.tmp 40) (.tmp 42) rfl wr.heap.size _ _ _ rfl (hu1.alloc _) w1.heap.size _ rfl (World.cell?_alloc_new _ _ _ _) (by omega) (hb1.alloc _).sz ?_; intro u2 w2 hu2 hg2)
          have hB2 : Bel wr w2 := (hb1.alloc _).own (Nat.le_refl _) (hu1.alloc _) hg2
          rw [VI_snoc, HE1.out] at hu2
          obtain ⟨A2, c2, rfl, -, -, -, hI2⟩ := own_open hu2
          have h2 := (h.keep hb).keep hB2
          have HN : Hid (linesTo L gap room true (k + 1) = P.set (P.length - 1) l1) := hid' (next_set HP.out (by omega) HE0.out HE1.out (by simp [outerL]))
          go_wp2_with fail
          refine (iLineItems_c _ _ _ _ _ _ _ h2 hI2 hn hlen).mono ?_; rintro e w3 ⟨v3, rfl, ho3, hb3⟩
          -- the line is put back: w3 the world, hb.trans (hB2.trans hb3) Bel w w3, hB2.trans hb3 Bel wr w3, own_keep hu2 hb3 the line's row there
          have hoX := own_keep ho (hB2.trans hb3)
          have hcX : w3.cell? ⟨b, P.length - 1, none⟩ = some (.slice B l0.length d) := ((hB2.trans hb3).cell _ _ hbl).trans hcB
          have hfX : w3.frozen? ⟨b, P.length - 1, none⟩ = false := hoX.frozenAt _
          have hbg : w.heap.size ≤ b := (ho.lt b rfl).1
          have HS := Lib.hid (hoX.stored (P.length - 1) (.slice A2 l1.length c2))
          go_wp2_with fail
          go_roundw
          case rel =>
            have hAt := LinesAt.store HL.out HF.out (hB2.trans hb3) hb.sz (own_keep hu2 hb3) (by omega) HS.out.1 HS.out.2
            rw [← HN.out] at hAt
            obtain ⟨VT, t1, t2⟩ := hAt
            exact ⟨k + 1, VT, by omega, by go_num, t1, t2, (hb.trans (hB2.trans hb3)).setCell hbg _⟩
          case measure => simp [intOf]; omega
      · obtain rfl : k = L.length := by omega
        go_wp2_with fail
        go_ret
        refine ⟨_, rfl, ?_, hb⟩
        unfold linesOf
        rw [HO.out, HP.out]
        exact ⟨VS, HL.out, HF.out⟩
theorem iLinesOf_c (A : Option Addr) (c : Nat) (L : List Rec) (gap room : Int) (wraps : Bool) (w : World) (h : Recs w A k_item L) (hn : L.length ≤ 1048576) :
    Calls Try.prog 62 #[.slice A L.length c, .int .i64 gap, .int .i64 room, .bool wraps] w fun r w' => ∃ v, r = .returned v ∧ LinesAt w' w.heap.size v (linesOf L gap room wraps) ∧ Bel w w' := by
  cases hone : oneOf L room wraps
  · obtain ⟨hw, hr, hi⟩ : wraps = true ∧ ¬ room < 0 ∧ itemsOk L = true := by
      have := hone
      simp [oneOf] at this
      exact ⟨this.1.1, by omega, this.2⟩
    subst hw
    exact iLinesOf_no A c L gap room w h hn hr hi hone
  · exact iLinesOf_yes A c L gap room wraps w h hn hone
end Go.Proofs.Ytmipjhnjlpmidaa
