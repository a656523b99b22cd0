/- LinesOf, the reference's text. -/
import Derived.Test.YtmipjhnjlpmidaaLines
namespace Go.Proofs.Ytmipjhnjlpmidaa
open Go.RowKit Go.ChangeShapes Go.WideShapes
set_option linter.unusedVariables false
set_option linter.unusedSimpArgs false

set_option maxRecDepth 100000 in
set_option maxHeartbeats 4000000 in
theorem sLinesOf_no (A : Option Addr) (c : Nat) (L : List Rec) (gap room : Int) (w : World) (h : Recs w A k_item L) (hn : L.length ≤ 1048576) (hr : ¬ room < 0) (hi : itemsOk L = true) (HO : Hid (oneOf L room true = false)) :
    Calls Try.prog 60 #[.slice A L.length c, .int .i64 gap, .int .i64 room, .bool true] w fun r w' => ∃ v, r = .returned v ∧ LinesAt w' w.heap.size v (linesOf L gap room true) ∧ Bel w w' := by
  have hst : (w.alloc (.cells #[] 29)).ownsRow w.heap.size 29 1 (.slice (some ⟨w.heap.size, 0, none⟩) 0 0) 0 [] := World.ownsRow_lit w #[] 0 (Nat.le_refl _) (by unfold maxLen; omega) rfl
  go_enter Try.func60, Try.ntmps60
  go_wp2_with fail
  go_loopw [9, 10] (fun v i wr => ∃ (k : Nat) (VS : List Value), k ≤ L.length ∧ i = .int .i64 k ∧ VS.length = (linesTo L gap room false k).length ∧ Fam wr w.heap.size (⟨29, 1, v, (linesTo L gap room false k).length, VS⟩ :: rowsOf VS (linesTo L gap room false k)) ∧ Bel w wr) (fun _ i _ => L.length - (intOf i).toNat)
  case atStart => exact ⟨0, [], Nat.zero_le _, by go_num, rfl, Fam.one (r := ⟨29, 1, .slice (some ⟨w.heap.size, 0, none⟩) 0 0, 0, []⟩) hst, (Bel.refl w).alloc _⟩
  case round =>
    obtain ⟨k, VS, hk, rfl, hl, hF, hb⟩ := hrel
    obtain ⟨P, hP⟩ : ∃ P, linesTo L gap room false k = P := ⟨_, rfl⟩
    rw [hP] at hl hF
    have hbd := linesTo_bd L gap room false k
    rw [hP] at hbd
    obtain ⟨Av, cv, rfl, hcv, hcm, hR⟩ := LinesAt.rows ⟨VS, hl, hF⟩
    have HP := Lib.hid hP
    have HBD := Lib.hid hbd
    have HL := Lib.hid hl
    have hPk : P.length ≤ k := hbd.1
    clear hP hbd hl
    have HF := Lib.hid hF
    have ho := LinesAt.outer hF
    clear hF
    by_cases hlt : k < L.length
    · by_cases h0 : P.length = 0
      · have HN : Hid (linesTo L gap room false (k + 1) = P ++ [[(k : Int)]]) := hid' (next_first HP.out h0)
        have h0i : (P.length : Int) ≤ 0 := by omega
        have H0 := Lib.hid h0
        clear h0
        -- one line more: 57 60 the operands, wr the world, hb Bel w wr, Bel.refl wr Bel wr wr, ho the row
        go_wp2_with (at_builtin; refine appG rfl (.tmp 57) (.tmp 60) 73 29 rfl (.slice none 0 0) 1 24 Try.underlying73 Try.info_ints rfl (by decide) (by decide) w.heap.size _ _ VS rfl (((ho).alloc _).alloc _) (wr.heap.size + 1) rfl [.slice (some ⟨wr.heap.size, 0, none⟩) 1 1] rfl (fun j u hj => by match j, hj with | 0, hj => simp at hj; subst hj; simp) (fun u hu => by simp at hu; subst hu; rfl) (by omega) (by have := (hb).sz; simp; omega) ?_; intro v' w' hov hg' hloc)
        go_roundw
        case rel =>
          have hn1 : (wr.alloc (.cells #[.int .i64 (k : Int)] 3)).ownsRow wr.heap.size 3 1 (.slice (some ⟨wr.heap.size, 0, none⟩) 1 1) 1 (VI [(k : Int)]) := World.ownsRow_lit wr #[.int .i64 (k : Int)] 1 (Bel.refl wr).sz (by unfold maxLen; omega) rfl
          have hAt := LinesAt.push (l := [(k : Int)]) HL.out HF.out (((Bel.refl wr).alloc _).alloc _) hb.sz (hn1.alloc _) hov hg' hloc
          rw [← HN.out] at hAt
          obtain ⟨VT, t1, t2⟩ := hAt
          exact ⟨k + 1, VT, by omega, by go_num, t1, t2, ((((hb).alloc _).alloc _)).own (Nat.le_refl _) (((ho).alloc _).alloc _) hg'⟩
        case measure => simp [intOf]; omega
      · -- the last line, and the item behind it
        obtain ⟨b, o, rfl, hbl, hR2⟩ := hR (P.length - 1) (by omega)
        obtain rfl : o = 0 := own_off ho (by omega)
        obtain ⟨B, d, hcB, hd1, hd2, hB0, hBI⟩ := hR2 (P.length - 1) (by omega)
        rw [Nat.zero_add] at hcB
        have hl0 : (P.getD (P.length - 1) []).length ≤ k := HBD.out.2 _ (List.mem_of_getElem? (getD_eq (by omega)))
        obtain ⟨l0, he0⟩ : ∃ l0, P.getD (P.length - 1) [] = l0 := ⟨_, rfl⟩
        rw [he0] at hcB hd1 hBI hl0
        have HE0 := Lib.hid he0
        obtain ⟨l1, he1⟩ : ∃ l1, l0 ++ [(k : Int)] = l1 := ⟨_, rfl⟩
        have hl1 : l1.length = l0.length + 1 := by rw [← he1]; simp
        have hlen : l1.length ≤ 1048576 := by omega
        have HE1 := Lib.hid he1
        have HLE := Lib.hid hl1
        clear hR2 hR he0 he1 hl1
        have hlin := lineItems_le L l1
        have hlit : (wr.alloc (.cells #[] 3)).ownsRow wr.heap.size 3 1 (.slice (some ⟨wr.heap.size, 0, none⟩) 0 0) 0 [] := World.ownsRow_lit wr #[] 0 (Nat.le_refl _) (by unfold maxLen; omega) rfl
        go_wp2_with (first | (at_builtin; refine appS rfl (.tmp 25) (.tmp 29) rfl wr.heap.size _ 0 [] rfl hlit _ _ _ rfl (hBI.keep ((Bel.refl wr).alloc _)) hB0 (by omega) ((Bel.refl wr).alloc _).sz ?_; intro u1 w1 hu1 hg1; have hb1 : Bel wr w1 := ((Bel.refl wr).alloc _).own (Nat.le_refl _) hlit hg1; rw [List.nil_append] at hu1) | (at_builtin; refine app1 rfl (.tmp 30) (.tmp 32) rfl wr.heap.size _ _ _ rfl (hu1.alloc _) w1.heap.size _ rfl (World.cell?_alloc_new _ _ _ _) (by omega) (hb1.alloc _).sz ?_; intro u2 w2 hu2 hg2; have hB2 : Bel wr w2 := (hb1.alloc _).own (Nat.le_refl _) (hu1.alloc _) hg2; rw [VI_snoc, HE1.out] at hu2; obtain ⟨A2, c2, rfl, -, -, -, hI2⟩ := own_open hu2; have hoX2 := own_keep ho hB2; have hcX2 : w2.cell? ⟨b, P.length - 1, none⟩ = some (.slice B l0.length d) := (hB2.cell _ _ hbl).trans hcB; have hfX2 : w2.frozen? ⟨b, P.length - 1, none⟩ = false := hoX2.frozenAt _))
        have h2 := (h.keep hb).keep hB2
        by_cases hq : outerL L l1 gap ≤ room
        · have HN : Hid (linesTo L gap room false (k + 1) = P.set (P.length - 1) l1) := hid' (next_set HP.out (by omega) HE0.out HE1.out (by simp [hq]))
          go_wp2_with (first | (go_at_call 87; refine (sItemsOk_c _ _ _ _ h2 hn).mono ?_; rintro e w3 ⟨rfl, hb3⟩; have h3 := h2.keep hb3; have hI3 := hI2.keep hb3) | (go_at_call 97; refine (l14Outer_c _ _ _ _ _ _ _ _ h3 hI3 hn hlen).mono ?_; rintro e w5 ⟨rfl, hb5⟩; have hB5 : Bel wr w5 := (hB2.trans hb3).trans hb5; have hoX := own_keep ho hB5; have hcX : w5.cell? ⟨b, P.length - 1, none⟩ = some (.slice B l0.length d) := (hB5.cell _ _ hbl).trans hcB; have hfX : w5.frozen? ⟨b, P.length - 1, none⟩ = false := hoX.frozenAt _))
          have hbg : w.heap.size ≤ b := (ho.lt b rfl).1
          have HS := Lib.hid (hoX.stored (P.length - 1) (.slice A2 l1.length c2))
          go_roundw
          case rel =>
            have hAt := LinesAt.store HL.out HF.out hB5 hb.sz (own_keep hu2 (hb3.trans hb5)) (by omega) HS.out.1 HS.out.2
            rw [← HN.out] at hAt
            obtain ⟨VT, t1, t2⟩ := hAt
            exact ⟨k + 1, VT, by omega, by go_num, t1, t2, (hb.trans hB5).setCell hbg _⟩
          case measure => simp [intOf]; omega
        · have HN : Hid (linesTo L gap room false (k + 1) = P ++ [[(k : Int)]]) := hid' (next_new HP.out (by omega) HE0.out HE1.out (by rw [Bool.false_or]; exact decide_eq_false hq))
          go_wp2_with fail
          refine (sItemsOk_c _ _ _ _ h2 hn).mono ?_; rintro e w3 ⟨rfl, hb3⟩
          have h3 := h2.keep hb3
          have hI3 := hI2.keep hb3
          go_wp2_with fail
          refine (l14Outer_c _ _ _ _ _ _ _ _ h3 hI3 hn hlen).mono ?_; rintro e w5 ⟨rfl, hb5⟩
          have hB5 : Bel wr w5 := (hB2.trans hb3).trans hb5
          -- one line more: 57 60 the operands, w5 the world, hb.trans hB5 Bel w w5, hB5 Bel wr w5, own_keep ho hB5 the row
          go_wp2_with (at_builtin; refine appG rfl (.tmp 57) (.tmp 60) 73 29 rfl (.slice none 0 0) 1 24 Try.underlying73 Try.info_ints rfl (by decide) (by decide) w.heap.size _ _ VS rfl (((own_keep ho hB5).alloc _).alloc _) (w5.heap.size + 1) rfl [.slice (some ⟨w5.heap.size, 0, none⟩) 1 1] rfl (fun j u hj => by match j, hj with | 0, hj => simp at hj; subst hj; simp) (fun u hu => by simp at hu; subst hu; rfl) (by omega) (by have := (hb.trans hB5).sz; simp; omega) ?_; intro v' w' hov hg' hloc)
          go_roundw
          case rel =>
            have hn1 : (w5.alloc (.cells #[.int .i64 (k : Int)] 3)).ownsRow wr.heap.size 3 1 (.slice (some ⟨w5.heap.size, 0, none⟩) 1 1) 1 (VI [(k : Int)]) := World.ownsRow_lit w5 #[.int .i64 (k : Int)] 1 (hB5).sz (by unfold maxLen; omega) rfl
            have hAt := LinesAt.push (l := [(k : Int)]) HL.out HF.out (((hB5).alloc _).alloc _) hb.sz (hn1.alloc _) hov hg' hloc
            rw [← HN.out] at hAt
            obtain ⟨VT, t1, t2⟩ := hAt
            exact ⟨k + 1, VT, by omega, by go_num, t1, t2, ((((hb.trans hB5).alloc _).alloc _)).own (Nat.le_refl _) (((own_keep ho hB5).alloc _).alloc _) hg'⟩
          case measure => simp [intOf]; omega
    · obtain rfl : k = L.length := by omega
      go_wp2_with fail
      go_ret
      refine ⟨_, rfl, ?_, hb⟩
      unfold linesOf
      rw [HO.out, HP.out]
      exact ⟨VS, HL.out, HF.out⟩
set_option maxRecDepth 100000 in
set_option maxHeartbeats 4000000 in
theorem sLinesOf_yes1 (A : Option Addr) (c : Nat) (L : List Rec) (gap room : Int) (w : World) (h : Recs w A k_item L) (hn : L.length ≤ 1048576) (HO : Hid (oneOf L room false = true)) :
    Calls Try.prog 60 #[.slice A L.length c, .int .i64 gap, .int .i64 room, .bool false] w fun r w' => ∃ v, r = .returned v ∧ LinesAt w' w.heap.size v (linesOf L gap room false) ∧ Bel w w' := by
  have hst : (w.alloc (.cells #[] 29)).ownsRow w.heap.size 29 1 (.slice (some ⟨w.heap.size, 0, none⟩) 0 0) 0 [] := World.ownsRow_lit w #[] 0 (Nat.le_refl _) (by unfold maxLen; omega) rfl
  go_enter Try.func60, Try.ntmps60
  go_wp2_with fail
  go_loopw [9, 10] (fun v i wr => ∃ (k : Nat) (VS : List Value), k ≤ L.length ∧ i = .int .i64 k ∧ VS.length = (linesTo L gap room true k).length ∧ Fam wr w.heap.size (⟨29, 1, v, (linesTo L gap room true k).length, VS⟩ :: rowsOf VS (linesTo L gap room true k)) ∧ Bel w wr) (fun _ i _ => L.length - (intOf i).toNat)
  case atStart => exact ⟨0, [], Nat.zero_le _, by go_num, rfl, Fam.one (r := ⟨29, 1, .slice (some ⟨w.heap.size, 0, none⟩) 0 0, 0, []⟩) hst, (Bel.refl w).alloc _⟩
  case round =>
    obtain ⟨k, VS, hk, rfl, hl, hF, hb⟩ := hrel
    obtain ⟨P, hP⟩ : ∃ P, linesTo L gap room true k = P := ⟨_, rfl⟩
    rw [hP] at hl hF
    have hbd := linesTo_bd L gap room true k
    rw [hP] at hbd
    obtain ⟨Av, cv, rfl, hcv, hcm, hR⟩ := LinesAt.rows ⟨VS, hl, hF⟩
    have HP := Lib.hid hP
    have HBD := Lib.hid hbd
    have HL := Lib.hid hl
    have hPk : P.length ≤ k := hbd.1
    clear hP hbd hl
    have HF := Lib.hid hF
    have ho := LinesAt.outer hF
    clear hF
    by_cases hlt : k < L.length
    · by_cases h0 : P.length = 0
      · have HN : Hid (linesTo L gap room true (k + 1) = P ++ [[(k : Int)]]) := hid' (next_first HP.out h0)
        have h0i : (P.length : Int) ≤ 0 := by omega
        have H0 := Lib.hid h0
        clear h0
        -- one line more: 57 60 the operands, wr the world, hb Bel w wr, Bel.refl wr Bel wr wr, ho the row
        go_wp2_with (at_builtin; refine appG rfl (.tmp 57) (.tmp 60) 73 29 rfl (.slice none 0 0) 1 24 Try.underlying73 Try.info_ints rfl (by decide) (by decide) w.heap.size _ _ VS rfl (((ho).alloc _).alloc _) (wr.heap.size + 1) rfl [.slice (some ⟨wr.heap.size, 0, none⟩) 1 1] rfl (fun j u hj => by match j, hj with | 0, hj => simp at hj; subst hj; simp) (fun u hu => by simp at hu; subst hu; rfl) (by omega) (by have := (hb).sz; simp; omega) ?_; intro v' w' hov hg' hloc)
        go_roundw
        case rel =>
          have hn1 : (wr.alloc (.cells #[.int .i64 (k : Int)] 3)).ownsRow wr.heap.size 3 1 (.slice (some ⟨wr.heap.size, 0, none⟩) 1 1) 1 (VI [(k : Int)]) := World.ownsRow_lit wr #[.int .i64 (k : Int)] 1 (Bel.refl wr).sz (by unfold maxLen; omega) rfl
          have hAt := LinesAt.push (l := [(k : Int)]) HL.out HF.out (((Bel.refl wr).alloc _).alloc _) hb.sz (hn1.alloc _) hov hg' hloc
          rw [← HN.out] at hAt
          obtain ⟨VT, t1, t2⟩ := hAt
          exact ⟨k + 1, VT, by omega, by go_num, t1, t2, ((((hb).alloc _).alloc _)).own (Nat.le_refl _) (((ho).alloc _).alloc _) hg'⟩
        case measure => simp [intOf]; omega
      · -- the last line, and the item behind it
        obtain ⟨b, o, rfl, hbl, hR2⟩ := hR (P.length - 1) (by omega)
        obtain rfl : o = 0 := own_off ho (by omega)
        obtain ⟨B, d, hcB, hd1, hd2, hB0, hBI⟩ := hR2 (P.length - 1) (by omega)
        rw [Nat.zero_add] at hcB
        have hl0 : (P.getD (P.length - 1) []).length ≤ k := HBD.out.2 _ (List.mem_of_getElem? (getD_eq (by omega)))
        obtain ⟨l0, he0⟩ : ∃ l0, P.getD (P.length - 1) [] = l0 := ⟨_, rfl⟩
        rw [he0] at hcB hd1 hBI hl0
        have HE0 := Lib.hid he0
        obtain ⟨l1, he1⟩ : ∃ l1, l0 ++ [(k : Int)] = l1 := ⟨_, rfl⟩
        have hl1 : l1.length = l0.length + 1 := by rw [← he1]; simp
        have hlen : l1.length ≤ 1048576 := by omega
        have HE1 := Lib.hid he1
        have HLE := Lib.hid hl1
        clear hR2 hR he0 he1 hl1
        have hlin := lineItems_le L l1
        have hlit : (wr.alloc (.cells #[] 3)).ownsRow wr.heap.size 3 1 (.slice (some ⟨wr.heap.size, 0, none⟩) 0 0) 0 [] := World.ownsRow_lit wr #[] 0 (Nat.le_refl _) (by unfold maxLen; omega) rfl
        go_wp2_with (first | (at_builtin; refine appS rfl (.tmp 25) (.tmp 29) rfl wr.heap.size _ 0 [] rfl hlit _ _ _ rfl (hBI.keep ((Bel.refl wr).alloc _)) hB0 (by omega) ((Bel.refl wr).alloc _).sz ?_; intro u1 w1 hu1 hg1; have hb1 : Bel wr w1 := ((Bel.refl wr).alloc _).own (Nat.le_refl _) hlit hg1; rw [List.nil_append] at hu1) | (at_builtin; refine app1 rfl (.tmp 30) (.tmp 32) rfl wr.heap.size _ _ _ rfl (hu1.alloc _) w1.heap.size _ rfl (World.cell?_alloc_new _ _ _ _) (by omega) (hb1.alloc _).sz ?_; intro u2 w2 hu2 hg2; have hB2 : Bel wr w2 := (hb1.alloc _).own (Nat.le_refl _) (hu1.alloc _) hg2; rw [VI_snoc, HE1.out] at hu2; obtain ⟨A2, c2, rfl, -, -, -, hI2⟩ := own_open hu2; have hoX2 := own_keep ho hB2; have hcX2 : w2.cell? ⟨b, P.length - 1, none⟩ = some (.slice B l0.length d) := (hB2.cell _ _ hbl).trans hcB; have hfX2 : w2.frozen? ⟨b, P.length - 1, none⟩ = false := hoX2.frozenAt _))
        have h2 := (h.keep hb).keep hB2
        have HN : Hid (linesTo L gap room true (k + 1) = P.set (P.length - 1) l1) := hid' (next_set HP.out (by omega) HE0.out HE1.out (by simp [outerL]))
        have hbg : w.heap.size ≤ b := (ho.lt b rfl).1
        have HS := Lib.hid (hoX2.stored (P.length - 1) (.slice A2 l1.length c2))
        go_roundw
        case rel =>
          have hAt := LinesAt.store HL.out HF.out hB2 hb.sz hu2 (by omega) HS.out.1 HS.out.2
          rw [← HN.out] at hAt
          obtain ⟨VT, t1, t2⟩ := hAt
          exact ⟨k + 1, VT, by omega, by go_num, t1, t2, (hb.trans hB2).setCell hbg _⟩
        case measure => simp [intOf]; omega
    · obtain rfl : k = L.length := by omega
      go_wp2_with fail
      go_ret
      refine ⟨_, rfl, ?_, hb⟩
      unfold linesOf
      rw [HO.out, HP.out]
      exact ⟨VS, HL.out, HF.out⟩
set_option maxRecDepth 100000 in
set_option maxHeartbeats 4000000 in
theorem sLinesOf_yes2 (A : Option Addr) (c : Nat) (L : List Rec) (gap room : Int) (w : World) (h : Recs w A k_item L) (hn : L.length ≤ 1048576) (hr : room < 0) (HO : Hid (oneOf L room true = true)) :
    Calls Try.prog 60 #[.slice A L.length c, .int .i64 gap, .int .i64 room, .bool true] w fun r w' => ∃ v, r = .returned v ∧ LinesAt w' w.heap.size v (linesOf L gap room true) ∧ Bel w w' := by
  have hst : (w.alloc (.cells #[] 29)).ownsRow w.heap.size 29 1 (.slice (some ⟨w.heap.size, 0, none⟩) 0 0) 0 [] := World.ownsRow_lit w #[] 0 (Nat.le_refl _) (by unfold maxLen; omega) rfl
  go_enter Try.func60, Try.ntmps60
  go_wp2_with fail
  go_loopw [9, 10] (fun v i wr => ∃ (k : Nat) (VS : List Value), k ≤ L.length ∧ i = .int .i64 k ∧ VS.length = (linesTo L gap room true k).length ∧ Fam wr w.heap.size (⟨29, 1, v, (linesTo L gap room true k).length, VS⟩ :: rowsOf VS (linesTo L gap room true k)) ∧ Bel w wr) (fun _ i _ => L.length - (intOf i).toNat)
  case atStart => exact ⟨0, [], Nat.zero_le _, by go_num, rfl, Fam.one (r := ⟨29, 1, .slice (some ⟨w.heap.size, 0, none⟩) 0 0, 0, []⟩) hst, (Bel.refl w).alloc _⟩
  case round =>
    obtain ⟨k, VS, hk, rfl, hl, hF, hb⟩ := hrel
    obtain ⟨P, hP⟩ : ∃ P, linesTo L gap room true k = P := ⟨_, rfl⟩
    rw [hP] at hl hF
    have hbd := linesTo_bd L gap room true k
    rw [hP] at hbd
    obtain ⟨Av, cv, rfl, hcv, hcm, hR⟩ := LinesAt.rows ⟨VS, hl, hF⟩
    have HP := Lib.hid hP
    have HBD := Lib.hid hbd
    have HL := Lib.hid hl
    have hPk : P.length ≤ k := hbd.1
    clear hP hbd hl
    have HF := Lib.hid hF
    have ho := LinesAt.outer hF
    clear hF
    by_cases hlt : k < L.length
    · by_cases h0 : P.length = 0
      · have HN : Hid (linesTo L gap room true (k + 1) = P ++ [[(k : Int)]]) := hid' (next_first HP.out h0)
        have h0i : (P.length : Int) ≤ 0 := by omega
        have H0 := Lib.hid h0
        clear h0
        -- one line more: 57 60 the operands, wr the world, hb Bel w wr, Bel.refl wr Bel wr wr, ho the row
        go_wp2_with (at_builtin; refine appG rfl (.tmp 57) (.tmp 60) 73 29 rfl (.slice none 0 0) 1 24 Try.underlying73 Try.info_ints rfl (by decide) (by decide) w.heap.size _ _ VS rfl (((ho).alloc _).alloc _) (wr.heap.size + 1) rfl [.slice (some ⟨wr.heap.size, 0, none⟩) 1 1] rfl (fun j u hj => by match j, hj with | 0, hj => simp at hj; subst hj; simp) (fun u hu => by simp at hu; subst hu; rfl) (by omega) (by have := (hb).sz; simp; omega) ?_; intro v' w' hov hg' hloc)
        go_roundw
        case rel =>
          have hn1 : (wr.alloc (.cells #[.int .i64 (k : Int)] 3)).ownsRow wr.heap.size 3 1 (.slice (some ⟨wr.heap.size, 0, none⟩) 1 1) 1 (VI [(k : Int)]) := World.ownsRow_lit wr #[.int .i64 (k : Int)] 1 (Bel.refl wr).sz (by unfold maxLen; omega) rfl
          have hAt := LinesAt.push (l := [(k : Int)]) HL.out HF.out (((Bel.refl wr).alloc _).alloc _) hb.sz (hn1.alloc _) hov hg' hloc
          rw [← HN.out] at hAt
          obtain ⟨VT, t1, t2⟩ := hAt
          exact ⟨k + 1, VT, by omega, by go_num, t1, t2, ((((hb).alloc _).alloc _)).own (Nat.le_refl _) (((ho).alloc _).alloc _) hg'⟩
        case measure => simp [intOf]; omega
      · -- the last line, and the item behind it
        obtain ⟨b, o, rfl, hbl, hR2⟩ := hR (P.length - 1) (by omega)
        obtain rfl : o = 0 := own_off ho (by omega)
        obtain ⟨B, d, hcB, hd1, hd2, hB0, hBI⟩ := hR2 (P.length - 1) (by omega)
        rw [Nat.zero_add] at hcB
        have hl0 : (P.getD (P.length - 1) []).length ≤ k := HBD.out.2 _ (List.mem_of_getElem? (getD_eq (by omega)))
        obtain ⟨l0, he0⟩ : ∃ l0, P.getD (P.length - 1) [] = l0 := ⟨_, rfl⟩
        rw [he0] at hcB hd1 hBI hl0
        have HE0 := Lib.hid he0
        obtain ⟨l1, he1⟩ : ∃ l1, l0 ++ [(k : Int)] = l1 := ⟨_, rfl⟩
        have hl1 : l1.length = l0.length + 1 := by rw [← he1]; simp
        have hlen : l1.length ≤ 1048576 := by omega
        have HE1 := Lib.hid he1
        have HLE := Lib.hid hl1
        clear hR2 hR he0 he1 hl1
        have hlin := lineItems_le L l1
        have hlit : (wr.alloc (.cells #[] 3)).ownsRow wr.heap.size 3 1 (.slice (some ⟨wr.heap.size, 0, none⟩) 0 0) 0 [] := World.ownsRow_lit wr #[] 0 (Nat.le_refl _) (by unfold maxLen; omega) rfl
        go_wp2_with (first | (at_builtin; refine appS rfl (.tmp 25) (.tmp 29) rfl wr.heap.size _ 0 [] rfl hlit _ _ _ rfl (hBI.keep ((Bel.refl wr).alloc _)) hB0 (by omega) ((Bel.refl wr).alloc _).sz ?_; intro u1 w1 hu1 hg1; have hb1 : Bel wr w1 := ((Bel.refl wr).alloc _).own (Nat.le_refl _) hlit hg1; rw [List.nil_append] at hu1) | (at_builtin; refine app1 rfl (.tmp 30) (.tmp 32) rfl wr.heap.size _ _ _ rfl (hu1.alloc _) w1.heap.size _ rfl (World.cell?_alloc_new _ _ _ _) (by omega) (hb1.alloc _).sz ?_; intro u2 w2 hu2 hg2; have hB2 : Bel wr w2 := (hb1.alloc _).own (Nat.le_refl _) (hu1.alloc _) hg2; rw [VI_snoc, HE1.out] at hu2; obtain ⟨A2, c2, rfl, -, -, -, hI2⟩ := own_open hu2; have hoX2 := own_keep ho hB2; have hcX2 : w2.cell? ⟨b, P.length - 1, none⟩ = some (.slice B l0.length d) := (hB2.cell _ _ hbl).trans hcB; have hfX2 : w2.frozen? ⟨b, P.length - 1, none⟩ = false := hoX2.frozenAt _))
        have h2 := (h.keep hb).keep hB2
        have HN : Hid (linesTo L gap room true (k + 1) = P.set (P.length - 1) l1) := hid' (next_set HP.out (by omega) HE0.out HE1.out (by simp [outerL]))
        have hbg : w.heap.size ≤ b := (ho.lt b rfl).1
        have HS := Lib.hid (hoX2.stored (P.length - 1) (.slice A2 l1.length c2))
        go_roundw
        case rel =>
          have hAt := LinesAt.store HL.out HF.out hB2 hb.sz hu2 (by omega) HS.out.1 HS.out.2
          rw [← HN.out] at hAt
          obtain ⟨VT, t1, t2⟩ := hAt
          exact ⟨k + 1, VT, by omega, by go_num, t1, t2, (hb.trans hB2).setCell hbg _⟩
        case measure => simp [intOf]; omega
    · obtain rfl : k = L.length := by omega
      go_wp2_with fail
      go_ret
      refine ⟨_, rfl, ?_, hb⟩
      unfold linesOf
      rw [HO.out, HP.out]
      exact ⟨VS, HL.out, HF.out⟩
set_option maxRecDepth 100000 in
set_option maxHeartbeats 4000000 in
theorem sLinesOf_yes3 (A : Option Addr) (c : Nat) (L : List Rec) (gap room : Int) (w : World) (h : Recs w A k_item L) (hn : L.length ≤ 1048576) (hr : ¬ room < 0) (hi : itemsOk L = false) (HO : Hid (oneOf L room true = true)) :
    Calls Try.prog 60 #[.slice A L.length c, .int .i64 gap, .int .i64 room, .bool true] w fun r w' => ∃ v, r = .returned v ∧ LinesAt w' w.heap.size v (linesOf L gap room true) ∧ Bel w w' := by
  have hst : (w.alloc (.cells #[] 29)).ownsRow w.heap.size 29 1 (.slice (some ⟨w.heap.size, 0, none⟩) 0 0) 0 [] := World.ownsRow_lit w #[] 0 (Nat.le_refl _) (by unfold maxLen; omega) rfl
  go_enter Try.func60, Try.ntmps60
  go_wp2_with fail
  go_loopw [9, 10] (fun v i wr => ∃ (k : Nat) (VS : List Value), k ≤ L.length ∧ i = .int .i64 k ∧ VS.length = (linesTo L gap room true k).length ∧ Fam wr w.heap.size (⟨29, 1, v, (linesTo L gap room true k).length, VS⟩ :: rowsOf VS (linesTo L gap room true k)) ∧ Bel w wr) (fun _ i _ => L.length - (intOf i).toNat)
  case atStart => exact ⟨0, [], Nat.zero_le _, by go_num, rfl, Fam.one (r := ⟨29, 1, .slice (some ⟨w.heap.size, 0, none⟩) 0 0, 0, []⟩) hst, (Bel.refl w).alloc _⟩
  case round =>
    obtain ⟨k, VS, hk, rfl, hl, hF, hb⟩ := hrel
    obtain ⟨P, hP⟩ : ∃ P, linesTo L gap room true k = P := ⟨_, rfl⟩
    rw [hP] at hl hF
    have hbd := linesTo_bd L gap room true k
    rw [hP] at hbd
    obtain ⟨Av, cv, rfl, hcv, hcm, hR⟩ := LinesAt.rows ⟨VS, hl, hF⟩
    have HP := Lib.hid hP
    have HBD := Lib.hid hbd
    have HL := Lib.hid hl
    have hPk : P.length ≤ k := hbd.1
    clear hP hbd hl
    have HF := Lib.hid hF
    have ho := LinesAt.outer hF
    clear hF
    by_cases hlt : k < L.length
    · by_cases h0 : P.length = 0
      · have HN : Hid (linesTo L gap room true (k + 1) = P ++ [[(k : Int)]]) := hid' (next_first HP.out h0)
        have h0i : (P.length : Int) ≤ 0 := by omega
        have H0 := Lib.hid h0
        clear h0
        -- one line more: 57 60 the operands, wr the world, hb Bel w wr, Bel.refl wr Bel wr wr, ho the row
        go_wp2_with (at_builtin; refine appG rfl (.tmp 57) (.tmp 60) 73 29 rfl (.slice none 0 0) 1 24 Try.underlying73 Try.info_ints rfl (by decide) (by decide) w.heap.size _ _ VS rfl (((ho).alloc _).alloc _) (wr.heap.size + 1) rfl [.slice (some ⟨wr.heap.size, 0, none⟩) 1 1] rfl (fun j u hj => by match j, hj with | 0, hj => simp at hj; subst hj; simp) (fun u hu => by simp at hu; subst hu; rfl) (by omega) (by have := (hb).sz; simp; omega) ?_; intro v' w' hov hg' hloc)
        go_roundw
        case rel =>
          have hn1 : (wr.alloc (.cells #[.int .i64 (k : Int)] 3)).ownsRow wr.heap.size 3 1 (.slice (some ⟨wr.heap.size, 0, none⟩) 1 1) 1 (VI [(k : Int)]) := World.ownsRow_lit wr #[.int .i64 (k : Int)] 1 (Bel.refl wr).sz (by unfold maxLen; omega) rfl
          have hAt := LinesAt.push (l := [(k : Int)]) HL.out HF.out (((Bel.refl wr).alloc _).alloc _) hb.sz (hn1.alloc _) hov hg' hloc
          rw [← HN.out] at hAt
          obtain ⟨VT, t1, t2⟩ := hAt
          exact ⟨k + 1, VT, by omega, by go_num, t1, t2, ((((hb).alloc _).alloc _)).own (Nat.le_refl _) (((ho).alloc _).alloc _) hg'⟩
        case measure => simp [intOf]; omega
      · -- the last line, and the item behind it
        obtain ⟨b, o, rfl, hbl, hR2⟩ := hR (P.length - 1) (by omega)
        obtain rfl : o = 0 := own_off ho (by omega)
        obtain ⟨B, d, hcB, hd1, hd2, hB0, hBI⟩ := hR2 (P.length - 1) (by omega)
        rw [Nat.zero_add] at hcB
        have hl0 : (P.getD (P.length - 1) []).length ≤ k := HBD.out.2 _ (List.mem_of_getElem? (getD_eq (by omega)))
        obtain ⟨l0, he0⟩ : ∃ l0, P.getD (P.length - 1) [] = l0 := ⟨_, rfl⟩
        rw [he0] at hcB hd1 hBI hl0
        have HE0 := Lib.hid he0
        obtain ⟨l1, he1⟩ : ∃ l1, l0 ++ [(k : Int)] = l1 := ⟨_, rfl⟩
        have hl1 : l1.length = l0.length + 1 := by rw [← he1]; simp
        have hlen : l1.length ≤ 1048576 := by omega
        have HE1 := Lib.hid he1
        have HLE := Lib.hid hl1
        clear hR2 hR he0 he1 hl1
        have hlin := lineItems_le L l1
        have hlit : (wr.alloc (.cells #[] 3)).ownsRow wr.heap.size 3 1 (.slice (some ⟨wr.heap.size, 0, none⟩) 0 0) 0 [] := World.ownsRow_lit wr #[] 0 (Nat.le_refl _) (by unfold maxLen; omega) rfl
        go_wp2_with (first | (at_builtin; refine appS rfl (.tmp 25) (.tmp 29) rfl wr.heap.size _ 0 [] rfl hlit _ _ _ rfl (hBI.keep ((Bel.refl wr).alloc _)) hB0 (by omega) ((Bel.refl wr).alloc _).sz ?_; intro u1 w1 hu1 hg1; have hb1 : Bel wr w1 := ((Bel.refl wr).alloc _).own (Nat.le_refl _) hlit hg1; rw [List.nil_append] at hu1) | (at_builtin; refine app1 rfl (.tmp 30) (.tmp 32) rfl wr.heap.size _ _ _ rfl (hu1.alloc _) w1.heap.size _ rfl (World.cell?_alloc_new _ _ _ _) (by omega) (hb1.alloc _).sz ?_; intro u2 w2 hu2 hg2; have hB2 : Bel wr w2 := (hb1.alloc _).own (Nat.le_refl _) (hu1.alloc _) hg2; rw [VI_snoc, HE1.out] at hu2; obtain ⟨A2, c2, rfl, -, -, -, hI2⟩ := own_open hu2; have hoX2 := own_keep ho hB2; have hcX2 : w2.cell? ⟨b, P.length - 1, none⟩ = some (.slice B l0.length d) := (hB2.cell _ _ hbl).trans hcB; have hfX2 : w2.frozen? ⟨b, P.length - 1, none⟩ = false := hoX2.frozenAt _))
        have h2 := (h.keep hb).keep hB2
        have HN : Hid (linesTo L gap room true (k + 1) = P.set (P.length - 1) l1) := hid' (next_set HP.out (by omega) HE0.out HE1.out (by simp [outerL]))
        clear hoX2 hcX2 hfX2
        go_wp2_with fail
        refine (sItemsOk_c _ _ _ _ h2 hn).mono ?_; rintro e w3 ⟨rfl, hb3⟩
        have hB5 : Bel wr w3 := hB2.trans hb3
        have hu3 := own_keep hu2 hb3
        -- the line is put back: w3 the world, hb.trans hB5 Bel w w3, hB5 Bel wr w3, hu3 the line's row there
        have hoX := own_keep ho (hB5)
        have hcX : w3.cell? ⟨b, P.length - 1, none⟩ = some (.slice B l0.length d) := ((hB5).cell _ _ hbl).trans hcB
        have hfX : w3.frozen? ⟨b, P.length - 1, none⟩ = false := hoX.frozenAt _
        have hbg : w.heap.size ≤ b := (ho.lt b rfl).1
        have HS := Lib.hid (hoX.stored (P.length - 1) (.slice A2 l1.length c2))
        go_wp2_with fail
        go_roundw
        case rel =>
          have hAt := LinesAt.store HL.out HF.out (hB5) hb.sz (hu3) (by omega) HS.out.1 HS.out.2
          rw [← HN.out] at hAt
          obtain ⟨VT, t1, t2⟩ := hAt
          exact ⟨k + 1, VT, by omega, by go_num, t1, t2, (hb.trans hB5).setCell hbg _⟩
        case measure => simp [intOf]; omega
    · obtain rfl : k = L.length := by omega
      go_wp2_with fail
      go_ret
      refine ⟨_, rfl, ?_, hb⟩
      unfold linesOf
      rw [HO.out, HP.out]
      exact ⟨VS, HL.out, HF.out⟩
theorem sLinesOf_yes (A : Option Addr) (c : Nat) (L : List Rec) (gap room : Int) (wraps : Bool) (w : World) (h : Recs w A k_item L) (hn : L.length ≤ 1048576) (HO : Hid (oneOf L room wraps = true)) :
    Calls Try.prog 60 #[.slice A L.length c, .int .i64 gap, .int .i64 room, .bool wraps] w fun r w' => ∃ v, r = .returned v ∧ LinesAt w' w.heap.size v (linesOf L gap room wraps) ∧ Bel w w' := by
  have hcases : wraps = false ∨ (wraps = true ∧ room < 0) ∨ (wraps = true ∧ ¬ room < 0 ∧ itemsOk L = false) := by
    have := HO.out
    simp [oneOf] at this
    cases wraps
    · exact .inl rfl
    · by_cases hr : room < 0
      · exact .inr (.inl ⟨rfl, hr⟩)
      · exact .inr (.inr ⟨rfl, hr, by simpa [show ¬ room < 0 from hr] using this⟩)
  rcases hcases with rfl | ⟨rfl, hr⟩ | ⟨rfl, hr, hi⟩
  · exact sLinesOf_yes1 A c L gap room w h hn HO
  · exact sLinesOf_yes2 A c L gap room w h hn hr HO
  · exact sLinesOf_yes3 A c L gap room w h hn hr hi HO
theorem sLinesOf_c (A : Option Addr) (c : Nat) (L : List Rec) (gap room : Int) (wraps : Bool) (w : World) (h : Recs w A k_item L) (hn : L.length ≤ 1048576) :
    Calls Try.prog 60 #[.slice A L.length c, .int .i64 gap, .int .i64 room, .bool wraps] w fun r w' => ∃ v, r = .returned v ∧ LinesAt w' w.heap.size v (linesOf L gap room wraps) ∧ Bel w w' := by
  cases hone : oneOf L room wraps
  · obtain ⟨hw, hr, hi⟩ : wraps = true ∧ ¬ room < 0 ∧ itemsOk L = true := by
      have := hone
      simp [oneOf] at this
      exact ⟨this.1.1, by omega, this.2⟩
    subst hw
    exact sLinesOf_no A c L gap room w h hn hr hi hone
  · exact sLinesOf_yes A c L gap room wraps w h hn hone
end Go.Proofs.Ytmipjhnjlpmidaa
