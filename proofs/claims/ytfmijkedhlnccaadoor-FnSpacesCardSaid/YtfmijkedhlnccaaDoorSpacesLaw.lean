/- The law FnSpaces, its row and its card. -/
import Derived.Test.YtfmijkedhlnccaaDoorDrawSp
import Derived.Test.YtfmijkedhlnccaaDoorSpText
import Derived.Test.YtfmijkedhlnccaaDoorQTail
import Derived.Deep.RegionWith
import Derived.Deep.RegionHeld3
namespace Go.Proofs.YtfmijkedhlnccaaDoor
open Go.ChangeShapes Go.WideShapes Go.ChangeAt Go.RowKit Go.Sort
set_option linter.unusedVariables false
set_option linter.unusedSimpArgs false

structure SP (w : World) (g : Nat) (m n : Int) : Prop where
  lt : g < w.heap.size
  c0 : w.cell? ⟨g, 0, none⟩ = some (.int .i64 m)
  c1 : w.cell? ⟨g, 1, none⟩ = some (.int .i64 n)
theorem SP.keep {w w' : World} {g : Nat} {m n : Int} (h : SP w g m n) (hb : Bel w w') : SP w' g m n :=
  ⟨Nat.lt_of_lt_of_le h.lt hb.sz, (hb.cell _ _ h.lt).trans h.c0, (hb.cell _ _ h.lt).trans h.c1⟩
theorem SP.new (w : World) (m n : Int) : SP (w.alloc (.cells #[.int .i64 m, .int .i64 n] 25)) w.heap.size m n :=
  ⟨by simp, by rw [World.cell?_alloc_new]; rfl, by rw [World.cell?_alloc_new]; rfl⟩
theorem SP.al {w : World} {g : Nat} {m n : Int} (h : SP w g m n) (o : Obj) : SP (w.alloc o) g m n := h.keep ((Bel.refl _).alloc _)

theorem clamped_in {n : Int} (h : 0 ≤ n ∧ n ≤ 1048576) : clamped n = n := by
  unfold clamped brought; (repeat' split) <;> omega
theorem sp_law {m s : Int} (k : Int) (hok : spaceOk m s = true) : (m = 1 ∨ m = 2 ∨ m = 3) ∧ spaceOk m (innerOf m s k) = true ∧ spaceOk (loosened m) s = true ∧ (m ≠ 1 → taken m s k ≤ s) ∧ (m = 3 → taken m s k = s) := by
  by_cases h1 : m = 1
  · subst h1
    simp [spaceOk] at hok
    subst hok
    simp [spaceOk, innerOf, loosened]
  · have hb : (m = 2 ∨ m = 3) ∧ 0 ≤ s ∧ s ≤ 1048576 := by
      simp [spaceOk, h1, inB] at hok
      omega
    obtain ⟨hm, hs⟩ := hb
    have e1 := clamped_in hs
    have b1 := clamped_bd (clamped s - clamped k)
    have b2 := clamped_bd k
    refine ⟨by omega, ?_, ?_, fun _ => ?_, fun h3 => ?_⟩
    · rcases hm with rfl | rfl <;> (simp [spaceOk, innerOf, inB]; omega)
    · rcases hm with rfl | rfl <;> (simp [spaceOk, loosened, inB]; omega)
    · unfold taken
      rcases hm with rfl | rfl
      · by_cases hk : s < k
        · rw [if_pos (by omega), e1]; omega
        · rw [if_neg (by omega)]
          unfold clamped brought; (repeat' split) <;> omega
      · rw [if_pos (by omega), e1]; omega
    · unfold taken
      rw [if_pos (by omega), e1]
theorem taken_nn (m s k : Int) : 0 ≤ taken m s k := by
  have b1 := clamped_bd s
  have b2 := clamped_bd k
  unfold taken
  split <;> omega

set_option maxRecDepth 100000 in
set_option maxHeartbeats 4000000 in
theorem lawSpaces_c (A : Option Addr) (c n : Nat) (w : World) (h : Byts w A n) (ht : Tab w) :
    Calls Tryd.prog 3 #[.slice A n c] w fun r w' => r = .returned (.bool true) ∧ Bel w w' := by
  by_cases hn : 1048576 < n
  · have hd : decide (1048576 < n) = true := by simpa using hn
    go_enter Tryd.func3, Tryd.ntmps3
    go_wp2_with fail
    refine (big_c _ _ _ _).mono ?_; rintro e w' ⟨rfl, rfl⟩
    rw [hd]
    go_wp2_with fail
    go_ret
    exact ⟨rfl, Bel.refl _⟩
  · have hd : decide (1048576 < n) = false := by simpa using hn
    go_enter Tryd.func3, Tryd.ntmps3
    go_wp2_with fail
    refine (big_c _ _ _ _).mono ?_; rintro e w' ⟨rfl, rfl⟩
    rw [hd]
    clear hd
    go_wp2_with fail
    refine (drawTaken_c _ _ _ _ h (by omega)).mono ?_; rintro e w1 ⟨m, s, k, rfl, hb1⟩
    have S1 := SP.new w1 m s
    have T1 : Bel w' (w1.alloc (.cells #[.int .i64 m, .int .i64 s] 25)) := hb1.alloc _
    have h1 := h.keep T1
    clear hb1 h
    obtain ⟨g3, hg3⟩ : ∃ g, w1.heap.size = g := ⟨_, rfl⟩
    have x0 := S1.c0
    have x1 := S1.c1
    go_wp2_with fail
    clear x0 x1
    refine (iTaken_c _ _ _ _).mono ?_; rintro e w2 ⟨rfl, hb2⟩
    obtain ⟨tk, htk⟩ : ∃ v, taken m s k = v := ⟨_, rfl⟩
    have HTK := Lib.hid htk
    rw [htk]
    clear htk
    have S2 := S1.keep hb2
    have T2 := T1.trans hb2
    have h2 := h1.keep hb2
    clear S1 T1 h1 hb2
    rw [hg3] at S2
    have x0 := S2.c0
    have x1 := S2.c1
    go_wp2_with fail
    clear x0 x1
    refine (iInnerOf_c _ _ _ _).mono ?_; rintro e w3 ⟨rfl, hb3⟩
    obtain ⟨inn, hinn⟩ : ∃ v, innerOf m s k = v := ⟨_, rfl⟩
    have HIN := Lib.hid hinn
    rw [hinn]
    clear hinn
    have S3 := (S2.keep hb3).al (.cells #[.int .i64 m, .int .i64 inn] 25)
    have I3 := SP.new w3 m inn
    have T3 := (T2.trans hb3).alloc (.cells #[.int .i64 m, .int .i64 inn] 25)
    have h3 := h2.keep (hb3.alloc (.cells #[.int .i64 m, .int .i64 inn] 25))
    clear S2 T2 h2 hb3
    have x0 := S3.c0
    have x1 := S3.c1
    go_wp2_with fail
    clear x0 x1
    refine (iLoosened_c _ _ _).mono ?_; rintro e w4 ⟨rfl, hb4⟩
    obtain ⟨g6, hg6⟩ : ∃ g, w3.heap.size = g := ⟨_, rfl⟩
    obtain ⟨lo, hlo⟩ : ∃ v, loosened m = v := ⟨_, rfl⟩
    have HLO := Lib.hid hlo
    rw [hlo]
    clear hlo
    rw [hg6] at I3
    have S4 := (S3.keep hb4).al (.cells #[.int .i64 lo, .int .i64 s] 25)
    have I4 := (I3.keep hb4).al (.cells #[.int .i64 lo, .int .i64 s] 25)
    have L4 := SP.new w4 lo s
    have T4 := (T3.trans hb4).alloc (.cells #[.int .i64 lo, .int .i64 s] 25)
    have h4 := h3.keep (hb4.alloc (.cells #[.int .i64 lo, .int .i64 s] 25))
    clear S3 I3 T3 h3 hb4
    go_wp2_with fail
    refine (drawExactOr_c _ _ _ _ h4 (by omega)).mono ?_; rintro e w5 ⟨k2, a, b, rfl, hb5⟩
    obtain ⟨g7, hg7⟩ : ∃ g, w4.heap.size = g := ⟨_, rfl⟩
    rw [hg7] at L4
    have S5 := (S4.keep hb5).al (.cells #[.int .i64 a, .int .i64 b] 25)
    have I5 := (I4.keep hb5).al (.cells #[.int .i64 a, .int .i64 b] 25)
    have L5 := (L4.keep hb5).al (.cells #[.int .i64 a, .int .i64 b] 25)
    have A5 := SP.new w5 a b
    have T5 := (T4.trans hb5).alloc (.cells #[.int .i64 a, .int .i64 b] 25)
    clear S4 I4 L4 T4 h4 hb5
    --tail
    go_wp2_with fail
    obtain ⟨g9, hg9⟩ : ∃ g, w5.heap.size = g := ⟨_, rfl⟩
    rw [hg9] at A5
    simp only [hg9]
    clear hg9 hg7 hg6 hg3
    obtain ⟨W, hW⟩ : ∃ W, W = w5.alloc (.cells #[.int .i64 a, .int .i64 b] 25) := ⟨_, rfl⟩
    rw [← hW] at S5 I5 L5 A5 T5 ⊢
    clear hW
    have htW := ht.keep T5
    obtain ⟨em, hem⟩ : ∃ v, exactOrM k2 a = v := ⟨_, rfl⟩
    obtain ⟨en, hen⟩ : ∃ v, exactOrN k2 b = v := ⟨_, rfl⟩
    obtain ⟨ro, hro⟩ : ∃ v, roomOf m s = v := ⟨_, rfl⟩
    obtain ⟨X, hX⟩ : ∃ v, spText m s = v := ⟨_, rfl⟩
    have C1 : Hid (∀ u, Bel W u → Calls Tryd.prog 11 #[spaceV m s, .int .i64 k] u fun e u' => e = .returned (.int .i64 tk) ∧ Below u.heap.size u u') := hid' (fun u hu => by have h1 := sTaken_c m s k u; rw [HTK.out] at h1; exact h1)
    have C2 : Hid (∀ u, Bel W u → Calls Tryd.prog 12 #[spaceV m s, .int .i64 k] u fun e u' => e = .returned (spaceV m inn) ∧ Below u.heap.size u u') := hid' (fun u hu => by have h1 := sInnerOf_c m s k u; rw [HIN.out] at h1; exact h1)
    have C3 : Hid (∀ u, Bel W u → Calls Tryd.prog 13 #[spaceV m s] u fun e u' => e = .returned (spaceV lo s) ∧ Below u.heap.size u u') := hid' (fun u hu => by have h1 := sLoosened_c m s u; rw [HLO.out] at h1; exact h1)
    have C4 : Hid (∀ u, Bel W u → Calls Tryd.prog 14 #[.int .i64 k2, spaceV a b] u fun e u' => e = .returned (spaceV em en) ∧ Below u.heap.size u u') := hid' (fun u hu => by have h1 := iExactOr_c k2 a b u; rw [hem] at h1; rw [hen] at h1; exact h1)
    have C5 : Hid (∀ u, Bel W u → Calls Tryd.prog 15 #[.int .i64 k2, spaceV a b] u fun e u' => e = .returned (spaceV em en) ∧ Below u.heap.size u u') := hid' (fun u hu => by have h1 := sExactOr_c k2 a b u; rw [hem] at h1; rw [hen] at h1; exact h1)
    have C6 : Hid (∀ u, Bel W u → Calls Tryd.prog 16 #[spaceV m s] u fun e u' => e = .returned (.int .i64 ro) ∧ Below u.heap.size u u') := hid' (fun u hu => by have h1 := iRoomOf_c m s u; rw [hro] at h1; exact h1)
    have C7 : Hid (∀ u, Bel W u → Calls Tryd.prog 17 #[spaceV m s] u fun e u' => e = .returned (.int .i64 ro) ∧ Below u.heap.size u u') := hid' (fun u hu => by have h1 := sRoomOf_c m s u; rw [hro] at h1; exact h1)
    have C8 : Hid (∀ u, Bel W u → Calls Tryd.prog 18 #[spaceV m s] u fun e u' => e = .returned (.string X) ∧ Below u.heap.size u u') := hid' (fun u hu => by have h1 := iSpaceText_c m s u (htW.keep hu); rw [hX] at h1; exact h1)
    have C9 : Hid (∀ u, Bel W u → Calls Tryd.prog 19 #[spaceV m s] u fun e u' => e = .returned (.string X) ∧ Below u.heap.size u u') := hid' (fun u hu => by have h1 := sSpaceText_c m s u (htW.keep hu); rw [hX] at h1; exact h1)
    clear hem hen hro hX
    have HS5 := Lib.hid S5
    have HI5 := Lib.hid I5
    have HL5 := Lib.hid L5
    have HT5 := Lib.hid T5
    have HTW := Lib.hid htW
    have q0 := cell_regrown S5.c0
    have q1 := cell_regrown S5.c1
    have q2 := cell_regrown I5.c0
    have q3 := cell_regrown I5.c1
    have q4 := cell_regrown L5.c0
    have q5 := cell_regrown L5.c1
    have q6 := cell_regrown A5.c0
    have q7 := cell_regrown A5.c1
    clear S5 I5 L5 A5 T5 htW ht
    refine wp_region_quiet_below (by kernel_rfl) (by kernel_rfl) ?_
    repeat (go_big_quiet_step ((first | (go_at_call 11; exact Calls.regrown_of (C1.out _ (below_regrown _ _ _))) | (go_at_call 12; exact Calls.regrown_of (C2.out _ (below_regrown _ _ _))) | (go_at_call 13; exact Calls.regrown_of (C3.out _ (below_regrown _ _ _))) | (go_at_call 14; exact Calls.regrown_of (C4.out _ (below_regrown _ _ _))) | (go_at_call 15; exact Calls.regrown_of (C5.out _ (below_regrown _ _ _))) | (go_at_call 16; exact Calls.regrown_of (C6.out _ (below_regrown _ _ _))) | (go_at_call 17; exact Calls.regrown_of (C7.out _ (below_regrown _ _ _))) | (go_at_call 18; exact Calls.regrown_of (C8.out _ (below_regrown _ _ _))) | (go_at_call 19; exact Calls.regrown_of (C9.out _ (below_regrown _ _ _))))))
    refine wpQuiet_nil ?_
    intro _ hw'
    obtain ⟨⟨dq, osq⟩, hw''⟩ := hw'
    subst hw''
    have hbq : Bel W (grow (redrawn W dq) osq) := below_regrown W dq osq
    generalize grow (redrawn W dq) osq = wq at hbq ⊢
    clear q0 q1 q2 q3 q4 q5 q6 q7 C1 C2 C3 C4 C5 C6 C7 C8 C9
    have S6 := HS5.out.keep hbq
    have I6 := HI5.out.keep hbq
    have L6 := HL5.out.keep hbq
    have T6 := HT5.out.trans hbq
    have ht6 := HTW.out.keep hbq
    clear HS5 HI5 HL5 HT5 HTW hbq
    have TN : decide (0 ≤ tk) = true := by rw [← HTK.out]; exact decide_eq_true (taken_nn m s k)
    obtain ⟨ok, hok⟩ : ∃ v, spaceOk m s = v := ⟨_, rfl⟩
    obtain ⟨oi, hoi⟩ : ∃ v, spaceOk m inn = v := ⟨_, rfl⟩
    obtain ⟨ol, hol⟩ : ∃ v, spaceOk lo s = v := ⟨_, rfl⟩
    have hfr : spText 1 0 = ⟨#[102, 114, 101, 101]⟩ := by decide +kernel
    have C1 : Hid (∀ u, Bel wq u → Calls Tryd.prog 20 #[spaceV m s] u fun e u' => e = .returned (.bool ok) ∧ Below u.heap.size u u') := hid' (fun u hu => by have h1 := sSpaceOk_c m s u; rw [hok] at h1; exact h1)
    have C2 : Hid (∀ (x y : Int) (v : Bool) (u : World), spaceOk x y = v → Bel wq u → Calls Tryd.prog 21 #[spaceV x y] u fun e u' => e = .returned (.bool v) ∧ Below u.heap.size u u') := hid' (fun x y v u hv hu => by subst hv; exact iSpaceOk_c x y u)
    have C5 : Hid (∀ u, Bel wq u → Calls Tryd.prog 18 #[spaceV 1 0] u fun e u' => e = .returned (.string ⟨#[102, 114, 101, 101]⟩) ∧ Below u.heap.size u u') := hid' (fun u hu => by have h1 := iSpaceText_c 1 0 u (ht6.keep hu); rw [hfr] at h1; exact h1)
    clear hfr ht6
    have q0 := cell_regrown S6.c0
    have q1 := cell_regrown S6.c1
    have q2 := cell_regrown I6.c0
    have q3 := cell_regrown I6.c1
    have q4 := cell_regrown L6.c0
    have q5 := cell_regrown L6.c1
    clear S6 I6 L6
    go_wp2_with fail
    cases ok
    · clear hoi hol
      refine wp_region_quiet_below (by kernel_rfl) (by kernel_rfl) ?_
      repeat (go_big_quiet_step ((first | (go_at_call 20; exact Calls.regrown_of (C1.out _ (below_regrown _ _ _))) | (go_at_call 21; exact Calls.regrown_of (C2.out _ _ _ _ (by assumption) (below_regrown _ _ _))) | (go_at_call 18; exact Calls.regrown_of (C5.out _ (below_regrown _ _ _))))))
      refine wpQuiet_nil ?_
      intro _ hw'
      obtain ⟨⟨dq, osq⟩, hw''⟩ := hw'
      subst hw''
      have hbq : Bel wq (grow (redrawn wq dq) osq) := below_regrown wq dq osq
      generalize grow (redrawn wq dq) osq = wq at hbq ⊢
      clear q0 q1 q2 q3 q4 q5 C1 C2 C5
      have T7 := T6.trans hbq
      go_wp2_with fail
      go_ret
      exact ⟨rfl, T7⟩
    · have hl := sp_law k hok
      rw [HIN.out, HTK.out, HLO.out, hoi, hol] at hl
      obtain ⟨hm, hoi1, hol1, hle, heq⟩ := hl
      rw [hoi1] at hoi
      rw [hol1] at hol
      clear hoi1 hol1
      rcases hm with rfl | rfl | rfl
      · clear hle heq
        refine wp_region_quiet_below (by kernel_rfl) (by kernel_rfl) ?_
        repeat (go_big_quiet_step ((first | (go_at_call 20; exact Calls.regrown_of (C1.out _ (below_regrown _ _ _))) | (go_at_call 21; exact Calls.regrown_of (C2.out _ _ _ _ (by assumption) (below_regrown _ _ _))) | (go_at_call 18; exact Calls.regrown_of (C5.out _ (below_regrown _ _ _))))))
        refine wpQuiet_nil ?_
        intro _ hw'
        obtain ⟨⟨dq, osq⟩, hw''⟩ := hw'
        subst hw''
        have hbq : Bel wq (grow (redrawn wq dq) osq) := below_regrown wq dq osq
        generalize grow (redrawn wq dq) osq = wq at hbq ⊢
        clear q0 q1 q2 q3 q4 q5 C1 C2 C5
        have T7 := T6.trans hbq
        go_wp2_with fail
        go_ret
        exact ⟨rfl, T7⟩
      · have hle1 : decide (tk ≤ s) = true := decide_eq_true (hle (by decide))
        clear hle heq
        refine wp_region_quiet_below (by kernel_rfl) (by kernel_rfl) ?_
        repeat (go_big_quiet_step ((first | (go_at_call 20; exact Calls.regrown_of (C1.out _ (below_regrown _ _ _))) | (go_at_call 21; exact Calls.regrown_of (C2.out _ _ _ _ (by assumption) (below_regrown _ _ _))) | (go_at_call 18; exact Calls.regrown_of (C5.out _ (below_regrown _ _ _))))))
        refine wpQuiet_nil ?_
        intro _ hw'
        obtain ⟨⟨dq, osq⟩, hw''⟩ := hw'
        subst hw''
        have hbq : Bel wq (grow (redrawn wq dq) osq) := below_regrown wq dq osq
        generalize grow (redrawn wq dq) osq = wq at hbq ⊢
        clear q0 q1 q2 q3 q4 q5 C1 C2 C5
        have T7 := T6.trans hbq
        go_wp2_with fail
        go_ret
        exact ⟨rfl, T7⟩
      · have heq1 : tk = s := heq rfl
        clear hle heq
        subst heq1
        refine wp_region_quiet_below (by kernel_rfl) (by kernel_rfl) ?_
        repeat (go_big_quiet_step ((first | (go_at_call 20; exact Calls.regrown_of (C1.out _ (below_regrown _ _ _))) | (go_at_call 21; exact Calls.regrown_of (C2.out _ _ _ _ (by assumption) (below_regrown _ _ _))) | (go_at_call 18; exact Calls.regrown_of (C5.out _ (below_regrown _ _ _))))))
        refine wpQuiet_nil ?_
        intro _ hw'
        obtain ⟨⟨dq, osq⟩, hw''⟩ := hw'
        subst hw''
        have hbq : Bel wq (grow (redrawn wq dq) osq) := below_regrown wq dq osq
        generalize grow (redrawn wq dq) osq = wq at hbq ⊢
        clear q0 q1 q2 q3 q4 q5 C1 C2 C5
        have T7 := T6.trans hbq
        go_wp2_with fail
        go_ret
        exact ⟨rfl, T7⟩

set_option maxRecDepth 100000 in
theorem Spaces_lifted (os : Os) (started : os.Started) (H : Type) (enc : TypeId × Value → H) :
    ReturnsInHanded {} Tryd.checked os 3 .any (fun w args => (Rows.fnSpacesSpec.pre enc Tryd.prog Tryd.f3 [] false w args ∧ laidMetH Tryd.prog laid3 w) ∧ sizedMet enc Tryd.prog Tryd.f3 (OpenSpec.ofChange Rows.fnSpacesSpec) false w args)
      (Rows.fnSpacesSpec.post enc Tryd.prog Tryd.f3 false true false false) := by
  refine law_laid (C := Tryd.checked) (tb := 4) own started (by kernel_rfl) Tryd.func3 laidOut rfl rfl Tryd.underlying4 (by kernel_rfl)
    (fun ds h => match ds, h with | [_], _ => rfl)
    (ChangeSpec.witness_shaped (enc := enc) (C := Tryd.checked) (os := os) (X := fun w _ => laidMetH Tryd.prog laid3 w) false (World.doorLaid Tryd.prog 24 os) #[.slice none 0 0] 8 rfl (World.shaped_of_RefB (by kernel_rfl) (by kernel_rfl)) (by kernel_rfl) (by kernel_rfl) (by kernel_rfl) (door_met os _)) ?_
  intro W base args ds ps hval0 hA0 hL
  have hval : ∀ (j : Nat) t v, Tryd.f3.params[j]? = some t → args[j]? = some v → Value.okWide Tryd.prog W .any base t v := hval0
  have hA : DataW.TrodAll enc Tryd.prog W 0 (fun _ => true) true Tryd.f3.params.toList args.toList ds ps := hA0
  clear hval0 hA0
  rw [Tryd.params3] at hA hval
  obtain ⟨v0, d0, rfl, rfl, h0⟩ := trodAll_one hA
  obtain ⟨A, c, n, rfl, -, -, hI⟩ := open_bytes Tryd.underlying22 Tryd.underlying5 (by kernel_rfl) (hval 0 22 v0 rfl rfl) h0
  exact lawSpaces_c _ _ _ W hI (tab_of_laid hL)

theorem Spaces_row : Rows.FnSpacesSaid :=
  OpenClaim.holds_of_wide 3 Tryd.f3 rfl rfl rfl rfl rfl rfl rfl ⟨rfl, rfl, rfl, rfl, rfl⟩ rfl rfl rfl rfl rfl (by kernel_rfl) Tryd.func3 (by kernel_rfl)
    (of_decide_eq_true (by kernel_rfl)) (by unfold Func.isWrapper; first | (rw [if_pos (by decide +kernel)]; kernel_rfl) | (rw [if_neg (by decide +kernel)]; exact ⟨rfl, rfl⟩))
    (fun os started H enc _ => Spaces_lifted os started H enc)
theorem Spaces_holds : Rows.FnSpacesCardSaid :=
  Claim7.holds_tied_plain_at .later [] [.data, .data, .data] true (true, "a6973494b0fa96269edcc175e4925abe364404895d1336870a962c5ee6e2319c") false
    Spaces_row (fun _ h => by cases h) (by kernel_rfl) (fun _ h => by cases h) fnSpaces_row_tie rfl ⟨rfl, rfl⟩ (by kernel_rfl) rfl
    (fun f fn hf hfn => by
      obtain rfl : f = 3 := Option.some.inj ((show Tryd.prog.funcNamed "loop.example/g00972/laws.FnSpaces" = some 3 by kernel_rfl).symm.trans hf) |>.symm
      obtain rfl : fn = Tryd.f3 := (Option.some.inj (Tryd.func3.symm.trans hfn)).symm
      exact ⟨by kernel_rfl, fun j t ht => by
        rw [Tryd.params3] at ht
        have hm : t ∈ [22] := by simpa using Array.mem_of_getElem? ht
        have hall : ([22].all fun u => !Tryd.prog.wantsStandIn u) = true := by kernel_rfl
        exact (show Tryd.prog.wantsStandIn t = false by simpa using List.all_eq_true.1 hall t hm)⟩)
    (by kernel_rfl)
#print axioms Spaces_holds
end Go.Proofs.YtfmijkedhlnccaaDoor
