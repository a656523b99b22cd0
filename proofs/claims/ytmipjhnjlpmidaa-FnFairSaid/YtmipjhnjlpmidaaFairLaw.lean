/- The law FnFair returns true for every argument, and leaves its arguments as they were. No condition. -/
import Derived.Test.YtmipjhnjlpmidaaDrawIt
import Derived.Test.YtmipjhnjlpmidaaFairT
import Derived.Test.YtmipjhnjlpmidaaFlexIf
import Derived.OpenShut
import Derived.OwnWalk
import Derived.Lib.QuietBelow
import Derived.BigQuiet
namespace Go.Proofs.Ytmipjhnjlpmidaa
open Go.ChangeShapes Go.WideShapes Go.ChangeAt Go.RowKit Go.Sort
set_option linter.unusedVariables false
set_option linter.unusedSimpArgs false

theorem own : ownKnob Try.prog.godebug = none := by kernel_rfl
theorem laidOut : laidOutB Try.prog = true := by kernel_rfl

set_option maxRecDepth 100000 in
set_option maxHeartbeats 2000000 in
theorem l13Case_c (A : Option Addr) (n c : Nat) (w : World) (h : Byts w A n) (hn : n ≤ 1048576) :
    Calls Try.prog 84 #[.slice A n c] w fun r w' => ∃ (B : Option Addr) (d : Nat) (L : List Rec) (gap inner : Int), r = .returned (.tuple #[.slice B L.length d, .int .i64 gap, .int .i64 inner]) ∧ Recs w' B k_item L ∧ L.length ≤ 13 ∧ Bel w w' := by
  go_enter Try.func84, Try.ntmps84
  go_wp2_with fail
  refine (l01New_c _ _ _ _ h (by omega)).mono ?_; rintro e w1 ⟨rfl, hc1, hb1⟩
  have hlp := hc1.lt
  go_wp2_with fail
  refine (l13Any_c _ _ hc1).mono ?_; rintro e w2 ⟨v, L, rfl, ho2, hl, hc2, hb2⟩
  obtain ⟨B, d, rfl, -, -, -⟩ := own_openR (ks := k_item) rfl ho2
  go_wp2_with fail
  refine (pickLit_c _ [0, 0, 10, 64, -1, 1048577] _ _ hc2 (by simp) (by simp) (by simp)).mono ?_; rintro e w3 ⟨gap, rfl, hz3, hc3, hb3⟩
  have ho3 := own_cb ho2 hb3 hlp
  have hcb3 := hb2.trans hb3
  clear ho2 hz3 hb2 hb3 hc1 hc2
  obtain ⟨B', d', e', -, -, hR3⟩ := own_openR (ks := k_item) rfl ho3
  injection e' with e1 _ e3
  subst e1 e3
  go_wp2_with fail
  refine (shyps_c _ _ _ _ hR3 (by omega)).mono ?_; rintro e w4 ⟨u, rfl, hoZ, hb4⟩
  obtain ⟨Z, cz, rfl, -, -, hzl, hI⟩ := own_openM hoZ
  have HZL := Lib.hid hzl
  clear hzl
  have hR4 := hR3.keep hb4
  have hc4 := hc3.keep hb4
  have hcb4 := hcb3.bel hb4
  have ho4 := own_keep ho3 hb4
  clear hR3 hc3 hcb3 hoZ ho3
  go_wp2_with fail
  have h0 := sOuterOf_c B d L Z cz (hyps L) 0 w4 hR4 hI (by omega) (by rw [← HZL.out]; omega)
  rw [← HZL.out] at h0
  refine h0.mono ?_; rintro e w5 ⟨rfl, hb5⟩
  obtain ⟨out, hout⟩ : ∃ v, outerOf L (hyps L) 0 = v := ⟨_, rfl⟩
  rw [hout]
  clear hout hI h0
  have hR5 := hR4.keep hb5
  have hc5 := hc4.keep hb5
  have hcb5 := hcb4.bel hb5
  have ho5 := own_keep ho4 hb5
  clear hR4 hc4 hcb4 ho4
  go_wp2_with fail
  refine (pickLit_c _ [0, 640, 1000, 2000, 3333, out, 1048576, -1] _ _ hc5 (by simp) (by simp) (by simp)).mono ?_; rintro e w6 ⟨inner, rfl, hz6, hc6, hb6⟩
  have ho6 := own_cb ho5 hb6 hlp
  obtain ⟨B', d', e', -, -, hR6⟩ := own_openR (ks := k_item) rfl ho6
  injection e' with e1 _ e3
  subst e1 e3
  clear ho5 ho6
  go_wp2_with fail
  go_ret3
  exact ⟨B, d, L, gap, inner, rfl, hR6, hl, (hcb5.trans hb6).toBel hb1 (Nat.le_refl _)⟩
set_option maxRecDepth 100000 in
set_option maxHeartbeats 1000000 in
theorem drawFlexLine_c (A : Option Addr) (n c : Nat) (w : World) (h : Byts w A n) (hn : n ≤ 1048576) :
    Calls Try.prog 49 #[.slice A n c] w fun r w' => ∃ (B : Option Addr) (d : Nat) (L : List Rec) (gap inner : Int), r = .returned (.tuple #[.slice B L.length d, .int .i64 gap, .int .i64 inner]) ∧ Recs w' B k_item L ∧ L.length ≤ 13 ∧ Bel w w' := by
  go_enter Try.func49, Try.ntmps49
  go_wp2_with fail
  refine (l13Case_c _ _ _ _ h hn).mono ?_; rintro e w1 ⟨B, d, L, gap, inner, rfl, hR, hl, hb⟩
  go_wp2_with fail
  go_ret3
  exact ⟨B, d, L, gap, inner, rfl, hR, hl, hb⟩
def itemR (x : Rec) : Value := itemV (x.s 0) (x.s 1) (x.s 2) (x.s 3) (x.s 4) (x.s 5) (x.s 6) (x.b 7) (x.b 8)
def IB (u : World) (g : Nat) (x : Rec) : Prop := u.cell? ⟨g, 0, none⟩ = some (.int .i64 (x.s 0)) ∧ u.cell? ⟨g, 1, none⟩ = some (.int .i64 (x.s 1)) ∧ u.cell? ⟨g, 2, none⟩ = some (.int .i64 (x.s 2)) ∧ u.cell? ⟨g, 3, none⟩ = some (.int .i64 (x.s 3)) ∧ u.cell? ⟨g, 4, none⟩ = some (.int .i64 (x.s 4)) ∧ u.cell? ⟨g, 5, none⟩ = some (.int .i64 (x.s 5)) ∧ u.cell? ⟨g, 6, none⟩ = some (.int .i64 (x.s 6)) ∧ u.cell? ⟨g, 7, none⟩ = some (.bool (x.b 7)) ∧ u.cell? ⟨g, 8, none⟩ = some (.bool (x.b 8))
theorem IB.keep {u w : World} {g : Nat} {x : Rec} (h : IB u g x) (hb : Bel u w) (hg : g < u.heap.size) : IB w g x := by
  obtain ⟨x0, x1, x2, x3, x4, x5, x6, x7, x8⟩ := h
  exact ⟨(hb.cell _ _ hg).trans x0, (hb.cell _ _ hg).trans x1, (hb.cell _ _ hg).trans x2, (hb.cell _ _ hg).trans x3, (hb.cell _ _ hg).trans x4, (hb.cell _ _ hg).trans x5, (hb.cell _ _ hg).trans x6, (hb.cell _ _ hg).trans x7, (hb.cell _ _ hg).trans x8⟩
theorem IB.new (w : World) (x : Rec) : IB (w.alloc (.cells (rcells k_item x).toArray 48)) w.heap.size x :=
  ⟨new_cells w _ _ 0 _ rfl, new_cells w _ _ 1 _ rfl, new_cells w _ _ 2 _ rfl, new_cells w _ _ 3 _ rfl, new_cells w _ _ 4 _ rfl, new_cells w _ _ 5 _ rfl, new_cells w _ _ 6 _ rfl, new_cells w _ _ 7 _ rfl, new_cells w _ _ 8 _ rfl⟩
theorem rep_alike (m : Nat) (x : Rec) : Alike (List.replicate m x) x := fun i hi => by
  rw [List.length_replicate] at hi
  simp [rec_, List.getD, hi]
set_option maxRecDepth 100000 in
set_option maxHeartbeats 6000000 in
theorem lawFair_c (A : Option Addr) (c n : Nat) (w : World) (h : Byts w A n) :
    Calls Try.prog 9 #[.slice A n c] w fun r w' => r = .returned (.bool true) ∧ Bel w w' := by
  have E1 : within 5 9 7 = 9 := by decide
  by_cases hn : 1048576 < n
  · have hd : decide (1048576 < n) = true := by simpa using hn
    go_enter Try.func9, Try.ntmps9
    go_wp2_with fail
    refine (big_c _ _ _ _).mono ?_; rintro e w' ⟨rfl, rfl⟩
    rw [hd]
    go_wp2_with fail
    go_ret
    exact ⟨rfl, Bel.refl _⟩
  · have hd : decide (1048576 < n) = false := by simpa using hn
    go_enter Try.func9, Try.ntmps9
    go_wp2_with fail
    refine (big_c _ _ _ _).mono ?_; rintro e w' ⟨rfl, rfl⟩
    rw [hd]
    clear hd
    go_wp2_with fail
    refine (drawFlexLine_c _ _ _ _ h (by omega)).mono ?_; rintro e w1 ⟨B, d, L, gap, inner, rfl, hR, hl, hb1⟩
    by_cases h0 : L.length = 0
    · have h0i : (L.length : Int) = 0 := by omega
      go_wp2_with fail
      refine (iHypOf_c _ _ _ _ _ _ _ _ _ _).mono ?_; rintro e w2 ⟨rfl, hb2⟩
      rw [E1]
      go_wp2_with fail
      go_ret
      exact ⟨by first | rfl | simp, hb1.trans hb2⟩
    · have h0i : ¬ (L.length : Int) = 0 := by omega
      have h0p : (0 : Int) < (L.length : Int) := by omega
      have h0n : 0 < L.length := by omega
      obtain ⟨b, o, rfl, hbl, hc⟩ := hR 0 h0n
      obtain ⟨x0, x1, x2, x3, x4, x5, x6, x7, x8⟩ := item_cells hc h0n
      rw [Nat.zero_mul, Nat.add_zero] at x0 x1 x2 x3 x4 x5 x6 x7 x8
      obtain ⟨x, hx⟩ : ∃ x, rec_ L 0 = x := ⟨_, rfl⟩
      rw [hx] at x0 x1 x2 x3 x4 x5 x6 x7 x8
      clear hc hx
      have HNW := hid' (IB.new w1 x)
      have HBN : Hid (Bel w1 (w1.alloc (.cells (rcells k_item x).toArray 48))) := hid' ((Bel.refl _).alloc _)
      have hgn : w1.heap.size < (w1.alloc (.cells (rcells k_item x).toArray 48)).heap.size := by simp
      have hnn : (0 : Int) ≤ (n : Int) := by omega
      obtain ⟨m, hm, hm1, hm5⟩ : ∃ m : Nat, 1 + (n : Int) % 5 = (m : Int) ∧ 1 ≤ m ∧ m ≤ 5 := ⟨(1 + (n : Int) % 5).toNat, by omega, by omega, by omega⟩
      have hb0 : ((L.length : Int) == 0) = false := by rw [beq_eq_false_iff_ne]; exact h0i
      go_upto_region 8 with fail
      obtain ⟨W, hW⟩ : ∃ W, W = w1.alloc (.cells (rcells k_item x).toArray 48) := ⟨_, rfl⟩
      change Code.wp _ _ _ _ (w1.alloc (.cells (rcells k_item x).toArray 48))
      rw [← hW] at HNW HBN hgn ⊢
      clear hW
      obtain ⟨g6, hg6⟩ : ∃ g, w1.heap.size = g := ⟨_, rfl⟩
      rw [hg6] at HNW hgn ⊢
      clear hg6 x0 x1 x2 x3 x4 x5 x6 x7 x8 hm hnn
      have HT1 := hid' (hb1.trans HBN.out)
      go_wp2_with fail
      have ho0 : (W.alloc (.cells #[] 48)).ownsRow W.heap.size 48 9 (.slice (some ⟨W.heap.size, 0, none⟩) 0 0) 0 (RV k_item (List.replicate 0 x)) := World.ownsRow_lit W #[] 0 (Nat.le_refl _) (by unfold maxLen; omega) rfl
      go_loopw [8, 9] (fun v i wr => ∃ (k : Nat), k ≤ m ∧ i = .int .i64 k ∧ wr.ownsRow W.heap.size 48 9 v k (RV k_item (List.replicate k x)) ∧ Bel W wr) (fun _ i _ => m - (intOf i).toNat)
      case atStart => exact ⟨0, by omega, by go_num, ho0, (Bel.refl _).alloc _⟩
      case round =>
        obtain ⟨k, hk, rfl, hov, hb⟩ := hrel
        by_cases hkm : k < m
        · have hkmi : (k : Int) < (m : Int) := by omega
          obtain ⟨y0, y1, y2, y3, y4, y5, y6, y7, y8⟩ := HNW.out.keep hb hgn
          have hsz := hb.sz
          go_wp2_with (at_builtin; refine appG rfl (.tmp 41) (.tmp 43) 25 48 rfl (itemV 0 0 0 0 0 0 0 false false) 9 64 Try.underlying25 Try.info_item rfl (by decide) (by decide) W.heap.size _ _ _ rfl (hov.alloc _) wr.heap.size rfl (rcells k_item x) rfl (new_cells _ (rcells k_item x) _) (rcells_one _ _) (by omega) (by simp; omega) ?_; intro v' w2 ho2 hg2 hl2)
          go_roundw
          case rel => exact ⟨k + 1, by omega, by go_num, by rw [List.replicate_succ', ← RV_snoc]; exact ho2, (hb.alloc _).own (Nat.le_refl _) (hov.alloc _) hg2⟩
          case measure => simp [intOf]; omega
        · obtain rfl : k = m := by omega
          have hal := rep_alike k x
          have hlm : (List.replicate k x).length = k := List.length_replicate
          obtain ⟨Lm, hLm⟩ : ∃ Lm, List.replicate k x = Lm := ⟨_, rfl⟩
          rw [hLm] at hal hlm hov
          clear hLm
          obtain ⟨A2, c2, rfl, -, -, hR2⟩ := own_openR (ks := k_item) hlm.symm hov
          have HLM := Lib.hid hlm
          have HAL := Lib.hid hal
          have hlm5 : Lm.length ≤ 5 := by omega
          have hlm1 : 1 ≤ Lm.length := by omega
          clear hal hlm hov
          go_wp2_with fail
          refine (iFlexLine_c _ _ _ _ _ _ hR2 (by omega)).mono ?_; rintro e w3 ⟨v3, rfl, ho3, hb3⟩
          obtain ⟨Z, cz, rfl, -, -, hzl, hZ⟩ := own_openM ho3
          have HZL := Lib.hid hzl
          have HFA := hid' (fair_plain HAL.out hlm5 gap inner)
          obtain ⟨zs, hzs⟩ : ∃ zs, flexL Lm gap inner = zs := ⟨_, rfl⟩
          rw [hzs] at HZL HFA hZ
          clear hzs hzl ho3
          have hR3 := hR2.keep hb3
          have hb13 := hb.trans hb3
          have heq : (Lm.length : Int) = (k : Int) := by have := HLM.out; omega
          clear hR2 hb hb3
          go_wp2_with fail
          clear heq
          go_loopw [11] (fun i wx => ∃ (q : Nat), 1 ≤ q ∧ q ≤ k ∧ i = .int .i64 q ∧ Bel w3 wx) (fun i _ => k - (intOf i).toNat)
          case atStart => exact ⟨1, by omega, by omega, by go_num, Bel.refl _⟩
          case round =>
            obtain ⟨q, hq1, hqk, rfl, hbq⟩ := hrel
            by_cases hql : q < k
            · have hqi : (q : Int) < (k : Int) := by omega
              have hqz : q < zs.length := by have := HZL.out; have := HLM.out; omega
              have hf1 := HFA.out q 0 (by have := HLM.out; omega) (by omega)
              have hf2 := HFA.out 0 q (by omega) (by have := HLM.out; omega)
              obtain ⟨bz, oz, hze, hbzl, hcz⟩ := (hZ.keep hbq) 0 (by omega)
              subst hze
              have cz0 := hcz 0 (by omega)
              have czq := hcz q hqz
              rw [Nat.add_zero] at cz0
              have hqm : (q : Int) < (Lm.length : Int) := by have := HLM.out; omega
              have h0m : (0 : Int) < (Lm.length : Int) := by omega
              clear hcz
              obtain ⟨za, hza⟩ : ∃ v, at_ zs 0 = v := ⟨_, rfl⟩
              obtain ⟨zb, hzb⟩ : ∃ v, at_ zs q = v := ⟨_, rfl⟩
              rw [hza] at hf1 hf2 cz0
              rw [hzb] at hf1 hf2 czq
              have q1 : IntKind.i64.wrap (zb - za) = zb - za := IntWalk.i64_in _ (by omega)
              clear hza hzb
              go_wp2_with fail
              go_quiet (fail)
              clear q1
              have g1 : ¬ zb - za < -1 := by omega
              have g2 : ¬ 1 < zb - za := by omega
              go_wp2_with fail
              go_roundw
              case rel => exact ⟨q + 1, by omega, by omega, by go_num, hbq.drewN _⟩
              case measure => simp [intOf]; omega
            · obtain rfl : q = k := by omega
              have hR4 := hR3.keep hbq
              have hZ4 := hZ.keep hbq
              go_wp2_with fail
              refine (by
                have h0 := iOuterOf_c A2 c2 Lm Z cz zs gap wr hR4 hZ4 (by omega) (by have := HZL.out; omega)
                rw [← HZL.out] at h0
                exact h0 : Calls Try.prog 51 #[.slice A2 Lm.length c2, .slice Z Lm.length cz, .int .i64 gap] wr fun r w' => r = .returned (.int .i64 (outerOf Lm zs gap)) ∧ Bel wr w').mono ?_; rintro e w5 ⟨rfl, hb5⟩
              obtain ⟨out, hout⟩ : ∃ v, outerOf Lm zs gap = v := ⟨_, rfl⟩
              have HO := Lib.hid hout
              rw [hout]
              clear hout
              have hR5 := hR4.keep hb5
              have hZ5 := hZ4.keep hb5
              have hb15 := (hb13.trans hbq).trans hb5
              obtain ⟨y0, y1, y2, y3, y4, y5, y6, y7, y8⟩ := HNW.out.keep hb15 hgn
              obtain ⟨hv, hhv⟩ : ∃ v, within (x.s 0) (x.s 1) (x.s 2) = v := ⟨_, rfl⟩
              obtain ⟨io, hio⟩ : ∃ v, itemOk (x.s 0) (x.s 1) (x.s 2) (x.s 3) (x.s 4) (x.s 5) (x.s 6) = v := ⟨_, rfl⟩
              have C1 : Hid (∀ u, Bel w5 u → Calls Try.prog 52 #[.slice A2 Lm.length c2, .slice Z Lm.length cz, .int .i64 gap] u fun e u' => e = .returned (.int .i64 out) ∧ Below u.heap.size u u') := hid' (fun u hu => by
                have h1 := sOuterOf_c A2 c2 Lm Z cz zs gap u (hR5.keep hu) (hZ5.keep hu) (by omega) (by have := HZL.out; omega)
                rw [← HZL.out, HO.out] at h1
                exact h1)
              have C2 : Hid (∀ u : World, Calls Try.prog 50 #[itemV (x.s 0) (x.s 1) (x.s 2) (x.s 3) (x.s 4) (x.s 5) (x.s 6) (x.b 7) (x.b 8)] u fun e u' => e = .returned (.int .i64 hv) ∧ Below u.heap.size u u') := hid' (fun u => by have h1 := iHypOf_c (x.s 0) (x.s 1) (x.s 2) (x.s 3) (x.s 4) (x.s 5) (x.s 6) (x.b 7) (x.b 8) u; rw [hhv] at h1; exact h1)
              have C3 : Hid (∀ u : World, Calls Try.prog 53 #[itemV (x.s 0) (x.s 1) (x.s 2) (x.s 3) (x.s 4) (x.s 5) (x.s 6) (x.b 7) (x.b 8)] u fun e u' => e = .returned (.int .i64 hv) ∧ Below u.heap.size u u') := hid' (fun u => by have h1 := sHypOf_c (x.s 0) (x.s 1) (x.s 2) (x.s 3) (x.s 4) (x.s 5) (x.s 6) (x.b 7) (x.b 8) u; rw [hhv] at h1; exact h1)
              have C4 : Hid (∀ u : World, Calls Try.prog 54 #[itemV (x.s 0) (x.s 1) (x.s 2) (x.s 3) (x.s 4) (x.s 5) (x.s 6) (x.b 7) (x.b 8)] u fun e u' => e = .returned (.bool io) ∧ Below u.heap.size u u') := hid' (fun u => by have h1 := iItemOk_c (x.s 0) (x.s 1) (x.s 2) (x.s 3) (x.s 4) (x.s 5) (x.s 6) (x.b 7) (x.b 8) u; rw [hio] at h1; exact h1)
              have C5 : Hid (∀ u : World, Calls Try.prog 55 #[itemV (x.s 0) (x.s 1) (x.s 2) (x.s 3) (x.s 4) (x.s 5) (x.s 6) (x.b 7) (x.b 8)] u fun e u' => e = .returned (.bool io) ∧ Below u.heap.size u u') := hid' (fun u => by have h1 := sItemOk_c (x.s 0) (x.s 1) (x.s 2) (x.s 3) (x.s 4) (x.s 5) (x.s 6) (x.b 7) (x.b 8) u; rw [hio] at h1; exact h1)
              have C6 : Hid (∀ u : World, Calls Try.prog 50 #[itemV 5 9 7 0 0 0 0 false false] u fun e u' => e = .returned (.int .i64 9) ∧ Below u.heap.size u u') := hid' (fun u => by have h1 := iHypOf_c 5 9 7 0 0 0 0 false false u; rw [E1] at h1; exact h1)
              have q0 := cell_regrown y0
              have q1 := cell_regrown y1
              have q2 := cell_regrown y2
              have q3 := cell_regrown y3
              have q4 := cell_regrown y4
              have q5 := cell_regrown y5
              have q6 := cell_regrown y6
              have q7 := cell_regrown y7
              have q8 := cell_regrown y8
              clear hhv hio y0 y1 y2 y3 y4 y5 y6 y7 y8 hR4 hR5 hZ4 hZ5 hR3 hZ
              go_wp2_with fail
              refine wp_region_quiet_below (by kernel_rfl) (by kernel_rfl) ?_
              repeat (go_big_quiet_step ((first | (go_at_call 52; exact Calls.regrown_of (C1.out _ (below_regrown _ _ _))) | (go_at_call 50; first | exact Calls.regrown_of (C2.out _) | exact Calls.regrown_of (C6.out _)) | (go_at_call 53; exact Calls.regrown_of (C3.out _)) | (go_at_call 54; exact Calls.regrown_of (C4.out _)) | (go_at_call 55; exact Calls.regrown_of (C5.out _)))))
              refine wpQuiet_nil ?_
              intro _ hw'
              obtain ⟨⟨dq, osq⟩, hw''⟩ := hw'
              subst hw''
              have hbq : Bel w5 (grow (redrawn w5 dq) osq) := below_regrown w5 dq osq
              generalize grow (redrawn w5 dq) osq = wq at hbq ⊢
              clear q0 q1 q2 q3 q4 q5 q6 q7 q8 C1 C2 C3 C4 C5 C6
              go_wp2_with fail
              go_ret
              exact ⟨by first | rfl | simp, HT1.out.trans (hb15.trans hbq)⟩

set_option maxRecDepth 100000 in
theorem Fair_lifted (os : Os) (started : os.Started) (H : Type) (enc : TypeId × Value → H) :
    ReturnsInHanded {} Try.checked os 9 .any (Rows.fnFairSpec.pre6 enc Try.prog Try.f9 Rows.fnFairRow.domain false) (Rows.fnFairSpec.post enc Try.prog Try.f9 false true false false) := by
  refine law_lifted (C := Try.checked) (tb := 4) own started (by kernel_rfl) Try.func9 laidOut rfl rfl Try.underlying4 (by kernel_rfl)
    (fun ds h => match ds, h with | [_], _ => rfl)
    (ChangeSpec.witness6 (enc := enc) (C := Try.checked) false ⟨#[], #[.slice none 0 0], []⟩ 8 (by kernel_rfl) (by kernel_rfl) (by kernel_rfl) (by kernel_rfl)) ?_
  intro W base args ds ps hval0 hA0
  have hval : ∀ (j : Nat) t v, Try.f9.params[j]? = some t → args[j]? = some v → Value.okWide Try.prog W .any base t v := hval0
  have hA : DataW.TrodAll enc Try.prog W 0 (fun _ => true) true Try.f9.params.toList args.toList ds ps := hA0
  clear hval0 hA0
  rw [Try.params9] at hA hval
  obtain ⟨v0, d0, rfl, rfl, h0⟩ := trodAll_one hA
  obtain ⟨A, c, n, rfl, -, -, hI⟩ := open_bytes Try.underlying36 Try.underlying5 (by kernel_rfl) (hval 0 36 v0 rfl rfl) h0
  exact lawFair_c _ _ _ W hI

theorem Fair_holds : Rows.FnFairSaid :=
  OpenClaim.holds_of_wide 9 Try.f9 rfl rfl rfl rfl rfl rfl rfl ⟨rfl, rfl, rfl, rfl, rfl⟩ rfl rfl rfl rfl rfl (by kernel_rfl) Try.func9 (by kernel_rfl)
    (of_decide_eq_true (by kernel_rfl)) (by unfold Func.isWrapper; first | (rw [if_pos (by decide +kernel)]; kernel_rfl) | (rw [if_neg (by decide +kernel)]; exact ⟨rfl, rfl⟩))
    (fun os started H enc _ => Fair_lifted os started H enc)
#print axioms Fair_holds
end Go.Proofs.Ytmipjhnjlpmidaa
