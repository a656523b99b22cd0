/- The law FnAligned returns true for every argument, and leaves its arguments as they were. No condition. -/
import Derived.Test.YtmipjhnjlpmidaaDrawSide
import Derived.Test.YtmipjhnjlpmidaaAlignT
import Derived.OpenShut
import Derived.Lib.QuietBelow
import Derived.BigQuiet
import Derived.Deep.CutBlock
namespace Go.Proofs.Ytmipjhnjlpmidaa
open Go.ChangeShapes Go.WideShapes Go.ChangeAt Go.RowKit Go.Sort
set_option linter.unusedVariables false
set_option linter.unusedSimpArgs false

theorem own : ownKnob Try.prog.godebug = none := by kernel_rfl
theorem laidOut : laidOutB Try.prog = true := by kernel_rfl

/-- a side's cells in a box -/
def SB (u : World) (g : Nat) (x : Rec) : Prop := u.cell? ⟨g, 0, none⟩ = some (.int .i64 (x.s 0)) ∧ u.cell? ⟨g, 1, none⟩ = some (.int .i64 (x.s 1)) ∧ u.cell? ⟨g, 2, none⟩ = some (.int .i64 (x.s 2)) ∧ u.cell? ⟨g, 3, none⟩ = some (.bool (x.b 3)) ∧ u.cell? ⟨g, 4, none⟩ = some (.bool (x.b 4)) ∧ u.cell? ⟨g, 5, none⟩ = some (.int .i64 (x.s 5)) ∧ u.cell? ⟨g, 6, none⟩ = some (.int .i64 (x.s 6))
theorem SB.keep {u w : World} {g : Nat} {x : Rec} (h : SB u g x) (hb : Bel u w) (hg : g < u.heap.size) : SB w g x := by
  obtain ⟨x0, x1, x2, x3, x4, x5, x6⟩ := h
  exact ⟨(hb.cell _ _ hg).trans x0, (hb.cell _ _ hg).trans x1, (hb.cell _ _ hg).trans x2, (hb.cell _ _ hg).trans x3, (hb.cell _ _ hg).trans x4, (hb.cell _ _ hg).trans x5, (hb.cell _ _ hg).trans x6⟩
theorem SB.new (w : World) (x : Rec) : SB (w.alloc (.cells (rcells k_side x).toArray 51)) w.heap.size x :=
  ⟨new_cells w _ _ 0 _ rfl, new_cells w _ _ 1 _ rfl, new_cells w _ _ 2 _ rfl, new_cells w _ _ 3 _ rfl, new_cells w _ _ 4 _ rfl, new_cells w _ _ 5 _ rfl, new_cells w _ _ 6 _ rfl⟩
def endR : Rec := ⟨fun i => if i = 0 then 20 else if i = 2 then 5 else if i = 5 then 3 else 0, fun _ => false⟩
def plA (x : Rec) (cross base : Int) : Int := placeAcross (x.s 0) (x.s 1) (x.s 2) (x.b 3) (x.b 4) (x.s 5) (x.s 6) cross base
theorem belq {w u u' : World} (h : Bel u u') : Below u.heap.size u u' := h
set_option maxRecDepth 100000 in
set_option maxHeartbeats 8000000 in
theorem lawAligned_c (A : Option Addr) (c n : Nat) (w : World) (h : Byts w A n) :
    Calls Try.prog 8 #[.slice A n c] w fun r w' => r = .returned (.bool true) ∧ Bel w w' := by
  by_cases hn : 1048576 < n
  · have hd : decide (1048576 < n) = true := by simpa using hn
    go_enter Try.func8, Try.ntmps8
    go_wp2_with fail
    refine (big_c _ _ _ _).mono ?_; rintro e w' ⟨rfl, rfl⟩
    rw [hd]
    go_wp2_with fail
    go_ret
    exact ⟨rfl, Bel.refl _⟩
  · have hd : decide (1048576 < n) = false := by simpa using hn
    go_enter Try.func8, Try.ntmps8
    go_wp2_with fail
    refine (big_c _ _ _ _).mono ?_; rintro e w' ⟨rfl, rfl⟩
    rw [hd]
    clear hd
    go_wp2_with fail
    refine (drawPlaceAcross_c _ _ _ _ h (by omega)).mono ?_; rintro e w1 ⟨x, cross, base, rfl, hcr, hba, hb1⟩
    unfold sideR
    have hS0 := SB.new w1 x
    have hB0 : Bel w1 (w1.alloc (.cells (rcells k_side x).toArray 51)) := (Bel.refl _).alloc _
    have hl0 : w1.heap.size < (w1.alloc (.cells (rcells k_side x).toArray 51)).heap.size := by simp
    have HS0 := Lib.hid hS0
    have HB0 := Lib.hid hB0
    obtain ⟨x0, x1, x2, x3, x4, x5, x6⟩ := hS0
    clear hB0
    go_wp2_with fail
    refine (iPlaceAcross_c _ _ _ _ _ _ _ _ _ _).mono ?_; rintro e w2 ⟨rfl, hb2⟩
    have hS2 := HS0.out.keep hb2 hl0
    have T2 := hb1.trans (HB0.out.trans hb2)
    have hg2 := Nat.lt_of_lt_of_le hl0 hb2.sz
    obtain ⟨at0, hat0⟩ : ∃ v, placeAcross (x.s 0) (x.s 1) (x.s 2) (x.b 3) (x.b 4) (x.s 5) (x.s 6) cross base = v := ⟨_, rfl⟩
    have HAT := Lib.hid hat0
    rw [hat0]
    clear hat0 x0 x1 x2 x3 x4 x5 x6 HS0 HB0 hb1 hb2 hl0
    obtain ⟨g, hg⟩ : ∃ g, w1.heap.size = g := ⟨_, rfl⟩
    rw [hg] at hS2 hg2
    go_wp2_with fail
    (try rw [hg])
    clear hg
    refine (drawCrossOf_c _ _ _ _ (h.keep T2) (by omega)).mono ?_; rintro e w3 ⟨B, d, L, rfl, hR, hl, hb3⟩
    have hS3 := hS2.keep hb3 hg2
    have hg3 := Nat.lt_of_lt_of_le hg2 hb3.sz
    have T3 := T2.trans hb3
    clear hS2 hb3 T2 hg2
    go_wp2_with fail
    refine (iCrossOf_c _ _ _ _ hR (by omega)).mono ?_; rintro e w4 ⟨rfl, hb4⟩
    obtain ⟨hi, hhi⟩ : ∃ v, crossOf L = v := ⟨_, rfl⟩
    have HHI := Lib.hid hhi
    rw [hhi]
    clear hhi
    have hR4 := hR.keep hb4
    have hS4 := hS3.keep hb4 hg3
    have hg4 := Nat.lt_of_lt_of_le hg3 hb4.sz
    have T4 := T3.trans hb4
    clear hR hS3 hb4 hg3 T3
    go_wp2_with fail
    refine (iBaseOf_c _ _ _ _ hR4 (by omega)).mono ?_; rintro e w5 ⟨rfl, hb5⟩
    obtain ⟨li, hli⟩ : ∃ v, baseOf L = v := ⟨_, rfl⟩
    have HLI := Lib.hid hli
    rw [hli]
    clear hli
    have hR5 := hR4.keep hb5
    have hS5 := hS4.keep hb5 hg4
    have hg5 := Nat.lt_of_lt_of_le hg4 hb5.sz
    have T5 := T4.trans hb5
    clear hR4 hS4 hb5 hg4 T4
    obtain ⟨so, hso⟩ : ∃ v, sideOk (x.s 0) (x.s 1) (x.s 2) (x.s 5) (x.s 6) = v := ⟨_, rfl⟩
    obtain ⟨ob, hob⟩ : ∃ v, onBase (x.b 3) (x.b 4) (x.s 5) = v := ⟨_, rfl⟩
    obtain ⟨fi, hfi⟩ : ∃ v, fills (x.b 3) (x.b 4) (x.s 5) = v := ⟨_, rfl⟩
    have C1 : Hid (∀ u, Bel w5 u → Calls Try.prog 40 #[sideV (x.s 0) (x.s 1) (x.s 2) (x.b 3) (x.b 4) (x.s 5) (x.s 6), .int .i64 cross, .int .i64 base] u fun e u' => e = .returned (.int .i64 at0) ∧ Below u.heap.size u u') := hid' (fun u _ => by have h1 := sPlaceAcross_c (x.s 0) (x.s 1) (x.s 2) (x.b 3) (x.b 4) (x.s 5) (x.s 6) cross base u; rw [HAT.out] at h1; exact h1)
    have C2 : Hid (∀ u, Bel w5 u → Calls Try.prog 41 #[.slice B L.length d] u fun e u' => e = .returned (.int .i64 hi) ∧ Below u.heap.size u u') := hid' (fun u hu => by have h1 := sCrossOf_c B d L u (hR5.keep hu) (by omega); rw [HHI.out] at h1; exact h1)
    have C3 : Hid (∀ u, Bel w5 u → Calls Try.prog 42 #[.slice B L.length d] u fun e u' => e = .returned (.int .i64 li) ∧ Below u.heap.size u u') := hid' (fun u hu => by have h1 := sBaseOf_c B d L u (hR5.keep hu) (by omega); rw [HLI.out] at h1; exact h1)
    have C4 : Hid (∀ u, Bel w5 u → Calls Try.prog 43 #[sideV (x.s 0) (x.s 1) (x.s 2) (x.b 3) (x.b 4) (x.s 5) (x.s 6)] u fun e u' => e = .returned (.bool so) ∧ Below u.heap.size u u') := hid' (fun u _ => by have h1 := iSideOk_c (x.s 0) (x.s 1) (x.s 2) (x.b 3) (x.b 4) (x.s 5) (x.s 6) u; rw [hso] at h1; exact h1)
    have C5 : Hid (∀ u, Bel w5 u → Calls Try.prog 44 #[sideV (x.s 0) (x.s 1) (x.s 2) (x.b 3) (x.b 4) (x.s 5) (x.s 6)] u fun e u' => e = .returned (.bool so) ∧ Below u.heap.size u u') := hid' (fun u _ => by have h1 := sSideOk_c (x.s 0) (x.s 1) (x.s 2) (x.b 3) (x.b 4) (x.s 5) (x.s 6) u; rw [hso] at h1; exact h1)
    have C6 : Hid (∀ u, Bel w5 u → Calls Try.prog 45 #[sideV (x.s 0) (x.s 1) (x.s 2) (x.b 3) (x.b 4) (x.s 5) (x.s 6)] u fun e u' => e = .returned (.bool ob) ∧ Below u.heap.size u u') := hid' (fun u _ => by have h1 := iOnBase_c (x.s 0) (x.s 1) (x.s 2) (x.b 3) (x.b 4) (x.s 5) (x.s 6) u; rw [hob] at h1; exact h1)
    have C7 : Hid (∀ u, Bel w5 u → Calls Try.prog 46 #[sideV (x.s 0) (x.s 1) (x.s 2) (x.b 3) (x.b 4) (x.s 5) (x.s 6)] u fun e u' => e = .returned (.bool ob) ∧ Below u.heap.size u u') := hid' (fun u _ => by have h1 := sOnBase_c (x.s 0) (x.s 1) (x.s 2) (x.b 3) (x.b 4) (x.s 5) (x.s 6) u; rw [hob] at h1; exact h1)
    have C8 : Hid (∀ u, Bel w5 u → Calls Try.prog 47 #[sideV (x.s 0) (x.s 1) (x.s 2) (x.b 3) (x.b 4) (x.s 5) (x.s 6)] u fun e u' => e = .returned (.bool fi) ∧ Below u.heap.size u u') := hid' (fun u _ => by have h1 := iFills_c (x.s 0) (x.s 1) (x.s 2) (x.b 3) (x.b 4) (x.s 5) (x.s 6) u; rw [hfi] at h1; exact h1)
    have C9 : Hid (∀ u, Bel w5 u → Calls Try.prog 48 #[sideV (x.s 0) (x.s 1) (x.s 2) (x.b 3) (x.b 4) (x.s 5) (x.s 6)] u fun e u' => e = .returned (.bool fi) ∧ Below u.heap.size u u') := hid' (fun u _ => by have h1 := sFills_c (x.s 0) (x.s 1) (x.s 2) (x.b 3) (x.b 4) (x.s 5) (x.s 6) u; rw [hfi] at h1; exact h1)
    have HSO := Lib.hid hso
    have HOB := Lib.hid hob
    have HS5 := Lib.hid hS5
    have HR5 := Lib.hid hR5
    obtain ⟨x0, x1, x2, x3, x4, x5, x6⟩ := hS5
    have q0 := cell_regrown x0
    have q1 := cell_regrown x1
    have q2 := cell_regrown x2
    have q3 := cell_regrown x3
    have q4 := cell_regrown x4
    have q5 := cell_regrown x5
    have q6 := cell_regrown x6
    clear hso hob hfi hR5 x0 x1 x2 x3 x4 x5 x6
    go_wp2_with fail
    refine wp_region_quiet_below (by kernel_rfl) (by kernel_rfl) ?_
    repeat (go_big_quiet_step ((first | (go_at_call 40; exact Calls.regrown_of (C1.out _ (below_regrown _ _ _))) | (go_at_call 41; exact Calls.regrown_of (C2.out _ (below_regrown _ _ _))) | (go_at_call 42; exact Calls.regrown_of (C3.out _ (below_regrown _ _ _))) | (go_at_call 43; exact Calls.regrown_of (C4.out _ (below_regrown _ _ _))) | (go_at_call 44; exact Calls.regrown_of (C5.out _ (below_regrown _ _ _))) | (go_at_call 45; exact Calls.regrown_of (C6.out _ (below_regrown _ _ _))) | (go_at_call 46; exact Calls.regrown_of (C7.out _ (below_regrown _ _ _))) | (go_at_call 47; exact Calls.regrown_of (C8.out _ (below_regrown _ _ _))) | (go_at_call 48; exact Calls.regrown_of (C9.out _ (below_regrown _ _ _))))))
    refine wpQuiet_nil ?_
    intro _ hw'
    obtain ⟨⟨dq, osq⟩, hw''⟩ := hw'
    subst hw''
    have hbq : Bel w5 (grow (redrawn w5 dq) osq) := below_regrown w5 dq osq
    generalize grow (redrawn w5 dq) osq = wq at hbq ⊢
    clear q0 q1 q2 q3 q4 q5 q6 C1 C2 C3 C4 C5 C6 C7 C8 C9
    have hS6 := HS5.out.keep hbq hg5
    have hR6 := HR5.out.keep hbq
    have T6 := T5.trans hbq
    have hg6 := Nat.lt_of_lt_of_le hg5 hbq.sz
    have HS6 := Lib.hid hS6
    have HT6 := Lib.hid T6
    clear HS5 HR5 T5 hbq hg5 hS6 T6
    go_wp2_with fail
    go_loopw [10, 11] (fun gd i wr => ∃ (k : Nat) (b : Bool), k ≤ L.length ∧ i = .int .i64 k ∧ gd = .bool b ∧ Hid (b = true → L.length ≤ 12 ∧ ∀ j, j < k → sideOkR (rec_ L j) = true) ∧ Bel wq wr) (fun _ i _ => L.length - (intOf i).toNat)
    case atStart => exact ⟨0, decide ((L.length : Int) ≤ 12), Nat.zero_le _, by go_num, rfl, hid' (fun e => ⟨by simp at e; omega, fun j hj => by omega⟩), Bel.refl _⟩
    case round =>
      obtain ⟨k, b, hk, rfl, rfl, HB, hb⟩ := hrel
      by_cases hkl : k < L.length
      · have hki : (k : Int) < (L.length : Int) := by omega
        cases b
        · go_wp2_with fail
          go_roundw
          case rel => exact ⟨k + 1, false, by omega, by go_num, rfl, hid' (fun e => by cases e), hb⟩
          case measure => simp [intOf]; omega
        · obtain ⟨bb, o, rfl, hbl, hc⟩ := (hR6.keep hb) k hkl
          obtain ⟨x0, x1, x2, x3, x4, x5, x6⟩ := side_cells hc hkl
          clear hc
          go_wp2_with fail
          refine (sSideOk_c _ _ _ _ _ _ _ _).mono ?_; rintro e w7 ⟨rfl, hb7⟩
          clear x0 x1 x2 x3 x4 x5 x6
          obtain ⟨sk, hsk⟩ : ∃ v, sideOk ((rec_ L k).s 0) ((rec_ L k).s 1) ((rec_ L k).s 2) ((rec_ L k).s 5) ((rec_ L k).s 6) = v := ⟨_, rfl⟩
          have HSK := Lib.hid hsk
          rw [hsk]
          clear hsk
          go_wp2_with fail
          go_roundw
          case rel => exact ⟨k + 1, sk, by omega, by go_num, rfl, hid' (fun e => ⟨(HB.out (by simp)).1, fun j hj => by
            rcases Nat.lt_succ_iff_lt_or_eq.1 hj with h1 | h1
            · exact (HB.out (by simp)).2 j h1
            · subst h1; exact HSK.out.trans e⟩), hb.trans hb7⟩
          case measure => simp [intOf]; omega
      · obtain rfl : k = L.length := by omega
        go_upto_block 2 with fail
        go_cut [] from 76 (fun wx => Bel wq wx)
        case first =>
          go_wp2_with fail
          go_loopw [12] (fun i wx => ∃ k2 : Nat, k2 ≤ L.length ∧ i = .int .i64 k2 ∧ Bel wq wx) (fun i _ => L.length - (intOf i).toNat)
          case atStart => exact ⟨0, Nat.zero_le _, by go_num, hb⟩
          case round =>
            rename World => wx
            obtain ⟨k2, hk2, rfl, hb2⟩ := hrel
            by_cases hkl2 : k2 < L.length
            · have hki2 : (k2 : Int) < (L.length : Int) := by omega
              cases b
              · go_wp2_with fail
                go_meet
                exact hb2
              · by_cases hh : hi < 1048576
                · obtain ⟨h12, hsk⟩ := HB.out (by simp)
                  have hlh := line_holds h12 hsk (by rw [HHI.out]; exact hh) hkl2
                  have hlb := base_range hsk
                  rw [HHI.out, HLI.out] at hlh
                  rw [HLI.out] at hlb
                  have hsr := hsk k2 hkl2
                  have hsb := sideOk_bd hsr
                  obtain ⟨bb, o, rfl, hbl, hc⟩ := (hR6.keep hb2) k2 hkl2
                  obtain ⟨x0, x1, x2, x3, x4, x5, x6⟩ := side_cells hc hkl2
                  have HSR := Lib.hid hsr
                  have HSB := Lib.hid hsb
                  have HLH := Lib.hid hlh
                  clear hc hsk hsr hlh hsb
                  obtain ⟨r, hr⟩ : ∃ r, rec_ L k2 = r := ⟨_, rfl⟩
                  rw [hr] at HSR HSB HLH x0 x1 x2 x3 x4 x5 x6
                  clear hr
                  have HNW := hid' (SB.new wx r)
                  have HBN : Hid (Bel wx (wx.alloc (.cells (rcells k_side r).toArray 51))) := hid' ((Bel.refl _).alloc _)
                  have hgn : wx.heap.size < (wx.alloc (.cells (rcells k_side r).toArray 51)).heap.size := by simp
                  go_wp2_with fail
                  obtain ⟨W, hW⟩ : ∃ W, W = wx.alloc (.cells (rcells k_side r).toArray 51) := ⟨_, rfl⟩
                  change Code.wp _ _ _ _ (wx.alloc (.cells (rcells k_side r).toArray 51))
                  rw [← hW] at HNW HBN hgn ⊢
                  clear hW
                  obtain ⟨gy, hgy⟩ : ∃ g, wx.heap.size = g := ⟨_, rfl⟩
                  rw [hgy] at HNW hgn ⊢
                  clear hgy x0 x1 x2 x3 x4 x5 x6
                  obtain ⟨y0, y1, y2, y3, y4, y5, y6⟩ := HNW.out
                  have q0 := cell_regrown y0
                  have q1 := cell_regrown y1
                  have q2 := cell_regrown y2
                  have q3 := cell_regrown y3
                  have q4 := cell_regrown y4
                  have q5 := cell_regrown y5
                  have q6 := cell_regrown y6
                  have e1 : IntKind.i64.wrap (r.s 0 + r.s 1) = r.s 0 + r.s 1 := IntWalk.i64_in _ (by have := HSB.out; omega)
                  have e2 : IntKind.i64.wrap (r.s 0 + r.s 1 + r.s 2) = r.s 0 + r.s 1 + r.s 2 := IntWalk.i64_in _ (by have := HSB.out; omega)
                  obtain ⟨on, hon⟩ : ∃ v, onBase (r.b 3) (r.b 4) (r.s 5) = v := ⟨_, rfl⟩
                  have C1 : Hid (∀ u : World, Calls Try.prog 46 #[sideV (r.s 0) (r.s 1) (r.s 2) (r.b 3) (r.b 4) (r.s 5) (r.s 6)] u fun e u' => e = .returned (.bool on) ∧ Below u.heap.size u u') := hid' (fun u => by have h1 := sOnBase_c (r.s 0) (r.s 1) (r.s 2) (r.b 3) (r.b 4) (r.s 5) (r.s 6) u; rw [hon] at h1; exact h1)
                  clear y0 y1 y2 y3 y4 y5 y6
                  cases on
                  · have hle : r.s 0 + r.s 1 + r.s 2 ≤ hi := by have h1 := HLH.out; rw [onR, hon, if_neg (by simp)] at h1; exact h1
                    have hdf : decide (hi < r.s 0 + r.s 1 + r.s 2) = false := by simp; omega
                    clear hon hle
                    refine wp_region_quiet_below (by kernel_rfl) (by kernel_rfl) ?_
                    repeat (go_big_quiet_step ((first | (go_at_call 46; exact Calls.regrown_of (C1.out _)))))
                    refine wpQuiet_nil ?_
                    intro _ hw'
                    obtain ⟨⟨dq, osq⟩, hw''⟩ := hw'
                    subst hw''
                    have hbq : Bel W (grow (redrawn W dq) osq) := below_regrown W dq osq
                    generalize grow (redrawn W dq) osq = wq at hbq ⊢
                    clear q0 q1 q2 q3 q4 q5 q6 e1 e2 C1
                    go_wp2_with fail
                    go_roundw
                    case rel => exact ⟨k2 + 1, by omega, by go_num, (hb2.trans HBN.out).trans hbq⟩
                    case measure => simp [intOf]; omega
                  · have hle : li - r.s 6 + r.s 0 + r.s 2 ≤ hi := by have h1 := HLH.out; rw [onR, hon, if_pos rfl] at h1; exact h1
                    have hok : sideOk (r.s 0) (r.s 1) (r.s 2) (r.s 5) (r.s 6) = true := HSR.out
                    have hpl : placeAcross (r.s 0) (r.s 1) (r.s 2) (r.b 3) (r.b 4) (r.s 5) (r.s 6) hi li = li - r.s 6 := by
                      simp only [onBase, Bool.and_eq_true, beq_iff_eq, Bool.not_eq_true'] at hon
                      obtain ⟨⟨h5, h3⟩, h4⟩ := hon
                      rw [h5] at hok
                      rw [h3, h4, h5]
                      exact place_base hok (by omega)
                    have C2 : Hid (∀ u : World, Calls Try.prog 36 #[sideV (r.s 0) (r.s 1) (r.s 2) (r.b 3) (r.b 4) (r.s 5) (r.s 6), .int .i64 hi, .int .i64 li] u fun e u' => e = .returned (.int .i64 (li - r.s 6)) ∧ Below u.heap.size u u') := hid' (fun u => by have h1 := iPlaceAcross_c (r.s 0) (r.s 1) (r.s 2) (r.b 3) (r.b 4) (r.s 5) (r.s 6) hi li u; rw [hpl] at h1; exact h1)
                    have e3 : IntKind.i64.wrap (li - r.s 6 + r.s 0) = li - r.s 6 + r.s 0 := IntWalk.i64_in _ (by have := HSB.out; omega)
                    have e4 : IntKind.i64.wrap (li - r.s 6 + r.s 0 + r.s 2) = li - r.s 6 + r.s 0 + r.s 2 := IntWalk.i64_in _ (by have := HSB.out; omega)
                    have hdf2 : decide (hi < li - r.s 6 + r.s 0 + r.s 2) = false := by simp; omega
                    clear hon hle hpl hok
                    by_cases hgt : hi < r.s 0 + r.s 1 + r.s 2
                    · have hdf : decide (hi < r.s 0 + r.s 1 + r.s 2) = true := by simp; omega
                      clear hgt
                      refine wp_region_quiet_below (by kernel_rfl) (by kernel_rfl) ?_
                      repeat (go_big_quiet_step ((first | (go_at_call 46; exact Calls.regrown_of (C1.out _)) | (go_at_call 36; exact Calls.regrown_of (C2.out _)))))
                      refine wpQuiet_nil ?_
                      intro _ hw'
                      obtain ⟨⟨dq, osq⟩, hw''⟩ := hw'
                      subst hw''
                      have hbq : Bel W (grow (redrawn W dq) osq) := below_regrown W dq osq
                      generalize grow (redrawn W dq) osq = wq at hbq ⊢
                      clear q0 q1 q2 q3 q4 q5 q6 e1 e2 e3 e4 C1 C2
                      go_wp2_with fail
                      go_roundw
                      case rel => exact ⟨k2 + 1, by omega, by go_num, (hb2.trans HBN.out).trans hbq⟩
                      case measure => simp [intOf]; omega
                    · have hdf : decide (hi < r.s 0 + r.s 1 + r.s 2) = false := by simp; omega
                      clear hgt
                      refine wp_region_quiet_below (by kernel_rfl) (by kernel_rfl) ?_
                      repeat (go_big_quiet_step ((first | (go_at_call 46; exact Calls.regrown_of (C1.out _)) | (go_at_call 36; exact Calls.regrown_of (C2.out _)))))
                      refine wpQuiet_nil ?_
                      intro _ hw'
                      obtain ⟨⟨dq, osq⟩, hw''⟩ := hw'
                      subst hw''
                      have hbq : Bel W (grow (redrawn W dq) osq) := below_regrown W dq osq
                      generalize grow (redrawn W dq) osq = wq at hbq ⊢
                      clear q0 q1 q2 q3 q4 q5 q6 e1 e2 e3 e4 C1 C2
                      go_wp2_with fail
                      go_roundw
                      case rel => exact ⟨k2 + 1, by omega, by go_num, (hb2.trans HBN.out).trans hbq⟩
                      case measure => simp [intOf]; omega
                · go_wp2_with fail
                  go_meet
                  exact hb2
            · go_wp2_with fail
              go_meet
              exact hb2
        case rest =>
        have hS7 := HS6.out.keep hcut hg6
        have hg7 := Nat.lt_of_lt_of_le hg6 hcut.sz
        have T7 := HT6.out.trans hcut
        clear hcut
        go_upto_region 22 with fail
        obtain ⟨W, hW⟩ : ∃ W, W = wc.alloc (.cells (rcells k_side endR).toArray 51) := ⟨_, rfl⟩
        change Code.wp _ _ _ _ (wc.alloc (.cells (rcells k_side endR).toArray 51))
        have hS8 := hS7.keep ((Bel.refl wc).alloc (.cells (rcells k_side endR).toArray 51)) hg7
        have hE8 := SB.new wc endR
        have T8 := T7.alloc (.cells (rcells k_side endR).toArray 51)
        have hg8 : g < (wc.alloc (.cells (rcells k_side endR).toArray 51)).heap.size := by simp; omega
        have he8 : wc.heap.size < (wc.alloc (.cells (rcells k_side endR).toArray 51)).heap.size := by simp
        rw [← hW] at hS8 hE8 T8 hg8 he8 ⊢
        clear hW hS7 hg7 T7
        obtain ⟨ge, hge⟩ : ∃ g, wc.heap.size = g := ⟨_, rfl⟩
        rw [hge] at hE8 he8 ⊢
        clear hge
        have HT8 := Lib.hid T8
        have HX : Hid (∀ u, Bel W u → SB u g x ∧ SB u ge endR) := hid' (fun u hu => ⟨hS8.keep hu hg8, hE8.keep hu he8⟩)
        have hbw : Bel W W := Bel.refl _
        clear T8 hS8 hE8 hg8 he8
        obtain ⟨⟨x0, x1, x2, x3, x4, x5, x6⟩, y0, y1, y2, y3, y4, y5, y6⟩ := HX.out _ hbw
        have CS : Hid (∀ u, Calls Try.prog 44 #[sideV (x.s 0) (x.s 1) (x.s 2) (x.b 3) (x.b 4) (x.s 5) (x.s 6)] u fun e u' => e = .returned (.bool so) ∧ Bel u u') := hid' (fun u => by have h1 := sSideOk_c (x.s 0) (x.s 1) (x.s 2) (x.b 3) (x.b 4) (x.s 5) (x.s 6) u; rw [HSO.out] at h1; exact h1)
        have CO : Hid (∀ u, Calls Try.prog 46 #[sideV (x.s 0) (x.s 1) (x.s 2) (x.b 3) (x.b 4) (x.s 5) (x.s 6)] u fun e u' => e = .returned (.bool ob) ∧ Bel u u') := hid' (fun u => by have h1 := sOnBase_c (x.s 0) (x.s 1) (x.s 2) (x.b 3) (x.b 4) (x.s 5) (x.s 6) u; rw [HOB.out] at h1; exact h1)
        have CP : Hid (∀ u, Calls Try.prog 36 #[sideV 20 0 5 false false 3 0, .int .i64 100, .int .i64 0] u fun e u' => e = .returned (.int .i64 75) ∧ Bel u u') := hid' (fun u => by have h1 := iPlaceAcross_c 20 0 5 false false 3 0 100 0 u; rw [show placeAcross 20 0 5 false false 3 0 100 0 = 75 by decide +kernel] at h1; exact h1)
        cases h3 : x.b 3
        · cases h4 : x.b 4
          · simp only [h3, h4] at CS CO x3 x4
            cases hso : so
            · rw [hso] at CS
              cases hob : ob
              · rw [hob] at CO
                go_wp2_with (first
                  | (go_at_call 44; refine (CS.out _).mono ?_; rintro e u1 ⟨rfl, hq⟩; have hbw := hbw.trans hq; obtain ⟨⟨x0, x1, x2, x3, x4, x5, x6⟩, y0, y1, y2, y3, y4, y5, y6⟩ := HX.out _ hbw)
                  | (go_at_call 46; refine (CO.out _).mono ?_; rintro e u1 ⟨rfl, hq⟩; have hbw := hbw.trans hq; obtain ⟨⟨x0, x1, x2, x3, x4, x5, x6⟩, y0, y1, y2, y3, y4, y5, y6⟩ := HX.out _ hbw)
                  | (go_at_call 36; refine (CP.out _).mono ?_; rintro e u1 ⟨rfl, hq⟩; have hbw := hbw.trans hq))
                go_ret
                exact ⟨by first | rfl | simp, HT8.out.trans hbw⟩
              · rw [hob] at CO
                go_wp2_with (first
                  | (go_at_call 44; refine (CS.out _).mono ?_; rintro e u1 ⟨rfl, hq⟩; have hbw := hbw.trans hq; obtain ⟨⟨x0, x1, x2, x3, x4, x5, x6⟩, y0, y1, y2, y3, y4, y5, y6⟩ := HX.out _ hbw)
                  | (go_at_call 46; refine (CO.out _).mono ?_; rintro e u1 ⟨rfl, hq⟩; have hbw := hbw.trans hq; obtain ⟨⟨x0, x1, x2, x3, x4, x5, x6⟩, y0, y1, y2, y3, y4, y5, y6⟩ := HX.out _ hbw)
                  | (go_at_call 36; refine (CP.out _).mono ?_; rintro e u1 ⟨rfl, hq⟩; have hbw := hbw.trans hq))
                go_ret
                exact ⟨by first | rfl | simp, HT8.out.trans hbw⟩
            · rw [hso] at CS
              have hok : sideOk (x.s 0) (x.s 1) (x.s 2) (x.s 5) (x.s 6) = true := HSO.out.trans hso
              have hsb := sideOk_bd (r := x) hok
              have HOB2 := HOB.out
              have HAT2 := HAT.out
              rw [h3, h4] at HOB2 HAT2
              by_cases f3 : x.s 5 = 3
              · rw [f3] at HOB2 HAT2 hok
                have hob : ob = false := by rw [← HOB2]; rfl
                rw [hob] at CO
                have hat := place_end (base := base) hok (cross := cross) (by omega)
                rw [HAT2] at hat
                have p1 : wrap64 (at0 + x.s 0) = cross - x.s 2 := by unfold wrap64; omega
                have p2 : wrap64 (cross - x.s 2 + x.s 2) = cross := by unfold wrap64; omega
                clear hat hok hsb HOB2 HAT2 hob
                simp only [f3] at CS CO
                go_wp2_with (first
                  | (go_at_call 44; refine (CS.out _).mono ?_; rintro e u1 ⟨rfl, hq⟩; have hbw := hbw.trans hq; obtain ⟨⟨x0, x1, x2, x3, x4, x5, x6⟩, y0, y1, y2, y3, y4, y5, y6⟩ := HX.out _ hbw)
                  | (go_at_call 46; refine (CO.out _).mono ?_; rintro e u1 ⟨rfl, hq⟩; have hbw := hbw.trans hq; obtain ⟨⟨x0, x1, x2, x3, x4, x5, x6⟩, y0, y1, y2, y3, y4, y5, y6⟩ := HX.out _ hbw)
                  | (go_at_call 36; refine (CP.out _).mono ?_; rintro e u1 ⟨rfl, hq⟩; have hbw := hbw.trans hq))
                go_ret
                exact ⟨by first | rfl | simp, HT8.out.trans hbw⟩
              · by_cases f5 : x.s 5 = 5
                · rw [f5] at HOB2 HAT2 hok
                  have hob : ob = true := by rw [← HOB2]; rfl
                  rw [hob] at CO
                  have hat := place_base (cross := cross) hok (base := base) (by omega)
                  rw [HAT2] at hat
                  have p1 : wrap64 (at0 + x.s 6) = base := by unfold wrap64; omega
                  clear hat hok hsb HOB2 HAT2 hob f3
                  simp only [f5] at CS CO
                  go_wp2_with (first
                    | (go_at_call 44; refine (CS.out _).mono ?_; rintro e u1 ⟨rfl, hq⟩; have hbw := hbw.trans hq; obtain ⟨⟨x0, x1, x2, x3, x4, x5, x6⟩, y0, y1, y2, y3, y4, y5, y6⟩ := HX.out _ hbw)
                    | (go_at_call 46; refine (CO.out _).mono ?_; rintro e u1 ⟨rfl, hq⟩; have hbw := hbw.trans hq; obtain ⟨⟨x0, x1, x2, x3, x4, x5, x6⟩, y0, y1, y2, y3, y4, y5, y6⟩ := HX.out _ hbw)
                    | (go_at_call 36; refine (CP.out _).mono ?_; rintro e u1 ⟨rfl, hq⟩; have hbw := hbw.trans hq))
                  go_ret
                  exact ⟨by first | rfl | simp, HT8.out.trans hbw⟩
                · have hob : ob = false := by rw [← HOB2]; simp [onBase, f5]
                  rw [hob] at CO
                  clear hok hsb HOB2 HAT2 hob
                  go_wp2_with (first
                    | (go_at_call 44; refine (CS.out _).mono ?_; rintro e u1 ⟨rfl, hq⟩; have hbw := hbw.trans hq; obtain ⟨⟨x0, x1, x2, x3, x4, x5, x6⟩, y0, y1, y2, y3, y4, y5, y6⟩ := HX.out _ hbw)
                    | (go_at_call 46; refine (CO.out _).mono ?_; rintro e u1 ⟨rfl, hq⟩; have hbw := hbw.trans hq; obtain ⟨⟨x0, x1, x2, x3, x4, x5, x6⟩, y0, y1, y2, y3, y4, y5, y6⟩ := HX.out _ hbw)
                    | (go_at_call 36; refine (CP.out _).mono ?_; rintro e u1 ⟨rfl, hq⟩; have hbw := hbw.trans hq))
                  go_ret
                  exact ⟨by first | rfl | simp, HT8.out.trans hbw⟩
          · simp only [h3, h4] at CS CO x3 x4
            have hob : ob = false := by rw [← HOB.out, h3, h4]; simp [onBase]
            rw [hob] at CO
            clear hob
            cases hso : so
            · rw [hso] at CS
              go_wp2_with (first
                | (go_at_call 44; refine (CS.out _).mono ?_; rintro e u1 ⟨rfl, hq⟩; have hbw := hbw.trans hq; obtain ⟨⟨x0, x1, x2, x3, x4, x5, x6⟩, y0, y1, y2, y3, y4, y5, y6⟩ := HX.out _ hbw)
                | (go_at_call 46; refine (CO.out _).mono ?_; rintro e u1 ⟨rfl, hq⟩; have hbw := hbw.trans hq; obtain ⟨⟨x0, x1, x2, x3, x4, x5, x6⟩, y0, y1, y2, y3, y4, y5, y6⟩ := HX.out _ hbw)
                | (go_at_call 36; refine (CP.out _).mono ?_; rintro e u1 ⟨rfl, hq⟩; have hbw := hbw.trans hq))
              go_ret
              exact ⟨by first | rfl | simp, HT8.out.trans hbw⟩
            · rw [hso] at CS
              go_wp2_with (first
                | (go_at_call 44; refine (CS.out _).mono ?_; rintro e u1 ⟨rfl, hq⟩; have hbw := hbw.trans hq; obtain ⟨⟨x0, x1, x2, x3, x4, x5, x6⟩, y0, y1, y2, y3, y4, y5, y6⟩ := HX.out _ hbw)
                | (go_at_call 46; refine (CO.out _).mono ?_; rintro e u1 ⟨rfl, hq⟩; have hbw := hbw.trans hq; obtain ⟨⟨x0, x1, x2, x3, x4, x5, x6⟩, y0, y1, y2, y3, y4, y5, y6⟩ := HX.out _ hbw)
                | (go_at_call 36; refine (CP.out _).mono ?_; rintro e u1 ⟨rfl, hq⟩; have hbw := hbw.trans hq))
              go_ret
              exact ⟨by first | rfl | simp, HT8.out.trans hbw⟩
        · cases h4 : x.b 4
          · simp only [h3, h4] at CS CO x3 x4
            have hob : ob = false := by rw [← HOB.out, h3, h4]; simp [onBase]
            rw [hob] at CO
            clear hob
            cases hso : so
            · rw [hso] at CS
              go_wp2_with (first
                | (go_at_call 44; refine (CS.out _).mono ?_; rintro e u1 ⟨rfl, hq⟩; have hbw := hbw.trans hq; obtain ⟨⟨x0, x1, x2, x3, x4, x5, x6⟩, y0, y1, y2, y3, y4, y5, y6⟩ := HX.out _ hbw)
                | (go_at_call 46; refine (CO.out _).mono ?_; rintro e u1 ⟨rfl, hq⟩; have hbw := hbw.trans hq; obtain ⟨⟨x0, x1, x2, x3, x4, x5, x6⟩, y0, y1, y2, y3, y4, y5, y6⟩ := HX.out _ hbw)
                | (go_at_call 36; refine (CP.out _).mono ?_; rintro e u1 ⟨rfl, hq⟩; have hbw := hbw.trans hq))
              go_ret
              exact ⟨by first | rfl | simp, HT8.out.trans hbw⟩
            · rw [hso] at CS
              go_wp2_with (first
                | (go_at_call 44; refine (CS.out _).mono ?_; rintro e u1 ⟨rfl, hq⟩; have hbw := hbw.trans hq; obtain ⟨⟨x0, x1, x2, x3, x4, x5, x6⟩, y0, y1, y2, y3, y4, y5, y6⟩ := HX.out _ hbw)
                | (go_at_call 46; refine (CO.out _).mono ?_; rintro e u1 ⟨rfl, hq⟩; have hbw := hbw.trans hq; obtain ⟨⟨x0, x1, x2, x3, x4, x5, x6⟩, y0, y1, y2, y3, y4, y5, y6⟩ := HX.out _ hbw)
                | (go_at_call 36; refine (CP.out _).mono ?_; rintro e u1 ⟨rfl, hq⟩; have hbw := hbw.trans hq))
              go_ret
              exact ⟨by first | rfl | simp, HT8.out.trans hbw⟩
          · simp only [h3, h4] at CS CO x3 x4
            have hob : ob = false := by rw [← HOB.out, h3, h4]; simp [onBase]
            rw [hob] at CO
            clear hob
            cases hso : so
            · rw [hso] at CS
              go_wp2_with (first
                | (go_at_call 44; refine (CS.out _).mono ?_; rintro e u1 ⟨rfl, hq⟩; have hbw := hbw.trans hq; obtain ⟨⟨x0, x1, x2, x3, x4, x5, x6⟩, y0, y1, y2, y3, y4, y5, y6⟩ := HX.out _ hbw)
                | (go_at_call 46; refine (CO.out _).mono ?_; rintro e u1 ⟨rfl, hq⟩; have hbw := hbw.trans hq; obtain ⟨⟨x0, x1, x2, x3, x4, x5, x6⟩, y0, y1, y2, y3, y4, y5, y6⟩ := HX.out _ hbw)
                | (go_at_call 36; refine (CP.out _).mono ?_; rintro e u1 ⟨rfl, hq⟩; have hbw := hbw.trans hq))
              go_ret
              exact ⟨by first | rfl | simp, HT8.out.trans hbw⟩
            · rw [hso] at CS
              go_wp2_with (first
                | (go_at_call 44; refine (CS.out _).mono ?_; rintro e u1 ⟨rfl, hq⟩; have hbw := hbw.trans hq; obtain ⟨⟨x0, x1, x2, x3, x4, x5, x6⟩, y0, y1, y2, y3, y4, y5, y6⟩ := HX.out _ hbw)
                | (go_at_call 46; refine (CO.out _).mono ?_; rintro e u1 ⟨rfl, hq⟩; have hbw := hbw.trans hq; obtain ⟨⟨x0, x1, x2, x3, x4, x5, x6⟩, y0, y1, y2, y3, y4, y5, y6⟩ := HX.out _ hbw)
                | (go_at_call 36; refine (CP.out _).mono ?_; rintro e u1 ⟨rfl, hq⟩; have hbw := hbw.trans hq))
              go_ret
              exact ⟨by first | rfl | simp, HT8.out.trans hbw⟩

set_option maxRecDepth 100000 in
theorem Aligned_lifted (os : Os) (started : os.Started) (H : Type) (enc : TypeId × Value → H) :
    ReturnsInHanded {} Try.checked os 8 .any (Rows.fnAlignedSpec.pre6 enc Try.prog Try.f8 Rows.fnAlignedRow.domain false) (Rows.fnAlignedSpec.post enc Try.prog Try.f8 false true false false) := by
  refine law_lifted (C := Try.checked) (tb := 4) own started (by kernel_rfl) Try.func8 laidOut rfl rfl Try.underlying4 (by kernel_rfl)
    (fun ds h => match ds, h with | [_], _ => rfl)
    (ChangeSpec.witness6 (enc := enc) (C := Try.checked) false ⟨#[], #[.slice none 0 0], []⟩ 8 (by kernel_rfl) (by kernel_rfl) (by kernel_rfl) (by kernel_rfl)) ?_
  intro W base args ds ps hval0 hA0
  have hval : ∀ (j : Nat) t v, Try.f8.params[j]? = some t → args[j]? = some v → Value.okWide Try.prog W .any base t v := hval0
  have hA : DataW.TrodAll enc Try.prog W 0 (fun _ => true) true Try.f8.params.toList args.toList ds ps := hA0
  clear hval0 hA0
  rw [Try.params8] at hA hval
  obtain ⟨v0, d0, rfl, rfl, h0⟩ := trodAll_one hA
  obtain ⟨A, c, n, rfl, -, -, hI⟩ := open_bytes Try.underlying36 Try.underlying5 (by kernel_rfl) (hval 0 36 v0 rfl rfl) h0
  exact lawAligned_c _ _ _ W hI

theorem Aligned_holds : Rows.FnAlignedSaid :=
  OpenClaim.holds_of_wide 8 Try.f8 rfl rfl rfl rfl rfl rfl rfl ⟨rfl, rfl, rfl, rfl, rfl⟩ rfl rfl rfl rfl rfl (by kernel_rfl) Try.func8 (by kernel_rfl)
    (of_decide_eq_true (by kernel_rfl)) (by unfold Func.isWrapper; first | (rw [if_pos (by decide +kernel)]; kernel_rfl) | (rw [if_neg (by decide +kernel)]; exact ⟨rfl, rfl⟩))
    (fun os started H enc _ => Aligned_lifted os started H enc)
#print axioms Aligned_holds
end Go.Proofs.Ytmipjhnjlpmidaa
