/- Draws of FnLead: l15Justify, DrawLeadOf, DrawAutosIn, l15Case, DrawFreeOf. -/
import Derived.Test.YtmipjhnjlpmidaaDrawIt
import Derived.Test.YtmipjhnjlpmidaaFlexSf
import Derived.Test.YtmipjhnjlpmidaaLead
import Derived.OwnWalk
namespace Go.Proofs.Ytmipjhnjlpmidaa
open Go.RowKit Go.ChangeShapes Go.WideShapes
set_option linter.unusedVariables false
set_option linter.unusedSimpArgs false

theorem results_tmp4 {fn : Func} {t u v x : Tmp} (h : fn.results = #[.tmp t, .tmp u, .tmp v, .tmp x]) (tmps : Array Value) (P : Program) (w : World) :
    (results fn tmps).run P w = .ok (.tuple #[tmps.getD t undef, tmps.getD u undef, tmps.getD v undef, tmps.getD x undef]) w := by
  simp [results, h]
theorem results_tmp5 {fn : Func} {t u v x y : Tmp} (h : fn.results = #[.tmp t, .tmp u, .tmp v, .tmp x, .tmp y]) (tmps : Array Value) (P : Program) (w : World) :
    (results fn tmps).run P w = .ok (.tuple #[tmps.getD t undef, tmps.getD u undef, tmps.getD v undef, tmps.getD x undef, tmps.getD y undef]) w := by
  simp [results, h]
theorem VI_set (zs : List Int) (k : Nat) (n : Int) : (VI zs).set k (.int .i64 n) = VI (zs.set k n) := by simp [VI, List.map_set]
set_option maxRecDepth 100000 in
set_option maxHeartbeats 1000000 in
theorem l15Justify_c (p : Nat) (w : World) (hc : Cur w p) :
    Calls Try.prog 67 #[.pointer (some ⟨p, 0, none⟩)] w fun r w' => ∃ x, r = .returned (.int .i64 x) ∧ Cur w' p ∧ CB p w w' := by
  go_enter Try.func67, Try.ntmps67
  go_wp2_with fail
  refine (l01Below_c _ _ _ hc).mono ?_; rintro e w1 ⟨x, rfl, hx, hc1, hb1⟩
  go_wp2_with fail
  go_ret
  exact ⟨x, rfl, hc1, hb1⟩
set_option maxRecDepth 100000 in
set_option maxHeartbeats 1000000 in
theorem drawLeadOf_c (A : Option Addr) (n c : Nat) (w : World) (h : Byts w A n) (hn : n ≤ 1048576) :
    Calls Try.prog 24 #[.slice A n c] w fun r w' => ∃ a b j : Int, r = .returned (.tuple #[.int .i64 a, .int .i64 b, .int .i64 j]) ∧ (-9223372036854775808 ≤ a ∧ a ≤ 9223372036854775807) ∧ Bel w w' := by
  go_enter Try.func24, Try.ntmps24
  go_wp2_with fail
  refine (l01New_c _ _ _ _ h (by omega)).mono ?_; rintro e w1 ⟨rfl, hc1, hb1⟩
  go_wp2_with fail
  refine (l02Int_c _ _ hc1).mono ?_; rintro e w2 ⟨a, rfl, ha, hc2, hb2⟩
  go_wp2_with fail
  refine (pickLit_c _ [1, 2, 3, 5, 12, 0, 13, -1] _ _ hc2 (by simp) (by simp) (by simp)).mono ?_; rintro e w3 ⟨b, rfl, hz, hc3, hb3⟩
  go_wp2_with fail
  refine (l15Justify_c _ _ hc3).mono ?_; rintro e w4 ⟨j, rfl, hc4, hb4⟩
  go_wp2_with fail
  go_ret3
  exact ⟨a, b, j, rfl, ha, ((hb2.trans hb3).trans hb4).toBel hb1 (Nat.le_refl _)⟩
set_option maxRecDepth 100000 in
set_option maxHeartbeats 1000000 in
theorem drawAutosIn_c (A : Option Addr) (n c : Nat) (w : World) (h : Byts w A n) (hn : n ≤ 1048576) :
    Calls Try.prog 26 #[.slice A n c] w fun r w' => ∃ B d L, r = .returned (.slice B L.length d) ∧ Recs w' B k_item L ∧ L.length ≤ 13 ∧ Bel w w' := by
  go_enter Try.func26, Try.ntmps26
  go_wp2_with fail
  refine (l01New_c _ _ _ _ h (by omega)).mono ?_; rintro e w1 ⟨rfl, hc1, hb1⟩
  go_wp2_with fail
  refine (l13Any_c _ _ hc1).mono ?_; rintro e w2 ⟨v, L, rfl, ho, hl, hc2, hb2⟩
  obtain ⟨B, d, rfl, -, -, hR⟩ := own_openR (ks := k_item) rfl ho
  go_wp2_with fail
  go_ret
  exact ⟨B, d, L, rfl, hR, hl, hb2.toBel hb1 (Nat.le_refl _)⟩
set_option maxRecDepth 100000 in
set_option maxHeartbeats 2000000 in
theorem l15Case_c (A : Option Addr) (n c : Nat) (w : World) (h : Byts w A n) (hn : n ≤ 1048576) :
    Calls Try.prog 72 #[.slice A n c] w fun r w' => ∃ (v u : Value) (L : List Rec) (zs : List Int) (gap inner j : Int), r = .returned (.tuple #[v, u, .int .i64 gap, .int .i64 inner, .int .i64 j]) ∧
      w'.ownsRow w.heap.size 48 9 v L.length (RV k_item L) ∧ w'.ownsRow w.heap.size 3 1 u zs.length (VI zs) ∧ L.length ≤ 13 ∧ zs.length ≤ 14 ∧ Bel w w' := by
  go_enter Try.func72, Try.ntmps72
  go_wp2_with fail
  refine (l01New_c _ _ _ _ h (by omega)).mono ?_; rintro e w1 ⟨rfl, hc1, hb1⟩
  have hlp := hc1.lt
  go_wp2_with fail
  refine (l13Any_c _ _ hc1).mono ?_; rintro e w2 ⟨v, L, rfl, ho2, hl, hc2, hb2⟩
  obtain ⟨B, d, rfl, -, -, -⟩ := own_openR (ks := k_item) rfl ho2
  go_wp2_with fail
  refine (pickLit_c _ [0, 0, 10, 64, -1] _ _ hc2 (by simp) (by simp) (by simp)).mono ?_; rintro e w3 ⟨gap, rfl, hz3, hc3, hb3⟩
  have ho3 := own_cb ho2 hb3 hlp
  go_wp2_with fail
  refine (pickLit_c _ [640, 1000, 3333, 8000, 0, -1] _ _ hc3 (by simp) (by simp) (by simp)).mono ?_; rintro e w4 ⟨inner, rfl, hz4, hc4, hb4⟩
  have ho4 := own_cb ho3 hb4 hlp
  have hcb4 := (hb2.trans hb3).trans hb4
  have hp4 : w.heap.size < w4.heap.size := by have := hc4.lt; omega
  have hs14 := hcb4.sz
  have hs01 := hb1.sz
  clear ho2 ho3 hz3 hz4 hb2 hb3 hb4 hc1 hc2 hc3
  have hR4 : Recs w4 B k_item L := by
    obtain ⟨B', d', e', -, -, hR⟩ := own_openR (ks := k_item) rfl ho4
    injection e' with e1 _ _
    subst e1
    exact hR
  go_wp2_with fail
  refine (sFlexLine_c _ _ _ _ _ _ hR4 (by omega)).mono ?_; rintro e w5 ⟨u, rfl, hoZ5, hb5⟩
  obtain ⟨Z, cz, rfl⟩ := own_sliceV hoZ5
  have hoL5 := own_keep ho4 hb5
  have hc5 := hc4.keep hb5
  have hcb5 := hcb4.bel hb5
  have hs45 := hb5.sz
  have hlL := fun q e => (ho4.lt q e).2
  have hzl : (flexL L gap inner).length = L.length := by have := hoZ5.1; rw [VI_length] at this; omega
  clear hR4 ho4 hc4 hb5 hcb4
  go_wp2_with fail
  refine (l01Below_c _ _ _ hc5).mono ?_; rintro e w6 ⟨x, rfl, hx, hc6, hb6⟩
  have hoL6 := own_cb hoL5 hb6 hlp
  have hoZ6 := own_cb hoZ5 hb6 hp4
  have hcb6 := hcb5.trans hb6
  have hs56 := hb6.sz
  clear hoL5 hoZ5 hc5 hb6 hcb5
  by_cases e0 : x = 0
  · go_wp2_with (at_builtin; refine app1 rfl (.tmp 31) (.tmp 32) rfl w4.heap.size _ L.length _ rfl (hoZ6.alloc _) w6.heap.size _ rfl (World.cell?_alloc_new _ _ _ _) (by omega) (by simp; omega) ?_; intro v' w7 hoZ7 hg7)
    have hbl : ∀ q, _ = some q → w4.heap.size ≤ q := fun q e => ((hoZ6.alloc (.cells #[.int .i64 10] 3)).lt q e).1
    have hoL7 := (hoL6.alloc (.cells #[.int .i64 10] 3)).kept hg7 (by
      cases hv : (Value.slice B L.length d).ownBlock with
      | none => exact .inl rfl
      | some k => right; intro e; have h1 := hlL k hv; have h2 := hbl k e.symm; omega)
    have hc7 := (hc6.keep ((Bel.refl _).alloc (.cells #[.int .i64 10] 3))).grown hg7 (fun q e => by have := hbl q e; omega)
    have hcb7 := (hcb6.alloc (.cells #[.int .i64 10] 3)).grown hg7 (fun q e => by have := hbl q e; omega)
    rw [VI_snoc] at hoZ7
    have hoZ7' : w7.ownsRow w4.heap.size 3 1 v' (flexL L gap inner ++ [10]).length (VI (flexL L gap inner ++ [10])) := by rw [List.length_append, hzl]; exact hoZ7
    refine (l15Justify_c _ _ hc7).mono ?_; rintro e w9 ⟨j, rfl, hc9, hb9⟩
    have hoL9 := own_cb hoL7 hb9 hlp
    have hoZ9 := own_cb hoZ7' hb9 hp4
    go_wp2_with fail
    refine bodyPost_ret (results_tmp5 rfl _ _ _) rfl ?_
    exact ⟨_, _, L, _, gap, inner, j, rfl, own_base hoL9 (by omega), own_base hoZ9 (by omega), hl, by simp [hzl]; omega, (hcb7.trans hb9).toBel hb1 (Nat.le_refl _)⟩
  · by_cases e1 : x = 1
    · go_wp2_with fail
      go_loopw [12] (fun i wr => ∃ (k : Nat) (zs : List Int), k ≤ L.length ∧ i = .int .i64 k ∧ zs.length = L.length ∧ wr.ownsRow w4.heap.size 3 1 (.slice Z L.length cz) L.length (VI zs) ∧ wr.ownsRow w1.heap.size 48 9 (.slice B L.length d) L.length (RV k_item L) ∧ Cur wr w.heap.size ∧ CB w.heap.size w1 wr) (fun i _ => L.length - (intOf i).toNat)
      case atStart => exact ⟨0, flexL L gap inner, Nat.zero_le _, by go_num, hzl, hoZ6, hoL6, hc6, hcb6⟩
      case round =>
        obtain ⟨k, zs, hk, rfl, hzk, hoZr, hoLr, hcr, hcbr⟩ := hrel
        by_cases hkl : k < L.length
        · have hki : (k : Int) < (L.length : Int) := by omega
          obtain ⟨gz, dz, hze⟩ := own_posV hoZr (by omega)
          injection hze with hze1 _ hze3
          subst hze1 hze3
          go_wp2_with fail
          refine (l01Below_c _ _ _ hcr).mono ?_; rintro e w7 ⟨y, rfl, hy, hc7, hb7⟩
          have hoZ7 := own_cb hoZr hb7 hp4
          have hoL7 := own_cb hoLr hb7 hlp
          have ck := hoZ7.cellAt k (by omega)
          rw [VI_at (by omega)] at ck
          have cf := hoZ7.frozenAt k
          have hgl := (hoZ7.lt gz rfl).1
          have hoZ8 := (hoZ7.stored k (.int .i64 y)).1
          rw [VI_set] at hoZ8
          have hoL8 := own_setN (p := gz) (o := k) (x := .int .i64 y) hoL7 (fun q e => by have := hlL q e; omega)
          have hc8 := hc7.setNew (q := gz) (by omega) k (.int .i64 y)
          have hcb8 := (hcbr.trans hb7).setNew (q := gz) (by omega) k (.int .i64 y)
          have HP := hid' (And.intro hoZ8 (And.intro hoL8 (And.intro hc8 hcb8)))
          clear hoZ8 hoL8 hc8 hcb8 hoZr hoLr hcr hcbr hb7 hc7 hoL7 hoZ7
          go_wp2_with fail
          go_roundw
          case rel => exact ⟨k + 1, zs.set k y, by omega, by go_num, by rw [List.length_set]; exact hzk, HP.out⟩
          case measure => simp [intOf]; omega
        · obtain rfl : k = L.length := by omega
          rw [← hzk] at hoZr
          go_wp2_with fail
          rw [hzk] at hoZr
          have hoZr' : wr.ownsRow w4.heap.size 3 1 (.slice Z L.length cz) zs.length (VI zs) := by rw [hzk]; exact hoZr
          refine (l15Justify_c _ _ hcr).mono ?_; rintro e w9 ⟨j, rfl, hc9, hb9⟩
          have hoL9 := own_cb hoLr hb9 hlp
          have hoZ9 := own_cb hoZr' hb9 hp4
          go_wp2_with fail
          refine bodyPost_ret (results_tmp5 rfl _ _ _) rfl ?_
          exact ⟨_, _, L, _, gap, inner, j, rfl, own_base hoL9 (by omega), own_base hoZ9 (by omega), hl, by omega, (hcbr.trans hb9).toBel hb1 (Nat.le_refl _)⟩
    · go_wp2_with fail
      have hoZ6' : w6.ownsRow w4.heap.size 3 1 (.slice Z L.length cz) (flexL L gap inner).length (VI (flexL L gap inner)) := by rw [hzl]; exact hoZ6
      refine (l15Justify_c _ _ hc6).mono ?_; rintro e w9 ⟨j, rfl, hc9, hb9⟩
      have hoL9 := own_cb hoL6 hb9 hlp
      have hoZ9 := own_cb hoZ6' hb9 hp4
      go_wp2_with fail
      refine bodyPost_ret (results_tmp5 rfl _ _ _) rfl ?_
      exact ⟨_, _, L, _, gap, inner, j, rfl, own_base hoL9 (by omega), own_base hoZ9 (by omega), hl, by omega, (hcb6.trans hb9).toBel hb1 (Nat.le_refl _)⟩
set_option maxRecDepth 100000 in
set_option maxHeartbeats 1000000 in
theorem drawFreeOf_c (A : Option Addr) (n c : Nat) (w : World) (h : Byts w A n) (hn : n ≤ 1048576) :
    Calls Try.prog 27 #[.slice A n c] w fun r w' => ∃ (B : Option Addr) (d : Nat) (L : List Rec) (Z : Option Addr) (e : Nat) (zs : List Int) (gap inner : Int), r = .returned (.tuple #[.slice B L.length d, .slice Z zs.length e, .int .i64 gap, .int .i64 inner]) ∧
      Recs w' B k_item L ∧ Ints w' Z zs ∧ L.length ≤ 13 ∧ zs.length ≤ 14 ∧ Bel w w' := by
  go_enter Try.func27, Try.ntmps27
  go_wp2_with fail
  refine (l15Case_c _ _ _ _ h hn).mono ?_; rintro e w1 ⟨v, u, L, zs, gap, inner, j, rfl, hoL, hoZ, hl, hzl, hb1⟩
  obtain ⟨B, d, rfl, -, -, hR⟩ := own_openR (ks := k_item) rfl hoL
  obtain ⟨Z, e, rfl, -, -, -, hI⟩ := own_openM hoZ
  go_wp2_with fail
  refine bodyPost_ret (results_tmp4 rfl _ _ _) rfl ?_
  exact ⟨B, d, L, Z, e, zs, gap, inner, rfl, hR, hI, hl, hzl, hb1⟩
end Go.Proofs.Ytmipjhnjlpmidaa
