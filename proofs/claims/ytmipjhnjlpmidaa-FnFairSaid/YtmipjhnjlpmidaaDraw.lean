/- Draws: bytes that come in, the twelve numbers of DrawPlaces. -/
import Derived.Test.YtmipjhnjlpmidaaCur
namespace Go.Proofs.Ytmipjhnjlpmidaa
open Go.RowKit Go.ChangeShapes Go.WideShapes
set_option linter.unusedVariables false
set_option linter.unusedSimpArgs false

theorem u8_of_wf {n : Int} (h : (Lit.int .u8 n).wf = true) : 0 ≤ n ∧ n ≤ 255 := by
  simp [Lit.wf, IntKind.min, IntKind.max, IntKind.signed, IntKind.bits] at h
  omega
theorem open_bytes {H : Type} {enc : TypeId × Value → H} {P : Program} {w : World} {base : Nat} {spare : Nat → Bool} {held : Bool} {r : Reach} {b0 : Nat} {t e : TypeId} {v : Value} {d : DataW H} {p : List MemPlace}
    (hs : P.underlying t = some (.slice e)) (he : P.underlying e = some (.int .u8)) (hC : P.cellsOf e = 1) (hv : Value.okWide P w r b0 t v) (h : DataW.Trod enc P w base spare held t v d p) :
    ∃ A c n, v = .slice A n c ∧ n ≤ c ∧ c ≤ maxLen ∧ Byts w A n := by
  obtain ⟨a, len, cap, rfl⟩ := okWide_slice hs hv
  obtain ⟨n, hn⟩ := h
  rcases Go.Deep.open_slice1 hs hC hn with ⟨h0, _⟩ | ⟨a', len', cap', m, n', V, D, Pl, h0, _, hl, hm, hmm, _, hx⟩
  · simp [Value.cells] at h0
    obtain ⟨rfl, rfl, rfl⟩ := h0
    exact ⟨none, 0, 0, rfl, by simp, by simp, fun i hi => absurd hi (Nat.not_lt_zero _)⟩
  · simp [Value.cells] at h0
    obtain ⟨rfl, rfl, rfl⟩ := h0
    have hle : len ≤ m := by rw [hmm]; split <;> omega
    refine ⟨some a', cap, len, rfl, by simpa using hl, hm, fun i hi => ?_⟩
    obtain ⟨b, o, s⟩ := a'
    have h0 := (hx 0 (by omega)).1
    have hsp : s = none := by simpa [Addr.add] using World.cell?_spot h0
    subst hsp
    refine ⟨b, o, rfl, by simpa [Addr.add] using World.block_lt_of_cell? w _ h0, fun j hj => ?_⟩
    obtain ⟨z, hz, _, hw⟩ := DataW.trod_int he (hx j (by omega)).2
    simp only [List.cons.injEq, and_true] at hz
    refine ⟨z, (u8_of_wf hw).1, (u8_of_wf hw).2, ?_⟩
    have hj' := (hx j (by omega)).1
    have e : (⟨b, o, none⟩ : Addr).add j = ⟨b, o + j, none⟩ := by
      unfold Addr.add
      split
      · rename_i h; subst h; rfl
      · rfl
    rw [← e, ← hz]
    exact hj'
theorem own_pos12 {w : World} {base n size : Nat} {e : TypeId} {v : Value} {xs : List Value} (h : w.ownsRow base e size v (n + 1) xs) : ∃ g c, v = .slice (some ⟨g, 0, none⟩) (n + 1) c := by
  rcases h.2 with ⟨_, h0⟩ | ⟨g, c, cur, h1, _⟩
  · omega
  · exact ⟨g, c, h1⟩
theorem own_cb {a b : World} {p base n size : Nat} {e : TypeId} {v : Value} {xs : List Value} (ho : a.ownsRow base e size v n xs) (h : CB p a b) (hp : p < base) : b.ownsRow base e size v n xs :=
  ho.kept h (by
    cases hv : v.ownBlock with
    | none => exact .inl rfl
    | some k => right; intro e; injection e with e; have := (ho.lt k hv).1; omega)
set_option maxRecDepth 100000 in
set_option maxHeartbeats 1000000 in
theorem big_c (A : Option Addr) (c n : Nat) (w : World) : Calls Try.prog 23 #[.slice A n c] w fun r w' => r = .returned (.bool (decide (1048576 < n))) ∧ w' = w := by
  by_cases h : 1048576 < n
  · have h' : (1048576 : Int) < (n : Int) := by omega
    go_enter Try.func23, Try.ntmps23
    go_wp2_with fail
    go_ret
    exact ⟨by simp [h], rfl⟩
  · have h' : ¬ (1048576 : Int) < (n : Int) := by omega
    go_enter Try.func23, Try.ntmps23
    go_wp2_with fail
    go_ret
    exact ⟨by simp [h], rfl⟩
set_option maxRecDepth 100000 in
set_option maxHeartbeats 4000000 in
theorem drawPlaces_c (A : Option Addr) (n c : Nat) (w : World) (h : Byts w A n) (hn : n ≤ 1048576) :
    Calls Try.prog 33 #[.slice A n c] w fun r w' => ∃ g d zs, r = .returned (.slice (some ⟨g, 0, none⟩) 12 d) ∧ Ints w' (some ⟨g, 0, none⟩) zs ∧ zs.length = 12 ∧ (∀ i, i < 12 → 0 ≤ at_ zs i ∧ at_ zs i < 10000) ∧ Bel w w' := by
  go_enter Try.func33, Try.ntmps33
  go_wp2_with fail
  refine (l01New_c _ _ _ _ h (by omega)).mono ?_; rintro e w1 ⟨rfl, hc1, hb1⟩
  go_wp2_with fail
  have ho0 : (w1.alloc (.cells #[] 3)).ownsRow w1.heap.size 3 1 (.slice (some ⟨w1.heap.size, 0, none⟩) 0 0) 0 (VI []) := World.ownsRow_lit w1 #[] 0 (Nat.le_refl _) (by unfold maxLen; omega) rfl
  have hlp := hc1.lt
  go_loopw [4, 5] (fun out i wr => ∃ (k : Nat) (zs : List Int), k ≤ 12 ∧ i = .int .i64 k ∧ zs.length = k ∧ (∀ j, j < k → 0 ≤ at_ zs j ∧ at_ zs j < 10000) ∧ wr.ownsRow w1.heap.size 3 1 out k (VI zs) ∧ Cur wr w.heap.size ∧ w1.heap.size ≤ wr.heap.size ∧ Bel w wr) (fun _ i _ => 12 - (intOf i).toNat)
  case atStart => exact ⟨0, [], by omega, by go_num, rfl, fun j hj => by omega, ho0, hc1.keep ((Bel.refl _).alloc _), by simp, hb1.alloc _⟩
  case round =>
    obtain ⟨k, zs, hk, rfl, hl, hz, ho, hc, hsz, hb⟩ := hrel
    have HZ := Lib.hid hz
    clear hz
    by_cases hlt : k < 12
    · have hlti : (k : Int) < 12 := by omega
      go_wp2_with fail
      refine (l01Below_c _ _ _ hc).mono ?_; rintro e w2 ⟨x, rfl, hx, hc2, hb2⟩
      have ho2 := own_cb ho hb2 hlp
      have hs2 := Nat.le_trans hsz hb2.sz
      have hbw := hb2.toBel hb (Nat.le_refl _)
      clear ho
      go_wp2_with (at_builtin; refine app1 rfl (.tmp 13) (.tmp 16) rfl w1.heap.size _ k _ rfl (ho2.alloc _) w2.heap.size _ rfl (World.cell?_alloc_new _ _ _ _) (by omega) (by simp; omega) ?_; intro v' w' ho' hg')
      go_roundw
      case rel =>
        have hbl : ∀ q, _ = some q → w1.heap.size ≤ q := fun q e => ((ho2.alloc (.cells #[.int .i64 x] 3)).lt q e).1
        refine ⟨k + 1, zs ++ [x], by omega, by go_num, by simp [hl], fun j hj => ?_, by rw [← VI_snoc]; exact ho', (hc2.keep ((Bel.refl _).alloc _)).grown hg' (fun q e => by have := hbl q e; omega), by have := hg'.size; simp at this; omega, (hbw.alloc _).grown hg' (fun q e => by have := hbl q e; have := hb1.sz; omega)⟩
        rcases Nat.lt_succ_iff_lt_or_eq.1 hj with h1 | h1
        · have e : at_ (zs ++ [x]) j = at_ zs j := by simp [at_, List.getD, List.getElem?_append_left (show j < zs.length by omega)]
          rw [e]; exact HZ.out j h1
        · have e : at_ (zs ++ [x]) j = x := by simp [at_, List.getD, h1, ← hl]
          rw [e]; exact ⟨hx.1, hx.2.1 (by omega)⟩
      case measure => simp [intOf]; omega
    · obtain rfl : k = 12 := by omega
      obtain ⟨g, d, rfl⟩ := own_pos12 ho
      go_wp2_with fail
      go_ret
      exact ⟨g, d, zs, rfl, Ints.of_own ho, hl, HZ.out, hb⟩
end Go.Proofs.Ytmipjhnjlpmidaa
