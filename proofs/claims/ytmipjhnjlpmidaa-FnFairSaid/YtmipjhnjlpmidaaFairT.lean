/- Alike items: the plain law. -/
import Derived.Test.YtmipjhnjlpmidaaFlexD
namespace Go.Proofs.Ytmipjhnjlpmidaa
open Go.RowKit
set_option linter.unusedVariables false
set_option linter.unusedSimpArgs false

theorem signed_id {n : Int} (h : -1048576 ≤ n ∧ n ≤ 1048576) : signed n = n := by
  unfold signed brought
  split
  · omega
  · split <;> omega
theorem clamped_near {a b : Int} (h : a - b ≤ 1) : clamped a - clamped b ≤ 1 := by
  unfold clamped brought
  repeat' split
  all_goals omega
theorem prefix_rep (W : Int) (n : Nat) : ∀ k, k ≤ n → prefixSum (List.replicate n W) k = (k : Int) * W := by
  intro k
  induction k with
  | zero => intro _; simp [prefixSum]
  | succ k ih =>
    intro hk
    rw [prefixSum, ih (by omega)]
    have : at_ (List.replicate n W) k = W := by
      unfold at_ List.getD
      rw [List.getElem?_replicate, if_pos (by omega)]
      rfl
    rw [this, show ((k + 1 : Nat) : Int) = (k : Int) + 1 by omega, Int.add_mul, Int.one_mul]
theorem share_rep {R W : Int} {n i : Nat} (hW : 0 < W) (hn : 0 < n) (hi : i < n) :
    shareAt R (List.replicate n W) i = (signed R * (i : Int) + signed R) / (n : Int) - (signed R * (i : Int)) / (n : Int) := by
  have h1 : prefixSum (List.replicate n W) i + at_ (List.replicate n W) i = ((i : Int) + 1) * W := by
    have := prefix_rep W n (i + 1) (by omega)
    rw [prefixSum] at this
    rw [this]
    congr 1
  have hpos : 0 < (n : Int) * W := Int.mul_pos (by omega) hW
  have hWn : W ≠ 0 := by omega
  rw [shareAt, h1, prefix_rep W n i (by omega), List.length_replicate, prefix_rep W n n (Nat.le_refl _), fd_pos (by omega), fd_pos (by omega),
    ← Int.mul_assoc, ← Int.mul_assoc, Int.mul_ediv_mul_of_pos_left _ _ hW, Int.mul_ediv_mul_of_pos_left _ _ hW, Int.mul_add, Int.mul_one]
theorem share_near {R W : Int} {n i j : Nat} (hW : 0 < W) (h5 : n ≤ 5) (hi : i < n) (hj : j < n) :
    shareAt R (List.replicate n W) i - shareAt R (List.replicate n W) j ≤ 1 := by
  rw [share_rep hW (by omega) hi, share_rep hW (by omega) hj]
  obtain ⟨a, ha⟩ : ∃ a, signed R * (i : Int) = a := ⟨_, rfl⟩
  obtain ⟨b, hb⟩ : ∃ b, signed R * (j : Int) = b := ⟨_, rfl⟩
  rw [ha, hb]
  obtain ⟨s, hs⟩ : ∃ s, signed R = s := ⟨_, rfl⟩
  rw [hs]
  clear ha hb hs
  rcases (show n = 1 ∨ n = 2 ∨ n = 3 ∨ n = 4 ∨ n = 5 by omega) with rfl | rfl | rfl | rfl | rfl
  all_goals
    simp only [Int.cast_ofNat_Int]
    omega
/-- a list of which each item is x -/
def Alike (L : List Rec) (x : Rec) : Prop := ∀ i, i < L.length → rec_ L i = x
section
variable {L : List Rec} {x : Rec} {g : Bool} {gap inner : Int}
def wtR (x : Rec) (g : Bool) : Int := if g = true then x.s 3 else x.s 4 * x.s 0
theorem Alike.wt (h : Alike L x) {i : Nat} (hi : i < L.length) : wt L g i = wtR x g := by unfold Go.Proofs.Ytmipjhnjlpmidaa.wt wtR; rw [h i hi]
theorem Alike.initHd (h : Alike L x) {i : Nat} (hi : i < L.length) : initHd L g i = (wtR x g == 0 || (g && decide (hypR x < x.s 0)) || (!g && decide (x.s 0 < hypR x))) := by
  unfold Go.Proofs.Ytmipjhnjlpmidaa.initHd; rw [h.wt hi, h i hi]
theorem frees_all {hd : Nat → Bool} {n : Nat} (h : ∀ i, i < n → hd i = false) : frees hd n = List.range n := by
  unfold frees
  exact List.filter_eq_self.2 (fun i hi => by rw [h i (by simpa using hi)]; rfl)
theorem frees_none {hd : Nat → Bool} {n : Nat} (h : ∀ i, i < n → hd i = true) : frees hd n = [] := by
  unfold frees
  exact List.filter_eq_nil_iff.2 (fun i hi => by rw [h i (by simpa using hi)]; simp)
theorem Alike.over (h : Alike L x) {all rest : Int} : ∃ v, ∀ i, i < L.length → overAt L g all rest i = v := by
  refine ⟨if x.s 0 * all + rest * wtR x g < x.s 1 * all then x.s 1 * all - (x.s 0 * all + rest * wtR x g)
    else if 0 ≤ x.s 2 ∧ upR x * all < x.s 0 * all + rest * wtR x g then upR x * all - (x.s 0 * all + rest * wtR x g) else 0, fun i hi => ?_⟩
  unfold overAt aimOf
  rw [h.wt hi, h i hi]
theorem wts_rep (h : Alike L x) : wts L g (List.range L.length) = List.replicate L.length (wtR x g) := by
  unfold wts
  apply List.ext_getElem (by simp)
  intro i h1 h2
  simp at h1
  simp [h.wt h1]
/-- one pass settles all, alike but for one -/
theorem Alike.step (h : Alike L x) (hok : itemsOk L = true) (h5 : L.length ≤ 5) (hW : wtR x g ≠ 0) {S : Fx} (hf : ∀ i, i < L.length → S.hd i = false) :
    (∀ i, i < L.length → (stepF L g gap inner S).hd i = true) ∧ ∀ i j, i < L.length → j < L.length → (stepF L g gap inner S).sz i - (stepF L g gap inner S).sz j ≤ 1 := by
  have hfr := frees_all hf
  obtain ⟨v, hv⟩ := h.over (g := g) (all := allW L g S) (rest := restOf L g gap inner S)
  have hov : ∀ i, i < L.length → stepOv L g gap inner S i = v := hv
  have hmem : ∀ i, i ∈ frees S.hd L.length → stepOv L g gap inner S i = v := fun i hi => hov i (frees_mem.1 hi).1
  obtain ⟨ov, hovd⟩ : ∃ ov, stepOv L g gap inner S = ov := ⟨_, rfl⟩
  rw [hovd] at hov hmem
  obtain ⟨fs, hfs⟩ : ∃ fs, frees S.hd L.length = fs := ⟨_, rfl⟩
  rw [hfs] at hmem hfr
  have hsm : someOf ov fs = (decide (v ≠ 0) && decide (0 < L.length)) := by
    rw [Bool.eq_iff_iff]
    unfold someOf
    rw [List.any_eq_true]
    simp only [Bool.and_eq_true, decide_eq_true_eq]
    constructor
    · rintro ⟨i, hi, hne⟩
      have h2 := hmem i hi
      rw [hfr] at hi
      simp at hi hne
      rw [h2] at hne
      exact ⟨hne, by omega⟩
    · rintro ⟨h1, h2⟩
      refine ⟨0, by rw [hfr]; simpa using h2, ?_⟩
      rw [hov 0 h2]
      simpa using h1
  have hvi : (0 < v → 0 ≤ vioOf ov fs) ∧ (v < 0 → vioOf ov fs ≤ 0) :=
    ⟨fun hp => (vio_neg (fun i hi => by rw [hmem i hi]; omega)).1, fun hp => (vio_pos (fun i hi => by rw [hmem i hi]; omega)).1⟩
  constructor
  · intro i hi
    show newHd (stepOv L g gap inner S) (frees S.hd L.length) S.hd i = true
    rw [hovd, hfs, newHd, hov i hi, hsm]
    have hl : 0 < L.length := by omega
    rcases Int.lt_trichotomy v 0 with h1 | h1 | h1
    · have := hvi.2 h1
      simp [h1, this]
    · simp [h1]
    · have := hvi.1 h1
      simp [h1, this]
  · intro i j hi hj
    have hl : 0 < L.length := by omega
    have hnew : ∀ k, k < L.length → (stepF L g gap inner S).sz k = if v = 0 then clamped (x.s 0 + at_ (stepSh L g gap inner S) k) else if 0 < v then x.s 1 else upR x := fun k hk => by
      show newSz L (stepOv L g gap inner S) (frees S.hd L.length) (stepSh L g gap inner S) S k = _
      have hr : (frees S.hd k).length = k := by rw [frees_all (fun i hi => hf i (by omega)), List.length_range]
      rw [hovd, hfs, newSz, if_neg (by rw [hf k hk]; simp), hov k hk, hsm, hr, h k hk]
      rcases Int.lt_trichotomy v 0 with h1 | h1 | h1
      · have := hvi.2 h1
        rw [if_neg (by simp [hl]; omega), if_neg (by omega), if_pos ⟨h1, this⟩, if_neg (by omega), if_neg (by omega)]
      · rw [if_pos (by simp [h1]), if_pos h1]
      · have := hvi.1 h1
        rw [if_neg (by simp [hl]; omega), if_pos ⟨h1, this⟩, if_neg (by omega), if_pos h1]
    rw [hnew i hi, hnew j hj]
    by_cases h0 : v = 0
    · rw [if_pos h0, if_pos h0]
      apply clamped_near
      have hws : stepSh L g gap inner S = sharesTo (restOf L g gap inner S) (List.replicate L.length (wtR x g)) L.length := by
        unfold stepSh
        rw [shares, if_pos (wts_ok g hok S.hd), hfs, hfr, wts_rep h, List.length_replicate]
      have hat : ∀ k, k < L.length → at_ (stepSh L g gap inner S) k = shareAt (restOf L g gap inner S) (List.replicate L.length (wtR x g)) k := fun k hk => by
        rw [hws]; simp [at_, sharesTo, List.getD, hk]
      have hWp : 0 < wtR x g := by
        have h2 := wt_bd g ((itemsOk_at hok).2 0 hl)
        rw [h.wt hl] at h2
        omega
      have := share_near (R := restOf L g gap inner S) hWp h5 hi hj
      rw [hat i hi, hat j hj]
      omega
    · rw [if_neg h0, if_neg h0]
      omega
end
theorem fair_plain {L : List Rec} {x : Rec} (h : Alike L x) (h5 : L.length ≤ 5) (gap inner : Int) :
    ∀ i j, i < L.length → j < L.length → at_ (flexL L gap inner) i - at_ (flexL L gap inner) j ≤ 1 := by
  intro i j hi hj
  cases hk : flexOk L gap inner
  · have hh : ∀ k, k < L.length → at_ (flexL L gap inner) k = hypR x := fun k hk2 => by
      rw [flexL, if_neg (by rw [hk]; simp), ← hypsTo_all]
      simp [at_, hypsTo, List.getD, hk2, h k hk2]
    rw [hh i hi, hh j hj]
    omega
  · have hok : itemsOk L = true := by
      simp only [flexOk, Bool.and_eq_true] at hk
      exact hk.1.1
    have he : ∀ k, k < L.length → at_ (flexL L gap inner) k = (flexAll L gap inner).1.sz k := fun k hk2 => by
      rw [flexL, if_pos hk, rowOf_at hk2]
    rw [he i hi, he j hj]
    unfold flexAll
    obtain ⟨g, hg⟩ : ∃ g, growsB L gap inner = g := ⟨_, rfl⟩
    rw [hg]
    obtain ⟨c, hc⟩ : ∃ c, (wtR x g == 0 || (g && decide (hypR x < x.s 0)) || (!g && decide (x.s 0 < hypR x))) = c := ⟨_, rfl⟩
    have hI : ∀ k, k < L.length → (initF L g).hd k = c := fun k hk2 => (h.initHd hk2).trans hc
    cases c
    · have hW : wtR x g ≠ 0 := fun e => by rw [e] at hc; simp at hc
      obtain ⟨h1, h2⟩ := h.step (gap := gap) (inner := inner) hok h5 hW (S := initF L g) hI
      have hne : frees (initF L g).hd L.length ≠ [] := by
        rw [frees_all hI]
        intro e
        have := congrArg List.length e
        rw [List.length_range, List.length_nil] at this
        omega
      rw [← flexRun_step L g gap inner hne, flexRun_done L g gap inner _ (frees_none h1)]
      exact h2 i j hi hj
    · rw [flexRun_done L g gap inner _ (frees_none hI)]
      show hypR (rec_ L i) - hypR (rec_ L j) ≤ 1
      rw [h i hi, h j hj]
      omega
end Go.Proofs.Ytmipjhnjlpmidaa
