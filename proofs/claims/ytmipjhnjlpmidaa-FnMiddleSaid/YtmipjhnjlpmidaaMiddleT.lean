/- Who is in the middle: the plain law. -/
import Derived.Test.YtmipjhnjlpmidaaAlongF
import Derived.Test.YtmipjhnjlpmidaaDraw
import Derived.Test.YtmipjhnjlpmidaaApp
namespace Go.Proofs.Ytmipjhnjlpmidaa
open Go.RowKit
set_option linter.unusedVariables false
set_option linter.unusedSimpArgs false

theorem signed_same {n : Int} (h : -1048576 ≤ n ∧ n ≤ 1048576) : signed n = n := by
  unfold signed brought
  split
  · omega
  · split <;> omega
theorem even_at {free : Int} {K i : Nat} (hf : 0 ≤ free ∧ free ≤ 1048576) (hK : 1 ≤ K ∧ K ≤ 64) (hi : i < K) : at_ (evenly free (K : Int)) i = (free * ((i : Int) + 1)) / (K : Int) - (free * (i : Int)) / (K : Int) := by
  have hm : inB (K : Int) 0 64 = true := inB_iff.2 (by omega)
  have e : at_ (evenly free (K : Int)) i = shareAt free (ones K) i := by
    rw [evenly_in hm, shares, Int.toNat_natCast, if_pos (weights_ones (by omega)), ones_length]
    simp [at_, sharesTo, List.getD, hi]
  rw [e, shareAt, prefix_ones i (by omega), ones_at hi, ones_length, prefix_ones _ (Nat.le_refl _), signed_same (by omega), fd_pos (by omega), fd_pos (by omega)]
theorem element_at {free : Int} {K : Nat} {x : Int} {i : Nat} (hx : x = (i : Int)) (hf : 0 ≤ free ∧ free ≤ 1048576) (hK : 1 ≤ K ∧ K ≤ 64) (hi : i < K) : elementOf (evenly free (K : Int)) x = (free * ((i : Int) + 1)) / (K : Int) - (free * (i : Int)) / (K : Int) := by
  subst hx
  have hm : inB (K : Int) 0 64 = true := inB_iff.2 (by omega)
  have hl := evenly_length (n := free) hm
  rw [elementOf, if_neg (by omega), Int.toNat_natCast, even_at hf hK hi]

def plainR (b : Int) : Rec := ⟨fun i => if i = 0 then b else if i = 2 then -1 else 0, fun _ => false⟩
structure MidIn (L : List Rec) (zs : List Int) : Prop where
  len : zs.length = L.length
  lo : 1 ≤ L.length
  hi : L.length ≤ 5
  z : ∀ i, i < zs.length → 0 ≤ at_ zs i ∧ at_ zs i ≤ 99
  l : ∀ i, i < L.length → rec_ L i = plainR (at_ zs i)
theorem MidIn.ok {L : List Rec} {zs : List Int} (h : MidIn L zs) {inner : Int} (hi : 600 ≤ inner ∧ inner ≤ 999) : alongOk L zs 0 inner = true := by
  have := h.hi
  have e := h.len
  simp only [alongOk, itemsOk, Bool.and_eq_true, decide_eq_true_eq]
  refine ⟨⟨⟨⟨⟨allR_true fun j hj => ?_, by omega⟩, by omega⟩, by simp [inB]⟩, inB_iff.2 (by omega)⟩, allIn_true fun j hj => inB_iff.2 (by have := h.z j hj; omega)⟩
  rw [h.l j hj]
  have := h.z j (by omega)
  simp only [itemOkR, itemOk, plainR, Bool.and_eq_true, inB_iff]
  simp
  omega
theorem MidIn.marg {L : List Rec} {zs : List Int} (h : MidIn L zs) : ∀ k, k ≤ L.length → margTo L k = 0 := by
  intro k
  induction k with
  | zero => intro _; rfl
  | succ k ih => intro hk; rw [margTo, ih (by omega), h.l k (by omega)]; simp [plainR]
theorem MidIn.autos {L : List Rec} {zs : List Int} (h : MidIn L zs) : ∀ k, k ≤ L.length → autosTo L k = 0 := by
  intro k
  induction k with
  | zero => intro _; rfl
  | succ k ih => intro hk; rw [autosTo, ih (by omega), h.l k (by omega)]; simp [plainR]
theorem gap_zero : ∀ k, gapTo 0 k = 0 := by
  intro k
  induction k with
  | zero => rfl
  | succ k ih => rw [gapTo, ih]; split <;> rfl
theorem MidIn.sum {L : List Rec} {zs : List Int} (h : MidIn L zs) : ∀ k, k ≤ zs.length → 0 ≤ sumTo zs k ∧ sumTo zs k ≤ 99 * (k : Int) := by
  intro k
  induction k with
  | zero => intro _; simp [sumTo]
  | succ k ih => intro hk; have := ih (by omega); have := h.z k (by omega); rw [sumTo]; omega
theorem MidIn.free {L : List Rec} {zs : List Int} (h : MidIn L zs) {inner : Int} (hi : 600 ≤ inner ∧ inner ≤ 999) : alFree L zs 0 inner = inner - sumTo zs L.length ∧ 0 < alFree L zs 0 inner ∧ alFree L zs 0 inner ≤ 1048576 := by
  have h1 := h.sum zs.length (Nat.le_refl _)
  have h2 := h.hi
  have e := h.len
  have : alFree L zs 0 inner = inner - sumTo zs L.length := by
    unfold alFree freeOf outerOf
    rw [h.marg _ (Nat.le_refl _), gap_zero, e]
    rw [e] at h1
    rw [signed_same]
    · unfold wrap64; omega
    · unfold wrap64; omega
  rw [e] at h1
  omega
def spTo (sp : Nat → Int) : Nat → Int
  | 0 => 0
  | k + 1 => spTo sp k + sp k
theorem MidIn.at_ {L : List Rec} {zs : List Int} (h : MidIn L zs) (inner justify : Int) : ∀ k, k < L.length → (alOf L zs 0 inner justify).at_ k = (alOf L zs 0 inner justify).lead + sumTo zs k + spTo (alOf L zs 0 inner justify).sp k := by
  intro k
  induction k with
  | zero => intro _; simp [Al.at_, sumTo, spTo]
  | succ k ih =>
    intro hk
    have h1 : (alOf L zs 0 inner justify).addB k = 0 := by
      unfold Al.addB
      rw [if_neg]
      show ¬ (rec_ L k).b 7 = true
      rw [h.l k (by omega)]; simp [plainR]
    have h2 : (alOf L zs 0 inner justify).addE k = 0 := by
      unfold Al.addE
      rw [if_neg]
      show ¬ (rec_ L k).b 8 = true
      rw [h.l k (by omega)]; simp [plainR]
    have h3 : (rec_ L k).s 5 = 0 ∧ (rec_ L k).s 6 = 0 := by rw [h.l k (by omega)]; simp [plainR]
    have e1 : (alOf L zs 0 inner justify).L = L := rfl
    have e2 : (alOf L zs 0 inner justify).zs = zs := rfl
    have e3 : (alOf L zs 0 inner justify).gap = 0 := rfl
    rw [Al.at_, ih (by omega), h1, h2, e1, e2, e3, h3.1, h3.2, if_pos hk]
    simp only [sumTo, spTo]
    omega
theorem MidIn.start {L : List Rec} {zs : List Int} (h : MidIn L zs) (inner justify : Int) {k : Nat} (hk : k < L.length) (hi : 600 ≤ inner ∧ inner ≤ 999) : Go.Proofs.Ytmipjhnjlpmidaa.at_ (alongL L zs 0 inner justify) k = (alOf L zs 0 inner justify).lead + sumTo zs k + spTo (alOf L zs 0 inner justify).sp k := by
  have h1 : (alOf L zs 0 inner justify).addB k = 0 := by
    unfold Al.addB
    rw [if_neg]
    show ¬ (rec_ L k).b 7 = true
    rw [h.l k (by omega)]; simp [plainR]
  have h3 : (rec_ L k).s 5 = 0 := by rw [h.l k (by omega)]; simp [plainR]
  have e1 : (alOf L zs 0 inner justify).L = L := rfl
  rw [alongL, if_pos (h.ok hi), ← h.at_ inner justify k hk]
  have : Go.Proofs.Ytmipjhnjlpmidaa.at_ ((alOf L zs 0 inner justify).starts L.length) k = (alOf L zs 0 inner justify).start k := by simp [Go.Proofs.Ytmipjhnjlpmidaa.at_, Al.starts, List.getD, hk]
  rw [this, Al.start, e1, h3, h1]
  omega
theorem MidIn.len_ {L : List Rec} {zs : List Int} (h : MidIn L zs) (inner justify : Int) (hi : 600 ≤ inner ∧ inner ≤ 999) : (alongL L zs 0 inner justify).length = L.length := by
  rw [alongL_len, if_pos (h.ok hi)]
theorem MidIn.law {L : List Rec} {zs : List Int} (h : MidIn L zs) {inner justify : Int} (hi : 600 ≤ inner ∧ inner ≤ 999) (hj : justify = 3 ∨ justify = 5 ∨ justify = 6) {m : Nat} (hm : L.length = m + 1) :
    (-1000 ≤ Go.Proofs.Ytmipjhnjlpmidaa.at_ (alongL L zs 0 inner justify) 0 ∧ Go.Proofs.Ytmipjhnjlpmidaa.at_ (alongL L zs 0 inner justify) 0 ≤ 1000) ∧ (-10000 ≤ Go.Proofs.Ytmipjhnjlpmidaa.at_ (alongL L zs 0 inner justify) m ∧ Go.Proofs.Ytmipjhnjlpmidaa.at_ (alongL L zs 0 inner justify) m ≤ 10000) ∧
    -1 ≤ Go.Proofs.Ytmipjhnjlpmidaa.at_ (alongL L zs 0 inner justify) 0 - (inner - Go.Proofs.Ytmipjhnjlpmidaa.at_ (alongL L zs 0 inner justify) m - Go.Proofs.Ytmipjhnjlpmidaa.at_ zs m) ∧ Go.Proofs.Ytmipjhnjlpmidaa.at_ (alongL L zs 0 inner justify) 0 - (inner - Go.Proofs.Ytmipjhnjlpmidaa.at_ (alongL L zs 0 inner justify) m - Go.Proofs.Ytmipjhnjlpmidaa.at_ zs m) ≤ 1 := by
  obtain ⟨f1, f2, f3⟩ := h.free hi
  have hs := h.sum zs.length (Nat.le_refl _)
  have h5 := h.hi
  have he := h.len
  have hz := h.z m (by omega)
  have hsm := h.sum m (by omega)
  rw [h.start inner justify (by omega) hi, h.start inner justify (show m < L.length by omega) hi]
  have e0 : (alOf L zs 0 inner justify).lead = leadOf (alFree L zs 0 inner) L.length justify := by
    show (if autosTo L L.length = 0 then _ else _) = _
    rw [if_pos (h.autos _ (Nat.le_refl _))]
  have e1 : (alOf L zs 0 inner justify).sp = fun i => between (alFree L zs 0 inner) L.length justify i := by
    funext i
    show (if autosTo L L.length = 0 then _ else _) = _
    rw [if_pos (h.autos _ (Nat.le_refl _))]
  rw [e0, e1]
  have hsl : sumTo zs L.length = sumTo zs m + Go.Proofs.Ytmipjhnjlpmidaa.at_ zs m := by rw [hm, sumTo]
  rw [hsl] at f1
  rw [he, hm] at hs
  obtain ⟨free, hfree⟩ : ∃ free, alFree L zs 0 inner = free := ⟨_, rfl⟩
  rw [hfree] at f1 f2 f3 ⊢
  rw [hm]
  have hff : 0 ≤ free ∧ free ≤ 1048576 := by omega
  have hm5 : m = 0 ∨ m = 1 ∨ m = 2 ∨ m = 3 ∨ m = 4 := by omega
  have nf : ¬ free < 0 := by omega
  have hin : inB ((m + 1 : Nat) : Int) 1 12 = true := inB_iff.2 (by omega)
  simp only [sumTo]
  rcases hj with rfl | rfl | rfl
  · have hb : ∀ i, between free (m + 1) 3 i = 0 := fun i => by simp [between]
    have hsp : ∀ k, spTo (fun i => between free (m + 1) 3 i) k = 0 := fun k => by
      induction k with
      | zero => rfl
      | succ k ih => rw [spTo, ih, hb]; rfl
    have hl : leadOf free ((m + 1 : Nat) : Int) 3 = free / 2 := by
      rw [leadOf, if_pos hin]
      simp [fd_pos]
    rw [hsp, hsp, hl]
    omega
  · have hb : ∀ i, i < m → between free (m + 1) 5 i = (free * (((2 * i + 1 : Nat) : Int) + 1)) / ((2 * (m + 1) : Nat) : Int) - (free * ((2 * i + 1 : Nat) : Int)) / ((2 * (m + 1) : Nat) : Int) + ((free * (((2 * i + 2 : Nat) : Int) + 1)) / ((2 * (m + 1) : Nat) : Int) - (free * ((2 * i + 2 : Nat) : Int)) / ((2 * (m + 1) : Nat) : Int)) := fun i him => by
      rw [between, if_neg nf, if_neg (by omega), if_pos rfl, show 2 * ((m + 1 : Nat) : Int) = ((2 * (m + 1) : Nat) : Int) by omega,
        element_at (i := 2 * i + 1) (by omega) hff (by omega) (by omega), element_at (i := 2 * i + 2) (by omega) hff (by omega) (by omega)]
    have hl : leadOf free ((m + 1 : Nat) : Int) 5 = (free * (((0 : Nat) : Int) + 1)) / ((2 * (m + 1) : Nat) : Int) - (free * ((0 : Nat) : Int)) / ((2 * (m + 1) : Nat) : Int) := by
      rw [leadOf, if_pos hin, if_neg (by omega), if_neg (by omega), if_pos rfl, if_neg nf, show 2 * ((m + 1 : Nat) : Int) = ((2 * (m + 1) : Nat) : Int) by omega, even_at hff (by omega) (by omega)]
    rw [hl]
    rcases hm5 with rfl | rfl | rfl | rfl | rfl
    all_goals
      simp only [spTo]
      (try rw [hb 0 (by omega)])
      (try rw [hb 1 (by omega)])
      (try rw [hb 2 (by omega)])
      (try rw [hb 3 (by omega)])
      simp only [Nat.reduceMul, Nat.reduceAdd, Int.cast_ofNat_Int, Int.reduceAdd]
      omega
  · have hb : ∀ i, i < m → between free (m + 1) 6 i = (free * (((i + 1 : Nat) : Int) + 1)) / ((m + 2 : Nat) : Int) - (free * ((i + 1 : Nat) : Int)) / ((m + 2 : Nat) : Int) := fun i him => by
      rw [between, if_neg nf, if_neg (by omega), if_neg (by omega), if_pos rfl, show ((m + 1 : Nat) : Int) + 1 = ((m + 2 : Nat) : Int) by omega,
        element_at (i := i + 1) (by omega) hff (by omega) (by omega)]
    have hl : leadOf free ((m + 1 : Nat) : Int) 6 = (free * (((0 : Nat) : Int) + 1)) / ((m + 2 : Nat) : Int) - (free * ((0 : Nat) : Int)) / ((m + 2 : Nat) : Int) := by
      rw [leadOf, if_pos hin, if_neg (by omega), if_neg (by omega), if_neg (by omega), if_pos rfl, if_neg nf, show ((m + 1 : Nat) : Int) + 1 = ((m + 2 : Nat) : Int) by omega, even_at hff (by omega) (by omega)]
    rw [hl]
    rcases hm5 with rfl | rfl | rfl | rfl | rfl
    all_goals
      simp only [spTo]
      (try rw [hb 0 (by omega)])
      (try rw [hb 1 (by omega)])
      (try rw [hb 2 (by omega)])
      (try rw [hb 3 (by omega)])
      simp only [Nat.reduceMul, Nat.reduceAdd, Int.cast_ofNat_Int, Int.reduceAdd]
      omega
end Go.Proofs.Ytmipjhnjlpmidaa
