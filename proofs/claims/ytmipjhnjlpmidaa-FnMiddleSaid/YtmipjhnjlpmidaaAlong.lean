/- Places along: the plain part, and the closure that hands out the auto margins. -/
import Derived.Test.YtmipjhnjlpmidaaItemFns
import Derived.Test.YtmipjhnjlpmidaaPlace
import Derived.Deep.RegionHeld3
import Derived.Maps.AppendAt
namespace Go.Proofs.Ytmipjhnjlpmidaa
open Go.RowKit Go.ChangeShapes Go.WideShapes
set_option linter.unusedVariables false
set_option linter.unusedSimpArgs false

def alongOk (L : List Rec) (zs : List Int) (gap inner : Int) : Bool := itemsOk L && decide (zs.length = L.length) && inB gap 0 1048576 && inB inner 0 1048576 && allIn zs 0 1048576
/-- what the places hang on -/
structure Al where
  L : List Rec
  zs : List Int
  ex : List Int
  lead : Int
  gap : Int
  sp : Nat → Int
def Al.addB (a : Al) (k : Nat) : Int := if (rec_ a.L k).b 7 = true then elementOf a.ex (autosTo a.L k) else 0
def Al.mid (a : Al) (k : Nat) : Int := autosTo a.L k + (if (rec_ a.L k).b 7 = true then 1 else 0)
def Al.addE (a : Al) (k : Nat) : Int := if (rec_ a.L k).b 8 = true then elementOf a.ex (a.mid k) else 0
def Al.at_ (a : Al) : Nat → Int
  | 0 => a.lead
  | k + 1 => a.at_ k + ((rec_ a.L k).s 5 + a.addB k) + (Go.Proofs.Ytmipjhnjlpmidaa.at_ a.zs k + (rec_ a.L k).s 6 + a.addE k) + (if k + 1 < a.L.length then a.gap + a.sp k else 0)
def Al.start (a : Al) (k : Nat) : Int := a.at_ k + ((rec_ a.L k).s 5 + a.addB k)
def Al.starts (a : Al) (k : Nat) : List Int := (List.range k).map a.start
theorem Al.starts_succ (a : Al) (k : Nat) : a.starts (k + 1) = a.starts k ++ [a.start k] := by simp [Al.starts, List.range_succ]
theorem Al.starts_length (a : Al) (k : Nat) : (a.starts k).length = k := by simp [Al.starts]
def alFree (L : List Rec) (zs : List Int) (gap inner : Int) : Int := signed (freeOf L zs gap inner)
def alEx (free autos : Int) : List Int := if 0 < autos ∧ 0 < free then evenly free autos else []
def alOf (L : List Rec) (zs : List Int) (gap inner justify : Int) : Al :=
  { L := L, zs := zs, ex := alEx (alFree L zs gap inner) (autosTo L L.length), lead := if autosTo L L.length = 0 then leadOf (alFree L zs gap inner) L.length justify else 0, gap := gap,
    sp := fun i => if autosTo L L.length = 0 then between (alFree L zs gap inner) L.length justify i else 0 }
def alongL (L : List Rec) (zs : List Int) (gap inner justify : Int) : List Int := if alongOk L zs gap inner = true then (alOf L zs gap inner justify).starts L.length else []
def alongE (L : List Rec) (zs : List Int) (gap inner justify : Int) : Int := if alongOk L zs gap inner = true then (alOf L zs gap inner justify).at_ L.length else 0

theorem alEx_bd (free autos : Int) (i : Int) : -2097152 ≤ elementOf (alEx free autos) i ∧ elementOf (alEx free autos) i ≤ 2097152 := by
  unfold alEx
  split
  · exact element_bd free autos i
  · simp [elementOf, at_]
theorem itemOk_bd {r : Rec} (h : itemOkR r = true) : (-1048576 ≤ r.s 5 ∧ r.s 5 ≤ 1048576) ∧ (-1048576 ≤ r.s 6 ∧ r.s 6 ≤ 1048576) := by
  simp [itemOkR, itemOk, inB] at h
  omega
theorem along_parts {L : List Rec} {zs : List Int} {gap inner : Int} (h : alongOk L zs gap inner = true) :
    L.length ≤ 12 ∧ zs.length = L.length ∧ (0 ≤ gap ∧ gap ≤ 1048576) ∧ (0 ≤ inner ∧ inner ≤ 1048576) ∧ (∀ i, i < zs.length → 0 ≤ at_ zs i ∧ at_ zs i ≤ 1048576) ∧
      (∀ i, i < L.length → (-1048576 ≤ (rec_ L i).s 5 ∧ (rec_ L i).s 5 ≤ 1048576) ∧ (-1048576 ≤ (rec_ L i).s 6 ∧ (rec_ L i).s 6 ≤ 1048576)) ∧ itemsOk L = true := by
  simp only [alongOk, Bool.and_eq_true, decide_eq_true_eq] at h
  obtain ⟨⟨⟨⟨h1, h2⟩, h3⟩, h4⟩, h5⟩ := h
  have h1' := h1
  simp only [itemsOk, Bool.and_eq_true, decide_eq_true_eq] at h1'
  exact ⟨h1'.2, h2, inB_iff.1 h3, inB_iff.1 h4, fun i hi => inB_iff.1 (allIn_at h5 hi), fun i hi => itemOk_bd (allR_at h1'.1 hi), h1⟩
theorem Al.add_bd {L : List Rec} {zs : List Int} {gap inner justify : Int} (k : Nat) : (-2097152 ≤ (alOf L zs gap inner justify).addB k ∧ (alOf L zs gap inner justify).addB k ≤ 2097152) ∧ (-2097152 ≤ (alOf L zs gap inner justify).addE k ∧ (alOf L zs gap inner justify).addE k ≤ 2097152) := by
  have h1 := alEx_bd (alFree L zs gap inner) (autosTo L L.length) (autosTo L k)
  have h2 := alEx_bd (alFree L zs gap inner) (autosTo L L.length) ((alOf L zs gap inner justify).mid k)
  constructor
  · unfold Al.addB
    split
    · exact h1
    · omega
  · unfold Al.addE
    split
    · exact h2
    · omega
theorem Al.at_bd {L : List Rec} {zs : List Int} {gap inner justify : Int} (h : alongOk L zs gap inner = true) : ∀ k : Nat, k ≤ L.length →
    -2097152 - 33554432 * (k : Int) ≤ (alOf L zs gap inner justify).at_ k ∧ (alOf L zs gap inner justify).at_ k ≤ 2097152 + 33554432 * (k : Int) := by
  obtain ⟨_, p2, p3, _, p5, p6, _⟩ := along_parts h
  intro k
  induction k with
  | zero =>
    intro _
    have := leadOf_bd (free := alFree L zs gap inner) L.length justify (signed_bd _)
    simp only [Al.at_, alOf]
    split <;> omega
  | succ k ih =>
    intro hk
    have h1 := ih (by omega)
    have h2 := Al.add_bd (L := L) (zs := zs) (gap := gap) (inner := inner) (justify := justify) k
    have h3 := p5 k (by omega)
    have h4 := p6 k (by omega)
    have h5 : -4194304 ≤ (alOf L zs gap inner justify).sp k ∧ (alOf L zs gap inner justify).sp k ≤ 4194304 := by
      have := between_bd (alFree L zs gap inner) L.length justify k
      simp only [alOf]
      split <;> omega
    have e1 : (alOf L zs gap inner justify).L = L := rfl
    have e2 : (alOf L zs gap inner justify).zs = zs := rfl
    have e3 : (alOf L zs gap inner justify).gap = gap := rfl
    simp only [Al.at_, e1, e2, e3]
    split <;> omega

/-! ### the closure -/
/-- the state that the closure works on: used lies in block bu, extra in block be -/
def AlSt (w W0 : World) (bu be : Nat) (A : Option Addr) (ce : Nat) (ex : List Int) (u : Int) (wr : World) : Prop :=
  Bel w wr ∧ W0.heap.size ≤ wr.heap.size ∧ wr.cell? ⟨bu, 0, none⟩ = some (.int .i64 u) ∧ wr.frozen? ⟨bu, 0, none⟩ = false ∧ wr.cell? ⟨be, 0, none⟩ = some (.slice A ex.length ce) ∧ Ints wr A ex
/-- where things lie -/
structure AlPl (w W0 : World) (bu be : Nat) (A : Option Addr) : Prop where
  u0 : w.heap.size ≤ bu
  u1 : bu < W0.heap.size
  e1 : be < W0.heap.size
  ne : be ≠ bu
  a : ∀ b o, A = some ⟨b, o, none⟩ → b < W0.heap.size ∧ b ≠ bu
theorem AlSt.bel {w W0 wr w' : World} {bu be : Nat} {A : Option Addr} {ce : Nat} {ex : List Int} {u : Int} (h : AlSt w W0 bu be A ce ex u wr) (p : AlPl w W0 bu be A) (hb : Bel wr w') : AlSt w W0 bu be A ce ex u w' := by
  obtain ⟨h1, h2, h3, h4, h5, h6⟩ := h
  exact ⟨h1.trans hb, Nat.le_trans h2 hb.sz, (hb.cell _ _ (Nat.lt_of_lt_of_le p.u1 h2)).trans h3, (hb.frozen _ _ (Nat.lt_of_lt_of_le p.u1 h2)).trans h4, (hb.cell _ _ (Nat.lt_of_lt_of_le p.e1 h2)).trans h5, h6.keep hb⟩
theorem AlSt.app {w W0 wr w' : World} {bu be : Nat} {A : Option Addr} {ce : Nat} {ex : List Int} {u : Int} {e : TypeId} {size n : Nat} {v : Value} {xs : List Value} (h : AlSt w W0 bu be A ce ex u wr) (p : AlPl w W0 bu be A) (ho : wr.ownsRow W0.heap.size e size v n xs) (hg : wr.grownBy w' v.ownBlock) : AlSt w W0 bu be A ce ex u w' := by
  obtain ⟨h1, h2, h3, h4, h5, h6⟩ := h
  have hne : ∀ b, b < W0.heap.size → some b ≠ v.ownBlock := fun b hb e => by have := (ho.lt b e.symm).1; omega
  have hW : w.heap.size ≤ W0.heap.size := Nat.le_trans p.u0 (Nat.le_of_lt p.u1)
  refine ⟨h1.own hW ho hg, Nat.le_trans h2 hg.size, hg.cell h3 (hne _ p.u1), ?_, hg.cell h5 (hne _ p.e1), h6.grown hg fun g b o h7 h8 e => ?_⟩
  · rw [World.frozen?_of_block (w := wr) (hg.block bu (Nat.lt_of_lt_of_le p.u1 h2) (hne _ p.u1))]; exact h4
  · have := (p.a b o h8).1
    have := (ho.lt g h7).1
    omega
set_option maxRecDepth 100000 in
set_option maxHeartbeats 1000000 in
theorem auto_c (is : Bool) (w W0 wr : World) (bu be : Nat) (A : Option Addr) (ce : Nat) (ex : List Int) (u : Int) (h : AlSt w W0 bu be A ce ex u wr) (p : AlPl w W0 bu be A) (hn : ex.length ≤ 1048576) (hu : 0 ≤ u ∧ u ≤ 1048576) :
    Calls Try.prog 106 #[.bool is, .pointer (some ⟨bu, 0, none⟩), .pointer (some ⟨be, 0, none⟩)] wr fun r w' => r = .returned (.int .i64 (if is = true then elementOf ex u else 0)) ∧ AlSt w W0 bu be A ce ex (u + (if is = true then 1 else 0)) w' ∧ wr.grownBy w' (some bu) := by
  have h0 := h
  obtain ⟨h1, h2, h3, h4, h5, h6⟩ := h
  cases is
  · go_enter Try.func106, Try.ntmps106
    go_wp2_with fail
    go_ret
    exact ⟨rfl, by simpa using h0, World.grownBy.refl _ _⟩
  · have hul := Nat.lt_of_lt_of_le p.u1 h2
    have hel := Nat.lt_of_lt_of_le p.e1 h2
    have hne := p.ne
    have hg1 : wr.grownBy (wr.setCell ⟨bu, 0, none⟩ (.int .i64 (u + 1))) (some bu) := ⟨rfl, rfl, rfl, by simp [World.setCell], fun k hk hne => Below.heap_setCell _ _ _ _ (fun e => hne (by rw [e]))⟩
    have hI1 : Ints (wr.setCell ⟨bu, 0, none⟩ (.int .i64 (u + 1))) A ex := h6.grown (v := .slice (some ⟨bu, 0, none⟩) 0 0) hg1 fun g b o q1 q2 e => by
      have := (p.a b o q2).2
      simp [Value.ownBlock] at q1
      omega
    have hbw : Bel w (wr.setCell ⟨bu, 0, none⟩ (.int .i64 (u + 1))) := h1.setCell p.u0 _
    have HI := Lib.hid hI1
    have HB := Lib.hid hbw
    have HG := Lib.hid hg1
    clear hI1 hbw hg1 h0 h6 h1
    go_enter Try.func106, Try.ntmps106
    go_wp2_with fail
    refine (elementOf_c _ _ _ _ _ HI.out hn).mono ?_; rintro e w2 ⟨rfl, hb2⟩
    go_wp2_with fail
    go_ret
    refine ⟨by simp, ⟨HB.out.trans hb2, Nat.le_trans h2 (Nat.le_trans (HG.out).size hb2.sz), ?_, ?_, ?_, HI.out.keep hb2⟩, ?_⟩
    · exact (hb2.cell _ _ (Nat.lt_of_lt_of_le hul HG.out.size)).trans (by apply World.cell?_setCell_same; exact h3)
    · rw [hb2.frozen _ _ (Nat.lt_of_lt_of_le hul HG.out.size)]; simpa using h4
    · exact (hb2.cell _ _ (Nat.lt_of_lt_of_le hel HG.out.size)).trans (HG.out.cell (a := ⟨be, 0, none⟩) h5 (by simpa using hne))
    · exact HG.out.trans ⟨hb2.os, hb2.tape, hb2.output, hb2.size, fun k hk _ => hb2.block k hk⟩
end Go.Proofs.Ytmipjhnjlpmidaa
