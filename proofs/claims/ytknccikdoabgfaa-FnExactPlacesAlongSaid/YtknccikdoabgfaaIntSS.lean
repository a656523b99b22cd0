/- Slices of slices of ints: the law's own helpers. -/
import Derived.Test.YtknccikdoabgfaaApp
import Derived.Deep.Matrix
namespace Go.Proofs.Ytknccikdoabgfaa
open Go.RowKit Go.ChangeShapes Go.WideShapes
set_option linter.unusedVariables false
set_option linter.unusedSimpArgs false

theorem Try.info_intsS : (Try.prog.info? 35).map (fun i => (i.zero, i.size, i.bytes)) = some (some (.slice none 0 0), 1, 24) := by kernel_rfl

def totLen (LL : List (List Int)) : Nat := (LL.map List.length).sum
def totTo (LL : List (List Int)) (k : Nat) : Nat := totLen (LL.take k)
theorem totTo_succ {LL : List (List Int)} {k : Nat} (h : k < LL.length) : totTo LL (k + 1) = totTo LL k + (LL.getD k []).length := by
  unfold totTo totLen
  rw [List.take_add_one, getD_eq h]
  simp
theorem totTo_le (LL : List (List Int)) : ∀ (k : Nat), totTo LL k ≤ totLen LL := fun k => by
  have : totLen LL = totLen (LL.take k) + totLen (LL.drop k) := by
    unfold totLen
    rw [← List.sum_append, ← List.map_append, List.take_append_drop]
  unfold totTo
  omega
theorem len_le_tot {LL : List (List Int)} {k : Nat} (h : k < LL.length) : (LL.getD k []).length ≤ totLen LL := by
  have h1 := totTo_succ h
  have h2 := totTo_le LL (k + 1)
  omega

theorem open_intSS {H : Type} {enc : TypeId × Value → H} {P : Program} {w : World} {base : Nat} {r : Reach} {b0 : Nat} {t e q : TypeId} {v : Value} {d : DataW H} {p : List MemPlace}
    (hs : P.underlying t = some (.slice e)) (he : P.underlying e = some (.slice q)) (hq : P.underlying q = some (.int .i64)) (ce : P.cellsOf e = 1) (cq : P.cellsOf q = 1)
    (hv : Value.okWide P w r b0 t v) (h : DataW.Trod enc P w base (fun _ => true) true t v d p) :
    ∃ A c LL, v = .slice A LL.length c ∧ LL.length ≤ c ∧ c ≤ maxLen ∧ (∀ j, (LL.getD j []).length ≤ maxLen) ∧ Rows2 w A LL := by
  obtain ⟨a, len, cap, rfl⟩ := okWide_slice hs hv
  obtain ⟨n, hn⟩ := h
  rcases Go.Deep.open_int_rows hs he hq ce cq hn with ⟨h0, _⟩ | ⟨a', len', cap', A, Ln, C, Z, h0, _, hl, hm, _, hx⟩
  · simp [Value.cells] at h0
    obtain ⟨rfl, rfl, rfl⟩ := h0
    exact ⟨none, 0, [], rfl, by simp, by simp, fun j => by simp, fun i hi => absurd hi (Nat.not_lt_zero _)⟩
  · simp [Value.cells] at h0
    obtain ⟨rfl, rfl, rfl⟩ := h0
    have hat : ∀ j, j < len → ((List.range len).map fun r => (Z r).take (Ln r)).getD j [] = (Z j).take (Ln j) := fun j hj => by simp [List.getD, hj]
    have hlen : ∀ j, j < len → ((Z j).take (Ln j)).length = Ln j := fun j hj => by
      obtain ⟨_, h1, _, h3, _⟩ := hx j (by omega)
      rw [List.length_take]; omega
    refine ⟨some a', cap, (List.range len).map fun r => (Z r).take (Ln r), by simp, by simpa using hl, hm, fun j => ?_, fun i hi => ?_⟩
    · by_cases hj : j < len
      · rw [hat j hj, hlen j hj]
        obtain ⟨_, h1, h2, _⟩ := hx j (by omega)
        omega
      · simp [List.getD, hj]
    · simp at hi
      obtain ⟨b, o, s⟩ := a'
      have h00 := (hx 0 (by omega)).1
      have hsp : s = none := by simpa [Addr.add] using World.cell?_spot h00
      subst hsp
      have eadd : ∀ (b o j : Nat), (⟨b, o, none⟩ : Addr).add j = ⟨b, o + j, none⟩ := fun b o j => by
        unfold Addr.add
        split
        · rename_i h; subst h; rfl
        · rfl
      refine ⟨b, o, rfl, by simpa [Addr.add] using World.block_lt_of_cell? w _ h00, fun j hj => ?_⟩
      simp at hj
      obtain ⟨c1, c2, c3, c4, _, c6, c7⟩ := hx j (by omega)
      rw [hat j hj, hlen j hj]
      refine ⟨A j, C j, by rw [← eadd]; exact c1, c2, c3, c6, fun i' hi' => ?_⟩
      rw [hlen j hj] at hi'
      have hA : ∃ a'', A j = some a'' := by
        cases hA : A j with
        | none => have := c6 hA; omega
        | some a'' => exact ⟨a'', rfl⟩
      obtain ⟨⟨b2, o2, s2⟩, hA⟩ := hA
      obtain ⟨_, c8⟩ := c7 _ hA
      have h01 := c8 0 (by omega)
      have hsp2 : s2 = none := by simpa [Addr.add] using World.cell?_spot h01
      subst hsp2
      refine ⟨b2, o2, hA, by simpa [Addr.add] using World.block_lt_of_cell? w _ h01, fun q hq' => ?_⟩
      rw [hlen j hj] at hq'
      have := c8 q (by omega)
      rw [eadd] at this
      rw [this]
      have : at_ ((Z j).take (Ln j)) q = (Z j).getD q 0 := by
        unfold at_
        simp [List.getD, List.getElem?_take, hq']
      rw [this]

set_option maxRecDepth 100000 in
set_option maxHeartbeats 1000000 in
theorem toIntSS_c (A : Option Addr) (c : Nat) (LL : List (List Int)) (w : World) (h : Rows2 w A LL) (hn : LL.length ≤ 1048576) (ht : totLen LL ≤ 1048576) :
    Calls Try.prog 16 #[.slice A LL.length c] w fun r w' => ∃ v, r = .returned v ∧ LinesAt w' w.heap.size v LL ∧ Bel w w' := by
  obtain ⟨i0, hi, hz0, hz1, hz2⟩ := info_parts Try.info_intsS
  go_enter Try.func16, Try.ntmps16
  go_wp2_with (at_make; refine wpList_make_full w rfl (.tmp 6) (.tmp 6) 22 rfl w.heap.size 35 i0 (.slice none 0 0) 1 Try.underlying22 hi hz0 hz1 .i64 .i64 LL.length LL.length LL.length rfl rfl rfl rfl (by rw [hz2]; omega) (by unfold maxLen; omega) (Nat.le_refl _) ?_; intro w1 hown hg)
  have hb1 : Bel w w1 := (Bel.refl w).grown hg (by simp)
  obtain ⟨xs0, hx0⟩ : ∃ xs0, w1.ownsRow w.heap.size 35 1 (.slice (some ⟨w.heap.size, 0, none⟩) LL.length LL.length) LL.length xs0 := ⟨_, hown⟩
  clear hown
  go_loopw [4] (fun i wr => ∃ (k : Nat) (xs : List Value), k ≤ LL.length ∧ i = .int .i64 k ∧ Fam wr w.heap.size (⟨35, 1, .slice (some ⟨w.heap.size, 0, none⟩) LL.length LL.length, LL.length, xs⟩ :: rowsOf (xs.take k) (LL.take k)) ∧ Bel w wr) (fun i _ => LL.length - (intOf i).toNat)
  case atStart => exact ⟨0, xs0, Nat.zero_le _, rfl, Fam.one (r := ⟨35, 1, .slice (some ⟨w.heap.size, 0, none⟩) LL.length LL.length, LL.length, xs0⟩) hx0, hb1⟩
  case round =>
    obtain ⟨k, xs, hk, rfl, hF, hb⟩ := hrel
    have ho : wr.ownsRow w.heap.size 35 1 (.slice (some ⟨w.heap.size, 0, none⟩) LL.length LL.length) LL.length xs := hF.1 ⟨35, 1, .slice (some ⟨w.heap.size, 0, none⟩) LL.length LL.length, LL.length, xs⟩ (by simp)
    have hxl : xs.length = LL.length := by have := ho.1; omega
    have HX := Lib.hid hxl
    have HF := Lib.hid hF
    clear hF hxl
    by_cases hlt : k < LL.length
    · obtain ⟨b, o, rfl, hbl, hR⟩ := h k hlt
      obtain ⟨B, d, hcB, hd1, hd2, hB0, hBI⟩ := hR k hlt
      have hlk := len_le_tot hlt
      have hcA := (hb.cell _ _ hbl).trans hcB
      have hI2 := hBI.keep hb
      obtain ⟨l, hl⟩ : ∃ l, LL.getD k [] = l := ⟨_, rfl⟩
      rw [hl] at hcA hI2 hlk
      have HE := Lib.hid hl
      clear hR hcB hBI hl hd1
      have hll : l.length ≤ 1048576 := by omega
      go_wp2_with fail
      refine (toIntS_c _ _ _ _ hI2 hll).mono ?_; rintro e w2 ⟨rfl, hu2, hb2⟩
      have ho2 := own_keep ho hb2
      obtain ⟨u0, hu0⟩ : ∃ u, w2.cell? ⟨w.heap.size, k, none⟩ = some u := ⟨_, by rw [ho2.cellAt k (by omega)]; exact List.getElem?_eq_getElem (by have := HX.out; omega)⟩
      have hf0 : w2.frozen? ⟨w.heap.size, k, none⟩ = false := ho2.frozenAt k
      have HS := Lib.hid (ho2.stored k (.slice (some ⟨wr.heap.size, 0, none⟩) l.length l.length))
      go_wp2
      go_roundw
      case rel =>
        have h1 := Fam.add1 (r := ⟨3, 1, .slice (some ⟨wr.heap.size, 0, none⟩) l.length l.length, l.length, VI l⟩) HF.out hb2 hu2 hb.sz
        have h2 := Fam.write (i := 0) (r := ⟨35, 1, .slice (some ⟨w.heap.size, 0, none⟩) LL.length LL.length, LL.length, xs⟩) h1 rfl HS.out.2 ⟨35, 1, .slice (some ⟨w.heap.size, 0, none⟩) LL.length LL.length, LL.length, xs.set k (.slice (some ⟨wr.heap.size, 0, none⟩) l.length l.length)⟩ (.inl rfl) HS.out.1
        refine ⟨k + 1, xs.set k (.slice (some ⟨wr.heap.size, 0, none⟩) l.length l.length), by omega, by go_num, ?_, (hb.trans hb2).setCell (Nat.le_refl _) _⟩
        have e1 : (xs.set k (.slice (some ⟨wr.heap.size, 0, none⟩) l.length l.length)).take (k + 1) = xs.take k ++ [.slice (some ⟨wr.heap.size, 0, none⟩) l.length l.length] := by
          rw [List.take_add_one, List.take_set_of_le (Nat.le_refl _), List.getElem?_set]
          simp [HX.out, hlt]
        have e2 : LL.take (k + 1) = LL.take k ++ [l] := by rw [List.take_add_one, getD_eq hlt, HE.out]; rfl
        rw [e1, e2, rowsOf_append (by simp [HX.out])]
        exact h2
      case measure => simp [intOf]; omega
    · obtain rfl : k = LL.length := by omega
      go_wp2
      go_ret
      refine ⟨_, rfl, ⟨xs, HX.out, ?_⟩, hb⟩
      have := HF.out
      rwa [List.take_length, List.take_of_length_le (by rw [HX.out]; exact Nat.le_refl _)] at this
set_option maxRecDepth 100000 in
set_option maxHeartbeats 400000 in
theorem szIntS_c (A : Option Addr) (c n : Nat) (m : Int) (w : World) (hm : 0 ≤ m ∧ m ≤ 1048576) (hn : n ≤ 9223372036854775807) :
    Calls Try.prog 50 #[.slice A n c, .int .i64 m] w fun r w' => r = .returned (.int .i64 (if (n : Int) ≤ m then m - n else -1)) ∧ w = w' := by
  by_cases h : (n : Int) ≤ m
  · rw [if_pos h]
    go_enter Try.func50, Try.ntmps50
    go_wp2
    go_ret
    exact ⟨rfl, rfl⟩
  · rw [if_neg h]
    go_enter Try.func50, Try.ntmps50
    go_wp2
    go_ret
    exact ⟨rfl, rfl⟩
set_option maxRecDepth 100000 in
set_option maxHeartbeats 1000000 in
theorem szIntSS_c (A : Option Addr) (c : Nat) (LL : List (List Int)) (m : Int) (w : World) (h : Rows2 w A LL) (hm : 0 ≤ m ∧ m ≤ 1048576) (hn : LL.length ≤ 9223372036854775807) (hl : ∀ j, (LL.getD j []).length ≤ 9223372036854775807) :
    Calls Try.prog 14 #[.slice A LL.length c, .int .i64 m] w fun r w' => r = .returned (.int .i64 (if ((LL.length + totLen LL : Nat) : Int) ≤ m then m - ((LL.length + totLen LL : Nat) : Int) else -1)) ∧ Bel w w' := by
  have hno : ¬ ((LL.length + totLen LL : Nat) : Int) ≤ m → (if ((LL.length + totLen LL : Nat) : Int) ≤ m then m - ((LL.length + totLen LL : Nat) : Int) else -1) = -1 := fun h => if_neg h
  have hyes : ((LL.length + totLen LL : Nat) : Int) ≤ m → (if ((LL.length + totLen LL : Nat) : Int) ≤ m then m - ((LL.length + totLen LL : Nat) : Int) else -1) = m - ((LL.length + totLen LL : Nat) : Int) := fun h => if_pos h
  generalize (if ((LL.length + totLen LL : Nat) : Int) ≤ m then m - ((LL.length + totLen LL : Nat) : Int) else -1) = res at hno hyes ⊢
  have HN := Lib.hid hno
  have HY := Lib.hid hyes
  clear hno hyes
  by_cases h0 : (LL.length : Int) ≤ m
  · go_enter Try.func14, Try.ntmps14
    go_wp2
    go_loopw [1, 5] (fun s i wr => ∃ (k : Nat), k ≤ LL.length ∧ i = .int .i64 k ∧ s = .int .i64 (m - (LL.length : Int) - (totTo LL k : Int)) ∧ (totTo LL k : Int) ≤ m - (LL.length : Int) ∧ Bel w wr) (fun _ i _ => LL.length - (intOf i).toNat)
    case atStart => exact ⟨0, Nat.zero_le _, by go_num, by simp [totTo, totLen], by simp [totTo, totLen]; omega, Bel.refl w⟩
    case round =>
      obtain ⟨k, hk, rfl, rfl, hle, hb⟩ := hrel
      by_cases hlt : k < LL.length
      · obtain ⟨b, o, rfl, hbl, hR⟩ := h k hlt
        obtain ⟨B, d, hcB, hd1, hd2, hB0, hBI⟩ := hR k hlt
        have hcA := (hb.cell _ _ hbl).trans hcB
        have hts := totTo_succ hlt
        have hlk := hl k
        obtain ⟨l, hel⟩ : ∃ l, LL.getD k [] = l := ⟨_, rfl⟩
        rw [hel] at hcA hts hlk
        have hrest := totTo_le LL (k + 1)
        have HT := Lib.hid hts
        clear hts hcB hBI hR hel hd1
        go_wp2_with fail
        refine (szIntS_c _ _ _ _ _ (by omega) (by omega)).mono ?_; rintro e w1 ⟨rfl, rfl⟩
        by_cases hfit : (l.length : Int) ≤ m - (LL.length : Int) - (totTo LL k : Int)
        · rw [if_pos hfit]
          go_wp2_with fail
          go_roundw
          case rel => exact ⟨k + 1, by omega, by go_num, by (rw [HT.out]; refine congrArg (Value.int .i64) ?_; omega), by rw [HT.out]; omega, hb⟩
          case measure => simp [intOf]; omega
        · rw [if_neg hfit]
          have HR : Hid (res = -1) := hid' (HN.out (by have := HT.out; omega))
          go_wp2_with fail
          go_ret
          exact ⟨by (rw [HR.out]; try rfl), hb⟩
      · obtain rfl : k = LL.length := by omega
        have e : totTo LL LL.length = totLen LL := by simp [totTo]
        have HR : Hid (res = m - (LL.length : Int) - (totTo LL LL.length : Int)) := hid' (by rw [e] at hle ⊢; rw [HY.out (by omega)]; omega)
        clear e
        go_wp2
        go_ret
        exact ⟨by (rw [HR.out]; try rfl), hb⟩
  · have HR : Hid (res = -1) := hid' (HN.out (by omega))
    go_enter Try.func14, Try.ntmps14
    go_wp2
    go_ret
    exact ⟨by (rw [HR.out]; try rfl), Bel.refl w⟩
set_option maxRecDepth 100000 in
set_option maxHeartbeats 1000000 in
theorem eqIntSS_c (A B : Option Addr) (c d : Nat) (LL : List (List Int)) (w : World) (ha : Rows2 w A LL) (hb : Rows2 w B LL) (hn : LL.length ≤ 1048576) (ht : ∀ j, j < LL.length → (LL.getD j []).length ≤ 1048576) :
    Calls Try.prog 18 #[.slice A LL.length c, .slice B LL.length d] w fun r w' => r = .returned (.bool true) ∧ Bel w w' := by
  go_enter Try.func18, Try.ntmps18
  go_wp2_with fail
  go_loopw [5] (fun i wr => ∃ (k : Nat), k ≤ LL.length ∧ i = .int .i64 k ∧ Bel w wr) (fun i _ => LL.length - (intOf i).toNat)
  case atStart => exact ⟨0, Nat.zero_le _, rfl, Bel.refl w⟩
  case round =>
    obtain ⟨k, hk, rfl, hbw⟩ := hrel
    by_cases hlt : k < LL.length
    · obtain ⟨b, o, rfl, hbl, hR⟩ := ha k hlt
      obtain ⟨b2, o2, rfl, hbl2, hR2⟩ := hb k hlt
      obtain ⟨B1, d1, hc1, -, -, -, hI1⟩ := hR k hlt
      obtain ⟨B2, d2, hc2, -, -, -, hI2⟩ := hR2 k hlt
      have hlk := ht k hlt
      have e1 := (hbw.cell _ _ hbl).trans hc1
      have e2 := (hbw.cell _ _ hbl2).trans hc2
      have hlti : (k : Int) < (LL.length : Int) := by omega
      obtain ⟨l, hel⟩ : ∃ l, LL.getD k [] = l := ⟨_, rfl⟩
      rw [hel] at e1 e2 hlk hI1 hI2
      clear hel hc1 hc2 hR hR2
      go_wp2_with fail
      go_still_tail 8, (by kernel_rfl)
      change wpList _ _ _ _ _ wr.drew
      have hbw2 := hbw.drew
      generalize wr.drew = w2 at hbw2
      go_wp2_with fail
      refine (eqIntS_same _ _ _ _ _ _ _ (hI1.keep hbw2) (hI2.keep hbw2) rfl hlk).mono ?_; rintro e w3 ⟨rfl, hb3⟩
      go_wp2_with fail
      go_roundw
      case rel => exact ⟨k + 1, by omega, by go_num, hbw2.trans hb3⟩
      case measure => simp [intOf]; omega
    · go_wp2
      go_ret
      exact ⟨rfl, hbw⟩
end Go.Proofs.Ytknccikdoabgfaa
