/- Decimal, both texts; SpaceText, both texts. -/
import Derived.Test.YtfmijkedhlnccaaDoorSpace
import Derived.Test.YtfmijkedhlnccaaDoorShelf
namespace Go.Proofs.YtfmijkedhlnccaaDoor
open Go.RowKit Go.ChangeShapes Go.WideShapes
set_option linter.unusedVariables false
set_option linter.unusedSimpArgs false

theorem bel_grown (w : World) (k : Nat) (os : Array Obj) : Bel w (Go.Sort.grow (w.drewN k) os) :=
  ⟨rfl, rfl, rfl, by simp [Go.Sort.grow, World.drewN], fun i hi => by simp [Go.Sort.grow, World.drewN, Array.getElem?_append, hi]⟩
def Tab (w : World) : Prop := Lib.TabIs Tryd.prog w "internal/strconv.uint64pow10" .u64 Lib.pow10Tab
set_option maxRecDepth 100000 in
set_option maxHeartbeats 1000000 in
theorem iDecimal_c (n : Int) (hn : 0 ≤ n ∧ n ≤ 1048576) (w : World) (ht : Tab w) :
    Calls Tryd.prog 30 #[.int .i64 n] w fun r w' => r = .returned (.string ⟨(Lib.itoa n).toArray⟩) ∧ Bel w w' := by
  go_enter Tryd.func30, Tryd.ntmps30
  go_wp2_with fail
  refine (Tryd.strconv_Itoa n (by omega) (by omega) w ht).mono ?_; rintro e w1 ⟨rfl, k, os, rfl⟩
  have hb := bel_grown w k os
  generalize Go.Sort.grow (w.drewN k) os = w1 at hb ⊢
  go_wp2_with fail
  go_ret
  exact ⟨rfl, hb⟩
set_option maxRecDepth 100000 in
set_option maxHeartbeats 1000000 in
theorem l01Figure_c (d : Nat) (hd : d < 10) (w : World) :
    Calls Tryd.prog 40 #[.int .i64 d] w fun r w' => r = .returned (.int .u8 (48 + d)) ∧ w' = w := by
  have hdi : (d : Int) < 10 := by omega
  go_enter Tryd.func40, Tryd.ntmps40
  go_wp2_with fail
  go_ret
  exact ⟨rfl, rfl⟩
/-- the digits ahead of what is written -/
def pre (u : Nat) : List UInt8 := if u = 0 then [] else Lib.decDigits u
theorem pre_step {u : Nat} (h : u ≠ 0) : pre u = pre (u / 10) ++ [UInt8.ofNat (48 + u % 10)] := by
  unfold pre
  rw [if_neg h, Lib.decDigits]
  by_cases h2 : u < 10
  · rw [dif_pos h2, if_pos (by omega), Nat.mod_eq_of_lt h2]; rfl
  · rw [dif_neg h2, if_neg (by omega)]
theorem dec_len (u : Nat) : (Lib.decDigits u).length ≤ u + 1 := by
  induction u using Nat.strongRecOn with
  | ind u ih =>
    rw [Lib.decDigits]
    by_cases h2 : u < 10
    · rw [dif_pos h2]; simp
    · rw [dif_neg h2, List.length_append]
      have := ih (u / 10) (by omega)
      simp only [List.length_cons, List.length_nil]
      omega
set_option maxRecDepth 100000 in
set_option maxHeartbeats 1000000 in
theorem sDecimal_c (n : Nat) (hn : n ≤ 1048576) (w : World) :
    Calls Tryd.prog 31 #[.int .i64 n] w fun r w' => r = .returned (.string ⟨(Lib.itoa n).toArray⟩) ∧ Bel w w' := by
  have hi : Lib.itoa (n : Int) = Lib.decDigits n := by unfold Lib.itoa; rw [if_neg (by omega)]; rfl
  rw [hi]
  clear hi
  by_cases h0 : n = 0
  · subst h0
    go_enter Tryd.func31, Tryd.ntmps31
    go_wp2_with fail
    go_ret
    exact ⟨by rw [Lib.decDigits]; rfl, Bel.refl _⟩
  · have h0i : ¬ (n : Int) = 0 := by omega
    have h0p : ¬ (n : Int) < 0 := by omega
    go_enter Tryd.func31, Tryd.ntmps31
    go_wp2_with fail
    go_loopw [0, 4] (fun x s wr => ∃ (u : Nat) (l : List UInt8), u ≤ n ∧ x = .int .i64 u ∧ s = .string ⟨l.toArray⟩ ∧ Hid (pre u ++ l = Lib.decDigits n) ∧ Bel w wr) (fun x _ _ => (intOf x).toNat)
    case atStart => exact ⟨n, [], Nat.le_refl _, by go_num, rfl, hid' (by rw [List.append_nil, pre, if_neg h0]), Bel.refl _⟩
    case round =>
      obtain ⟨u, l, hu, rfl, rfl, HP, hb⟩ := hrel
      by_cases hu0 : u = 0
      · subst hu0
        go_wp2_with fail
        go_ret
        exact ⟨by rw [← HP.out]; rfl, hb⟩
      · have hui : ¬ (u : Int) = 0 := by omega
        have hm0 : ¬ (u : Int) % 10 < 0 := by omega
        have hun : (0 : Int) ≤ (u : Int) := by omega
        obtain ⟨d, hd⟩ : ∃ d : Nat, (u : Int) % 10 = (d : Int) := ⟨u % 10, by omega⟩
        obtain ⟨q, hq⟩ : ∃ q : Nat, (u : Int) / 10 = (q : Int) := ⟨u / 10, by omega⟩
        have hd10 : d < 10 := by omega
        have hdn : ¬ (d : Int) < 0 := by omega
        go_wp2_with fail
        refine (l01Figure_c d hd10 _).mono ?_; rintro e w2 ⟨rfl, rfl⟩
        have hv : ((48 + d : Nat) : Int) = 48 + (d : Int) := by omega
        obtain ⟨c, hc, hcd⟩ : ∃ c : UInt8, c = UInt8.ofNat (48 + d) ∧ (c.toNat : Int) = 48 + (d : Int) :=
          ⟨_, rfl, by rw [UInt8.toNat_ofNat']; omega⟩
        have hcv := run_convert_bytes_back (P := Tryd.prog) (w2.alloc (.cells #[.int .u8 (48 + (d : Int))] 5)) 22 9 5 ⟨w2.heap.size, 0, none⟩ 1 [c] Tryd.underlying22 Tryd.underlying5 Tryd.underlying9 (fun j hj => by
          have hj0 : j = 0 := by simp only [List.length_cons, List.length_nil] at hj; omega
          subst hj0
          rw [show (Addr.add ⟨w2.heap.size, 0, none⟩ 0) = (⟨w2.heap.size, 0, none⟩ : Addr) from rfl, World.cell?_alloc_mark]
          show some _ = some (Value.int .u8 (c.toNat : Int))
          rw [hcd]; rfl)
        have hl1 : ([c] : List UInt8).length = 1 := rfl
        rw [hl1] at hcv
        clear hl1
        have HPh : Hid (pre q ++ (c :: l) = Lib.decDigits n) := hid' (by
          rw [← HP.out, pre_step hu0, hc, show d = u % 10 by omega, show q = u / 10 by omega, List.append_assoc]; rfl)
        clear hc
        have hlen : ¬ 9223372036854775807 < 1 + l.length := by
          have h1 := congrArg List.length HPh.out
          have h2 := dec_len n
          simp only [List.length_append, List.length_cons] at h1
          omega
        have hqn : q ≤ n := by omega
        have hql : q < u := by omega
        have hbb : Bel w (w2.alloc (.cells #[.int .u8 (48 + (d : Int))] 5)) := by repeat (first | exact hb | exact Bel.refl _ | refine Bel.alloc ?_ _)
        go_wp2_with fail
        refine ⟨⟨q, c :: l, by omega, rfl, congrArg Value.string (by apply ByteArray.ext; simp), HPh, hbb⟩, ?_⟩
        simp only [intOf]
        omega
end Go.Proofs.YtfmijkedhlnccaaDoor
