/- DrawBounded, DrawGivenOf; the plain style with bounds. -/
import Derived.Test.YtfmijkedhlnccaaDrawA
namespace Go.Proofs.Ytfmijkedhlnccaa
open Go.RowKit Go.ChangeShapes Go.WideShapes Go.ChangeAt
set_option linter.unusedVariables false
set_option linter.unusedSimpArgs false

set_option maxRecDepth 100000 in
set_option maxHeartbeats 4000000 in
theorem drawBounded_c (A : Option Addr) (n c : Nat) (w : World) (h : Byts w A n) (hn : n ≤ 1048576) :
    Calls Try.prog 5 #[.slice A n c] w fun e w' => ∃ (r : Rec) (t : Bool) (b k : Int), e = .returned (.tuple #[styleV r, .bool t, .int .i64 b, .int .i64 k]) ∧ Bel w w' := by
  go_enter Try.func5, Try.ntmps5
  go_wp2_with ((with_reducible show wpList _ _ _ (Oper.mk _ (Op.alloc 31) _ _ _ _ :: _) _ _); refine allocR (N := 60) (L := rcells k_style Rec.zero) (by kernel_rfl) rfl rfl ?_; intro wA HA)
  have hbA : Bel w wA := by rw [HA.out]; exact (Bel.refl w).alloc _
  have hzA : wA.heap.size = w.heap.size + 1 := by rw [HA.out]; simp
  have hBA : BX wA w.heap.size k_style := by rw [HA.out]; exact BX.new w k_style Rec.zero 31
  clear HA
  refine (l01New_c _ _ _ _ (h.keep hbA) (by omega)).mono ?_; rintro e w1 ⟨rfl, hc1, hb1⟩
  have hBe : Bel w w1 := hbA.trans hb1
  have hB1 := hBA.keep hb1
  have hcb : CB wA.heap.size w1 w1 := CB.refl _ _
  have hgp : ¬ w.heap.size = wA.heap.size := by omega
  have hlo : w.heap.size ≤ wA.heap.size := by omega
  clear hBA hb1 hzA
  obtain ⟨p, hp⟩ : ∃ p, wA.heap.size = p := ⟨_, rfl⟩
  rw [hp] at hc1 hcb hgp hlo
  go_wp2_with fail
  refine (l06Any_c _ _ hc1).mono ?_; rintro e w2 ⟨r, rfl, hc2, hb2⟩
  have hB2 := hB1.cb hb2 hgp
  have hD2 := hcb.trans hb2
  clear hB1 hcb hb2 hc1
  go_wp2_with fail
  refine (l01Once_c _ _ _ hc2).mono ?_; rintro e w3 ⟨t, rfl, hc3, hb3⟩
  have hB3 := hB2.cb hb3 hgp
  have hD3 := hD2.trans hb3
  clear hB2 hD2 hb3 hc2
  go_wp2_with fail
  refine (l08Base_c _ _ hc3).mono ?_; rintro e w4 ⟨b, rfl, hc4, hb4⟩
  have hB4 := hB3.cb hb4 hgp
  have hD4 := hD3.trans hb4
  clear hB3 hD3 hb4 hc3
  go_wp2_with fail
  refine (l02Int_c _ _ hc4).mono ?_; rintro e w5 ⟨k, rfl, hk, hc5, hb5⟩
  have hB5 := hB4.cb hb5 hgp
  have hD5 := hD4.trans hb5
  clear hB4 hD4 hb5 hc4
  have HT := Lib.hid (hB5.there 60 rfl)
  have HRG := Lib.hid (World.rangeAt_setCells_same w5 w.heap.size 0 (rcells k_style r) HT.out)
  have HBW : Hid (Bel w (w5.setCells w.heap.size 0 (rcells k_style r))) := hid' ((hD5.toBel hBe hlo).grown (setCells_gb w.heap.size (rcells k_style r) 0 w5) (fun q e => by injection e with e; omega))
  clear hB5 hD5
  go_wp2_with ((with_reducible show wpList _ _ _ (Oper.mk _ (Op.store 31 _ _) _ _ _ _ :: _) _ _); refine storeR (N := 60) (L := rcells k_style r) (by kernel_rfl) rfl _ _ rfl w.heap.size rfl rfl (by rw [rcells_length]; rfl) (rcells_one _ _) HT.out ?_; intro wC HC)
  have R1 := HRG.out
  have R2 := HBW.out
  rw [← HC.out] at R1 R2
  have hld := run_loadVar_mid (P := Try.prog) wC w.heap.size 0 31 (rcells k_style r) _ R1 Try.underlying31 rfl (by rw [rcells_length]; kernel_rfl)
  exact bodyPost_ret (v := .tuple #[.agg (rcells k_style r).toArray, .bool t, .int .i64 b, .int .i64 k]) (by simp [results, Try.results5, asAddr, hld]) rfl ⟨r, t, b, k, rfl, R2⟩
set_option maxRecDepth 100000 in
set_option maxHeartbeats 4000000 in
theorem drawGivenOf_c (A : Option Addr) (n c : Nat) (w : World) (h : Byts w A n) (hn : n ≤ 1048576) :
    Calls Try.prog 12 #[.slice A n c] w fun e w' => ∃ (r : Rec) (t : Bool) (b k : Int), e = .returned (.tuple #[styleV r, .bool t, .int .i64 b, .int .i64 k]) ∧ Bel w w' := by
  go_enter Try.func12, Try.ntmps12
  go_wp2_with ((with_reducible show wpList _ _ _ (Oper.mk _ (Op.alloc 31) _ _ _ _ :: _) _ _); refine allocR (N := 60) (L := rcells k_style Rec.zero) (by kernel_rfl) rfl rfl ?_; intro wA HA)
  have hbA : Bel w wA := by rw [HA.out]; exact (Bel.refl w).alloc _
  have hzA : wA.heap.size = w.heap.size + 1 := by rw [HA.out]; simp
  have hBA : BX wA w.heap.size k_style := by rw [HA.out]; exact BX.new w k_style Rec.zero 31
  clear HA
  refine (l01New_c _ _ _ _ (h.keep hbA) (by omega)).mono ?_; rintro e w1 ⟨rfl, hc1, hb1⟩
  have hBe : Bel w w1 := hbA.trans hb1
  have hB1 := hBA.keep hb1
  have hcb : CB wA.heap.size w1 w1 := CB.refl _ _
  have hgp : ¬ w.heap.size = wA.heap.size := by omega
  have hlo : w.heap.size ≤ wA.heap.size := by omega
  clear hBA hb1 hzA
  obtain ⟨p, hp⟩ : ∃ p, wA.heap.size = p := ⟨_, rfl⟩
  rw [hp] at hc1 hcb hgp hlo
  go_wp2_with fail
  refine (l06Any_c _ _ hc1).mono ?_; rintro e w2 ⟨r, rfl, hc2, hb2⟩
  have hB2 := hB1.cb hb2 hgp
  have hD2 := hcb.trans hb2
  clear hB1 hcb hb2 hc1
  go_wp2_with fail
  refine (l01Once_c _ _ _ hc2).mono ?_; rintro e w3 ⟨t, rfl, hc3, hb3⟩
  have hB3 := hB2.cb hb3 hgp
  have hD3 := hD2.trans hb3
  clear hB2 hD2 hb3 hc2
  go_wp2_with fail
  refine (l08Base_c _ _ hc3).mono ?_; rintro e w4 ⟨b, rfl, hc4, hb4⟩
  have hB4 := hB3.cb hb4 hgp
  have hD4 := hD3.trans hb4
  clear hB3 hD3 hb4 hc3
  go_wp2_with fail
  refine (l08Base_c _ _ hc4).mono ?_; rintro e w5 ⟨k, rfl, hc5, hb5⟩
  have hB5 := hB4.cb hb5 hgp
  have hD5 := hD4.trans hb5
  clear hB4 hD4 hb5 hc4
  have HT := Lib.hid (hB5.there 60 rfl)
  have HRG := Lib.hid (World.rangeAt_setCells_same w5 w.heap.size 0 (rcells k_style r) HT.out)
  have HBW : Hid (Bel w (w5.setCells w.heap.size 0 (rcells k_style r))) := hid' ((hD5.toBel hBe hlo).grown (setCells_gb w.heap.size (rcells k_style r) 0 w5) (fun q e => by injection e with e; omega))
  clear hB5 hD5
  go_wp2_with ((with_reducible show wpList _ _ _ (Oper.mk _ (Op.store 31 _ _) _ _ _ _ :: _) _ _); refine storeR (N := 60) (L := rcells k_style r) (by kernel_rfl) rfl _ _ rfl w.heap.size rfl rfl (by rw [rcells_length]; rfl) (rcells_one _ _) HT.out ?_; intro wC HC)
  have R1 := HRG.out
  have R2 := HBW.out
  rw [← HC.out] at R1 R2
  have hld := run_loadVar_mid (P := Try.prog) wC w.heap.size 0 31 (rcells k_style r) _ R1 Try.underlying31 rfl (by rw [rcells_length]; kernel_rfl)
  exact bodyPost_ret (v := .tuple #[.agg (rcells k_style r).toArray, .bool t, .int .i64 b, .int .i64 k]) (by simp [results, Try.results12, asAddr, hld]) rfl ⟨r, t, b, k, rfl, R2⟩
end Go.Proofs.Ytfmijkedhlnccaa
