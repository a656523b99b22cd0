/- The law FnMiddle returns true for every argument, and leaves its arguments as they were. No condition. -/
import Derived.Test.YtmipjhnjlpmidaaMiddleT
import Derived.OpenShut
namespace Go.Proofs.Ytmipjhnjlpmidaa
open Go.ChangeShapes Go.WideShapes Go.ChangeAt Go.RowKit
set_option linter.unusedVariables false
set_option linter.unusedSimpArgs false

theorem own : ownKnob Try.prog.godebug = none := by kernel_rfl
theorem laidOut : laidOutB Try.prog = true := by kernel_rfl

def Off (v u : Value) : Prop := v.ownBlock = none ∨ v.ownBlock ≠ u.ownBlock
theorem Off.grow {w : World} {v v' u : Value} {base n size : Nat} {e : TypeId} {xs : List Value} (h : Off v u) (h2 : Off u v) (hu : w.ownsRow base e size u n xs) (hv : v'.ownBlock = v.ownBlock ∨ v'.ownBlock = some w.heap.size) : Off v' u ∧ Off u v' := by
  have hlt : ∀ k, u.ownBlock = some k → k < w.heap.size := fun k e => (hu.lt k e).2
  rcases hv with hv | hv
  · exact ⟨by unfold Off; rw [hv]; exact h, by unfold Off; rw [hv]; exact h2⟩
  · refine ⟨.inr (by rw [hv]; intro e; have := hlt _ e.symm; omega), ?_⟩
    cases hq : u.ownBlock with
    | none => exact .inl hq
    | some k => right; rw [hv, hq]; intro e; injection e with e; have := hlt k hq; omega
theorem snoc_at {zs : List Int} {x : Int} {j : Nat} : at_ (zs ++ [x]) j = if j < zs.length then at_ zs j else if j = zs.length then x else 0 := by
  unfold at_ List.getD
  split
  · rename_i h; rw [List.getElem?_append_left h]
  · split
    · rename_i h; subst h; simp
    · rw [List.getElem?_eq_none (by simp; omega)]; rfl
theorem snoc_rec {L : List Rec} {x : Rec} {j : Nat} : rec_ (L ++ [x]) j = if j < L.length then rec_ L j else if j = L.length then x else Rec.zero := by
  unfold rec_ List.getD
  split
  · rename_i h; rw [List.getElem?_append_left h]
  · split
    · rename_i h; subst h; simp
    · rw [List.getElem?_eq_none (by simp; omega)]; rfl
set_option maxRecDepth 100000 in
set_option maxHeartbeats 2000000 in
theorem lawMiddle_c (A : Option Addr) (c n : Nat) (w : World) (h : Byts w A n) :
    Calls Try.prog 7 #[.slice A n c] w fun r w' => r = .returned (.bool true) ∧ Bel w w' := by
  by_cases hn : 1048576 < n
  · have hd : decide (1048576 < n) = true := by simpa using hn
    go_enter Try.func7, Try.ntmps7
    go_wp2_with fail
    refine (big_c _ _ _ _).mono ?_; rintro e w' ⟨rfl, rfl⟩
    rw [hd]
    go_wp2_with fail
    go_ret
    exact ⟨rfl, Bel.refl _⟩
  · have hd : decide (1048576 < n) = false := by simpa using hn
    go_enter Try.func7, Try.ntmps7
    go_wp2_with fail
    refine (big_c _ _ _ _).mono ?_; rintro e w' ⟨rfl, rfl⟩
    rw [hd]
    go_wp2_with fail
    refine (drawPlaces_c _ _ _ _ h (by omega)).mono ?_; rintro e w1 ⟨g, d, ps, rfl, hI, hpl, hpz, hb1⟩
    obtain ⟨g', o', he, hgl, hpc⟩ := hI 0 (by omega)
    injection he with he
    injection he with e1 e2
    subst e1 e2
    simp only [Nat.zero_add] at hpc
    rw [hpl] at hpc
    have HPC := Lib.hid hpc
    have HPZ := Lib.hid hpz
    clear hpc hpz hI
    go_wp2_with fail
    have hz0 := (HPZ.out 0 (by omega)).1
    have hoi : ((w1.alloc (.cells #[] 48)).alloc (.cells #[] 3)).ownsRow w1.heap.size 48 9 (.slice (some ⟨w1.heap.size, 0, none⟩) 0 0) 0 (RV k_item []) := own_keep (World.ownsRow_lit w1 #[] 0 (Nat.le_refl _) (by unfold maxLen; omega) rfl) ((Bel.refl _).alloc _)
    have hoz : ((w1.alloc (.cells #[] 48)).alloc (.cells #[] 3)).ownsRow w1.heap.size 3 1 (.slice (some ⟨(w1.alloc (.cells #[] 48)).heap.size, 0, none⟩) 0 0) 0 (VI []) := own_base (World.ownsRow_lit (w1.alloc (.cells #[] 48)) #[] 0 (Nat.le_refl _) (by unfold maxLen; omega) rfl) (by simp)
    obtain ⟨m, hm, hm1, hm5⟩ : ∃ m : Nat, 1 + at_ ps 0 % 5 = (m : Int) ∧ 1 ≤ m ∧ m ≤ 5 := ⟨(1 + at_ ps 0 % 5).toNat, by omega, by omega, by omega⟩
    have e2 : (w1.alloc (.cells #[] 48)).heap.size = w1.heap.size + 1 := by simp
    rw [e2] at hoz
    go_loopw [4, 5, 6] (fun v u i wr => ∃ (k : Nat) (L : List Rec) (zs : List Int), k ≤ m ∧ i = .int .i64 k ∧ zs.length = k ∧ L.length = k ∧ (∀ j, j < k → (0 ≤ at_ zs j ∧ at_ zs j ≤ 99) ∧ rec_ L j = plainR (at_ zs j)) ∧ wr.ownsRow w1.heap.size 48 9 v k (RV k_item L) ∧ wr.ownsRow w1.heap.size 3 1 u k (VI zs) ∧ Off v u ∧ Off u v ∧ Bel w1 wr) (fun _ _ i _ => m - (intOf i).toNat)
    case atStart => exact ⟨0, [], [], by omega, by go_num, rfl, rfl, fun j hj => by omega, hoi, hoz, .inr (by simp [Value.ownBlock]), .inr (by simp [Value.ownBlock]), ((Bel.refl _).alloc _).alloc _⟩
    case round =>
      obtain ⟨k, L, zs, hk, rfl, hzl, hLl, hlz, hov, hou, ho1, ho2, hb⟩ := hrel
      have HLZ := Lib.hid hlz
      clear hlz
      have HPR := hid' (fun j (hj : j < 12) => (hb.cell _ j hgl).trans (HPC.out j hj))
      have hc0 := HPR.out 0 (by omega)
      by_cases hlt : k < m
      · have hlti : (k : Int) < 1 + at_ ps 0 % 5 := by omega
        have hck := HPR.out (k + 1) (by omega)
        have hzk := HPZ.out (k + 1) (by omega)
        have hz1 := hzk.1
        have hk12 : (k : Int) + 1 < 12 := by omega
        have ek : ((k : Int) + 1).toNat = k + 1 := by omega
        obtain ⟨b, hbe⟩ : ∃ b, at_ ps (k + 1) % 100 = b := ⟨_, rfl⟩
        have hbb : 0 ≤ b ∧ b ≤ 99 := by omega
        go_wp2_with (first
          | (at_builtin; refine appG rfl (.tmp 28) (.tmp 36) 25 48 rfl (itemV 0 0 0 0 0 0 0 false false) 9 64 Try.underlying25 Try.info_item rfl (by decide) (by decide) w1.heap.size _ _ _ rfl (hov.alloc _) wr.heap.size rfl (rcells k_item (plainR (b))) rfl (new_cells _ (rcells k_item (plainR (b))) _) (rcells_one _ _) (by omega) (hb.alloc _).sz ?_; intro v' w2 hov2 hg2 hl2
             have hou2 := (hou.alloc (.cells (rcells k_item (plainR (b))).toArray 48)).kept hg2 ho2
             have hb2 := (hb.alloc (.cells (rcells k_item (plainR (b))).toArray 48)).own (Nat.le_refl _) (hov.alloc _) hg2
             have hof := Off.grow ho1 ho2 (hou.alloc (.cells (rcells k_item (plainR (b))).toArray 48)) hl2
             have HPR2 := hid' (fun j (hj : j < 12) => (hb2.cell _ j hgl).trans (HPC.out j hj))
             have hck2 := HPR2.out (k + 1) (by omega)
             clear hck hc0)
          | (at_builtin; refine app1w rfl (.tmp 38) (.tmp 45) rfl w1.heap.size _ k _ rfl (hou2.alloc _) w2.heap.size _ rfl (World.cell?_alloc_new _ _ _ _) (by omega) (hb2.alloc _).sz ?_; intro u' w3 hou3 hg3 hl3))
        go_roundw
        case rel =>
          have hof3 := Off.grow hof.2 hof.1 (hov2.alloc (.cells #[.int .i64 (b)] 3)) hl3
          refine ⟨k + 1, L ++ [plainR (b)], zs ++ [b], by omega, by go_num, by simp [hzl], by simp [hLl], fun j hj => ?_, ?_, ?_, hof3.2, hof3.1, (hb2.alloc _).own (Nat.le_refl _) (hou2.alloc _) hg3⟩
          · rw [snoc_at, snoc_rec, hzl, hLl]
            by_cases hj2 : j < k
            · rw [if_pos hj2, if_pos hj2]; exact HLZ.out j hj2
            · rw [if_neg hj2, if_neg hj2, if_pos (by omega), if_pos (by omega)]
              exact ⟨by omega, rfl⟩
          · rw [← RV_snoc]; exact (hov2.alloc _).kept hg3 hof.1
          · rw [← VI_snoc]; exact hou3
        case measure => simp [intOf]; omega
      · obtain rfl : k = m := by omega
        have hlti : ¬ (k : Int) < 1 + at_ ps 0 % 5 := by omega
        have hc7 := HPR.out 7 (by omega)
        have hz7 := (HPZ.out 7 (by omega)).1
        obtain ⟨A1, c1, rfl, -, -, hR⟩ := own_openR hLl.symm hov
        obtain ⟨A2, c2, rfl, -, -, -, hZ⟩ := own_open hou
        have HLl := Lib.hid hLl
        have Hzl := Lib.hid hzl
        have hMid : MidIn L zs := ⟨by omega, by omega, by omega, fun i hi => (HLZ.out i (by omega)).1, fun i hi => (HLZ.out i (by omega)).2⟩
        have HM := Lib.hid hMid
        clear hMid hLl hzl
        obtain ⟨inner, hinn⟩ : ∃ inner, 600 + at_ ps 7 % 400 = inner := ⟨_, rfl⟩
        have hin2 : 600 ≤ inner ∧ inner ≤ 999 := by omega
        go_wp2_with fail
        have hw3 : Ints (wr.alloc (.cells #[.int .i64 3, .int .i64 5, .int .i64 6] 3)) (some ⟨wr.heap.size, 0, none⟩) [3, 5, 6] := fun i hi => ⟨_, _, rfl, by simp, fun j hj => by
          rw [Nat.zero_add, World.cell?_alloc_new]
          match j, hj with
          | 0, _ => rfl
          | 1, _ => rfl
          | 2, _ => rfl⟩
        have HW3 := Lib.hid hw3
        clear hw3
        obtain ⟨W, hW⟩ : ∃ W, W = wr.alloc (.cells #[.int .i64 3, .int .i64 5, .int .i64 6] 3) := ⟨_, rfl⟩
        rw [← hW] at HW3 ⊢
        have HBW : Hid (Bel wr W) := hid' (by rw [hW]; exact (Bel.refl _).alloc _)
        have hlw : wr.heap.size < W.heap.size := by rw [hW]; simp
        clear hW
        obtain ⟨gq, hgq⟩ : ∃ gq, wr.heap.size = gq := ⟨_, rfl⟩
        rw [hgq] at HW3 hlw ⊢
        clear hgq
        go_loopw [9] (fun i wq => ∃ (q : Nat), q ≤ 3 ∧ i = .int .i64 q ∧ Bel W wq) (fun i _ => 3 - (intOf i).toNat)
        case atStart => exact ⟨0, by omega, by go_num, Bel.refl _⟩
        case round =>
          obtain ⟨q, hq, rfl, hbq⟩ := hrel
          by_cases hq3 : q < 3
          · obtain ⟨j, hj, hjw⟩ : ∃ j, at_ [3, 5, 6] q = j ∧ (j = 3 ∨ j = 5 ∨ j = 6) := ⟨_, rfl, by
              rcases (show q = 0 ∨ q = 1 ∨ q = 2 by omega) with rfl | rfl | rfl <;> simp [at_]⟩
            have hqi : (q : Int) < 3 := by omega
            obtain ⟨gw, ow, hew, -, hcw⟩ := HW3.out 0 (by simp)
            injection hew with hew
            injection hew with e3 e4
            subst e3 e4
            have hcq := (hbq.cell _ _ hlw).trans (hcw q hq3)
            rw [Nat.zero_add, hj] at hcq
            clear hcw
            obtain ⟨m', hkm⟩ : ∃ m', k = m' + 1 := ⟨k - 1, by omega⟩
            have HLl := hid' (HLl.out.trans hkm)
            have Hzl := hid' (Hzl.out.trans hkm)
            have hm4 : m' ≤ 4 := by omega
            clear hkm
            have hlaw := HM.out.law hin2 hjw HLl.out
            have hlen := HM.out.len_ inner j hin2
            have hRq := (hR.keep HBW.out).keep hbq
            have hZq := (hZ.keep HBW.out).keep hbq
            go_wp2_with fail
            refine (iPlacesAlong_c _ _ _ _ _ _ _ _ _ _ hRq hZq (by have := HLl.out; omega) (by have := Hzl.out; omega)).mono ?_; rintro e w4 ⟨v4, rfl, ho4, hb4⟩
            obtain ⟨A4, c4, rfl, -, -, -, hP⟩ := own_open ho4
            have HLE := Lib.hid hlen
            have HLA := Lib.hid hlaw
            clear hlen hlaw
            obtain ⟨P, hP'⟩ : ∃ P, alongL L zs 0 inner j = P := ⟨_, rfl⟩
            rw [hP'] at HLE HLA hP ⊢
            have HPl : Hid (P.length = m' + 1) := hid' (by rw [HLE.out, HLl.out])
            have hPL : P.length = L.length := HLE.out
            obtain ⟨bp, op, hpe, hbpl, hcp⟩ := hP 0 (by have := HPl.out; omega)
            subst hpe
            have cp0 := hcp 0 (by have := HPl.out; omega)
            have cpm := hcp m' (by have := HPl.out; omega)
            rw [Nat.add_zero] at cp0
            obtain ⟨bz, oz, hze, hbzl, hcz⟩ := (hZq.keep hb4) m' (by have := Hzl.out; omega)
            subst hze
            have czm := hcz m' (by have := Hzl.out; omega)
            obtain ⟨l1, l2, l3, l4⟩ := HLA.out
            have hzm := HM.out.z m' (by have := Hzl.out; omega)
            clear hcp hcz HLA HLE hP'
            rw [hPL]
            clear hPL
            have em : (L.length : Int) - 1 = (m' : Int) := by have := HLl.out; omega
            have hml : (m' : Int) < (L.length : Int) := by have := HLl.out; omega
            have hl0 : (0 : Int) < (L.length : Int) := by omega
            have hmz : (m' : Int) < (zs.length : Int) := by have := Hzl.out; omega
            have e5 : ((m' : Int)).toNat = m' := by omega
            obtain ⟨s0, hs0⟩ : ∃ s0, at_ P 0 = s0 := ⟨_, rfl⟩
            obtain ⟨sm, hsm⟩ : ∃ sm, at_ P m' = sm := ⟨_, rfl⟩
            obtain ⟨zm, hzm'⟩ : ∃ zm, at_ zs m' = zm := ⟨_, rfl⟩
            rw [hs0] at cp0 l1 l3 l4
            rw [hsm] at cpm l2 l3 l4
            rw [hzm'] at czm l3 l4 hzm
            have q1 : IntKind.i64.wrap (inner - sm) = inner - sm := IntWalk.i64_in _ (by omega)
            have q2 : IntKind.i64.wrap (inner - sm - zm) = inner - sm - zm := IntWalk.i64_in _ (by omega)
            have q3 : IntKind.i64.wrap (s0 - (inner - sm - zm)) = s0 - (inner - sm - zm) := IntWalk.i64_in _ (by omega)
            go_wp2_with fail
            go_quiet (fail)
            clear q1 q2 q3
            go_wp2_with fail
            go_roundw
            case rel => exact ⟨q + 1, by omega, by go_num, (hbq.trans hb4).drewN _⟩
            case measure => simp [intOf]; omega
          · obtain rfl : q = 3 := by omega
            go_wp2_with fail
            go_ret
            exact ⟨rfl, hb1.trans (hb.trans (HBW.out.trans hbq))⟩

set_option maxRecDepth 100000 in
theorem Middle_lifted (os : Os) (started : os.Started) (H : Type) (enc : TypeId × Value → H) :
    ReturnsInHanded {} Try.checked os 7 .any (Rows.fnMiddleSpec.pre6 enc Try.prog Try.f7 Rows.fnMiddleRow.domain false) (Rows.fnMiddleSpec.post enc Try.prog Try.f7 false true false false) := by
  refine law_lifted (C := Try.checked) (tb := 4) own started (by kernel_rfl) Try.func7 laidOut rfl rfl Try.underlying4 (by kernel_rfl)
    (fun ds h => match ds, h with | [_], _ => rfl)
    (ChangeSpec.witness6 (enc := enc) (C := Try.checked) false ⟨#[], #[.slice none 0 0], []⟩ 8 (by kernel_rfl) (by kernel_rfl) (by kernel_rfl) (by kernel_rfl)) ?_
  intro W base args ds ps hval0 hA0
  have hval : ∀ (j : Nat) t v, Try.f7.params[j]? = some t → args[j]? = some v → Value.okWide Try.prog W .any base t v := hval0
  have hA : DataW.TrodAll enc Try.prog W 0 (fun _ => true) true Try.f7.params.toList args.toList ds ps := hA0
  clear hval0 hA0
  rw [Try.params7] at hA hval
  obtain ⟨v0, d0, rfl, rfl, h0⟩ := trodAll_one hA
  obtain ⟨A, c, n, rfl, -, -, hI⟩ := open_bytes Try.underlying36 Try.underlying5 (by kernel_rfl) (hval 0 36 v0 rfl rfl) h0
  exact lawMiddle_c _ _ _ W hI

theorem Middle_holds : Rows.FnMiddleSaid :=
  OpenClaim.holds_of_wide 7 Try.f7 rfl rfl rfl rfl rfl rfl rfl ⟨rfl, rfl, rfl, rfl, rfl⟩ rfl rfl rfl rfl rfl (by kernel_rfl) Try.func7 (by kernel_rfl)
    (of_decide_eq_true (by kernel_rfl)) (by unfold Func.isWrapper; first | (rw [if_pos (by decide +kernel)]; kernel_rfl) | (rw [if_neg (by decide +kernel)]; exact ⟨rfl, rfl⟩))
    (fun os started H enc _ => Middle_lifted os started H enc)
#print axioms Middle_holds
end Go.Proofs.Ytmipjhnjlpmidaa
