/- sort.SliceStable at at most twelve ints, with a 'less' that lays blocks: the library's text walked. -/
import Derived.Test.YtkoljbndbomhdaaGreatFlowT
import Derived.Test.YtkoljbndbomhdaaGreatCut
import Derived.Shelf.GgSortMore.Stable
import Derived.Shelf.Lay
import Derived.Ground.GgtProg
namespace Go.Proofs.YtkoljbndbomhdaaGreat
open Go.RowKit Go.ChangeShapes Go.WideShapes
set_option linter.unusedVariables false
set_option linter.unusedSimpArgs false

shelf_lay Go.Proofs.LaysGt.n8 Ggt 8 at Tryz as sl8
theorem VI_set (l : List Int) (i : Nat) (z : Int) : (VI l).set i (.int .i64 z) = VI (l.set i z) := by simp [VI, List.map_set]
abbrev RowI (w : World) (base blk n cap : Nat) (l : List Int) : Prop := w.ownsRow base 3 1 (.slice (some ⟨blk, 0, none⟩) n cap) n (VI l)
/-- what is asked of 'less' -/
def LessOk (x2 x5 base blk n cap : Nat) (l0 : List Int) (ord : Int → Int) (w : World) : Prop :=
  ∀ wr l, w.grownBy wr (some blk) → RowI wr base blk n cap l → l.length = n → (∀ z ∈ l, z ∈ l0) → ∀ i j : Nat, i < n → j < n →
     Calls Tryz.prog 62 #[.int .i64 (i : Int), .int .i64 (j : Int), .pointer (some ⟨x2, 0, none⟩), .pointer (some ⟨x5, 0, none⟩)] wr fun e w' => e = .returned (.bool (decide (ord (at_ l i) < ord (at_ l j)))) ∧ Bel wr w'
theorem LessOk.grown {x2 x5 base blk n cap : Nat} {l0 : List Int} {ord : Int → Int} {w w' : World} (h : LessOk x2 x5 base blk n cap l0 ord w) (hg : w.grownBy w' (some blk)) : LessOk x2 x5 base blk n cap l0 ord w' :=
  fun wr l h1 => h wr l (hg.trans h1)
theorem gb_bel {b : Nat} {a c : World} (h : Bel a c) : a.grownBy c (some b) := ⟨h.os, h.tape, h.output, h.size, fun k hk _ => h.block k hk⟩
/-- the row after a swap -/
theorem row_swap {w : World} {base blk n cap i j : Nat} {l : List Int} {x y : Int} (h : RowI w base blk n cap l) :
    RowI ((w.setCell ⟨blk, i, none⟩ (.int .i64 y)).setCell ⟨blk, j, none⟩ (.int .i64 x)) base blk n cap ((l.set i y).set j x) ∧ w.grownBy ((w.setCell ⟨blk, i, none⟩ (.int .i64 y)).setCell ⟨blk, j, none⟩ (.int .i64 x)) (some blk) := by
  have h1 := World.ownsRow.stored h i (.int .i64 y)
  have h2 := h1.1
  rw [VI_set] at h2
  have h3 := World.ownsRow.stored h2 j (.int .i64 x)
  have h4 := h3.1
  rw [VI_set] at h4
  exact ⟨h4, h1.2.trans h3.2⟩
noncomputable def ieI : TypeInfo := (Tryz.prog.info? 3).get (by kernel_rfl)
noncomputable def ieS : TypeInfo := (Tryz.prog.info? 48).get (by kernel_rfl)
theorem run_swapI {w : World} {base blk n cap i j : Nat} {l : List Int} (h : RowI w base blk n cap l) (hl : l.length = n) (hi : i < n) (hj : j < n) :
    (callFunc 98 #[.int .i64 (i : Int), .int .i64 (j : Int), .slice (some ⟨blk, 0, none⟩) n cap, typeHandle Tryz.prog 3]).run Tryz.prog w = .ok (.value (.tuple #[])) ((w.setCell ⟨blk, i, none⟩ (.int .i64 (at_ l j))).setCell ⟨blk, j, none⟩ (.int .i64 (at_ l i))) := by
  have ci : ∀ i, i < n → w.cell? ⟨blk, 0 + i, none⟩ = some (.int .i64 (at_ l i)) := fun i hi => by
    have := h.cellAt i (by omega)
    rw [Nat.zero_add, this]
    exact VI_at (by omega)
  have fi : ∀ i, w.frozen? ⟨blk, 0 + i, none⟩ = false := fun i => h.frozenAt _
  have hr := Lib.run_swap_one (P := Tryz.prog) true 3 ieI (by kernel_rfl) (by kernel_rfl) (fun _ => by kernel_rfl) blk 0 n cap i j hi hj (.int .i64 (at_ l i)) (.int .i64 (at_ l j)) rfl rfl w (ci i hi) (ci j hj) (fi i) (fi j)
  have hx := run_callFunc_extern (P := Tryz.prog) Tryz.func98 (by kernel_rfl) (by kernel_rfl) (by kernel_rfl) (e := Extern.ReflectliteSwapper.swap true) (by kernel_rfl) #[.int .i64 (i : Int), .int .i64 (j : Int), .slice (some ⟨blk, 0, none⟩) n cap, typeHandle Tryz.prog 3] w
  rw [Nat.zero_add, Nat.zero_add] at hr
  rw [hx, hr]
  rfl
set_option maxRecDepth 100000 in
set_option maxHeartbeats 4000000 in
theorem insSort_c (x2 x5 base blk n cap : Nat) (l0 : List Int) (ord : Int → Int) (w : World) (hl : l0.length = n) (h1 : 1 ≤ n) (hn : n ≤ 12) (ho : RowI w base blk n cap l0) (HL : LessOk x2 x5 base blk n cap l0 ord w) :
    Calls Tryz.prog 103 #[.agg #[.func (.func 62) #[] #[.pointer (some ⟨x2, 0, none⟩), .pointer (some ⟨x5, 0, none⟩)], .func (.func 98) #[] #[.slice (some ⟨blk, 0, none⟩) n cap, typeHandle Tryz.prog 3]], .int .i64 0, .int .i64 (n : Int)] w
      fun e w' => e = .returned (.tuple #[]) ∧ RowI w' base blk n cap (sorted ord l0) ∧ w.grownBy w' (some blk) := by
  have HL := Lib.hid HL
  obtain ⟨th, hth⟩ : ∃ th, typeHandle Tryz.prog 3 = th := ⟨_, rfl⟩
  have HSW : Hid (∀ (w : World) (l : List Int) (i j : Nat), RowI w base blk n cap l → l.length = n → i < n → j < n → (callFunc 98 #[.int .i64 (i : Int), .int .i64 (j : Int), .slice (some ⟨blk, 0, none⟩) n cap, th]).run Tryz.prog w = .ok (.value (.tuple #[])) ((w.setCell ⟨blk, i, none⟩ (.int .i64 (at_ l j))).setCell ⟨blk, j, none⟩ (.int .i64 (at_ l i)))) := hid' (fun w l i j h hl hi hj => by rw [← hth]; exact run_swapI h hl hi hj)
  rw [hth]
  clear hth
  obtain ⟨W, hW⟩ : ∃ W, W = w.alloc (.cells #[.func (.func 62) #[] #[.pointer (some ⟨x2, 0, none⟩), .pointer (some ⟨x5, 0, none⟩)], .func (.func 98) #[] #[.slice (some ⟨blk, 0, none⟩) n cap, th]] 128) := ⟨_, rfl⟩
  have HWG : Hid (Bel w W) := hid' (by rw [hW]; exact (Bel.refl w).alloc _)
  have hbl : blk < w.heap.size := (ho.lt blk rfl).2
  have HC : Hid (∀ u, W.grownBy u (some blk) → u.cell? ⟨w.heap.size, 0, none⟩ = some (.func (.func 62) #[] #[.pointer (some ⟨x2, 0, none⟩), .pointer (some ⟨x5, 0, none⟩)]) ∧ u.cell? ⟨w.heap.size, 1, none⟩ = some (.func (.func 98) #[] #[.slice (some ⟨blk, 0, none⟩) n cap, th])) := hid' (fun u hu => by
    have hs : w.heap.size < W.heap.size := by rw [hW]; simp
    refine ⟨(World.grownBy.cell_far hu ⟨w.heap.size, 0, none⟩ hs (fun e => by have e2 : w.heap.size = blk := Option.some.inj e; omega)).trans ?_, (World.grownBy.cell_far hu ⟨w.heap.size, 1, none⟩ hs (fun e => by have e2 : w.heap.size = blk := Option.some.inj e; omega)).trans ?_⟩
    · rw [hW]; simp
    · rw [hW]; simp)
  have HO := hid' (own_keep ho HWG.out)
  clear ho
  go_enter Tryz.func103, Tryz.ntmps103
  go_wp2_with fail
  rw [← hW]
  clear hW
  go_loopw [6] (fun vi wr => ∃ (i : Nat), 1 ≤ i ∧ i ≤ n ∧ vi = .int .i64 i ∧ Hid (RowI wr base blk n cap (sorted ord (l0.take i) ++ l0.drop i)) ∧ Hid (W.grownBy wr (some blk))) (fun vi _ => n - (intOf vi).toNat)
  case atStart =>
    refine ⟨1, Nat.le_refl _, h1, by go_num, hid' ?_, hid' (World.grownBy.refl _ _)⟩
    have e : sorted ord (l0.take 1) ++ l0.drop 1 = l0 := by
      rcases l0 with _ | ⟨x, r⟩
      · rfl
      · rfl
    rw [e]
    exact HO.out
  case round =>
    obtain ⟨i, hi1, hin, rfl, HR, HG⟩ := hrel
    by_cases hlt : i < n
    · have hil : (i : Int) < (n : Int) := by omega
      obtain ⟨P, hP⟩ : ∃ P, sorted ord (l0.take i) = P := ⟨_, rfl⟩
      obtain ⟨R, hR⟩ : ∃ R, l0.drop (i + 1) = R := ⟨_, rfl⟩
      obtain ⟨x, hx⟩ : ∃ x, at_ l0 i = x := ⟨_, rfl⟩
      have HPL : Hid (P.length = i) := hid' (by rw [← hP, sorted_length, List.length_take]; omega)
      have HRL : Hid (R.length = n - (i + 1)) := hid' (by rw [← hR, List.length_drop, hl])
      have HMEM : Hid (∀ j, ∀ z ∈ insF P j x ++ R, z ∈ l0) := hid' (fun j z hz => by
        rw [List.mem_append, insF_mem] at hz
        rcases hz with (hz | hz) | hz
        · rw [← hP, sorted_mem] at hz; exact List.mem_of_mem_take hz
        · rw [hz, ← hx]; exact at_mem (by omega)
        · rw [← hR] at hz; exact List.mem_of_mem_drop hz)
      have HST : Hid (sorted ord (l0.take (i + 1)) ++ l0.drop (i + 1) = insF P (insPos ord P x i) x ++ R) := hid' (by rw [sorted_take ord (by omega), hP, hx, hR]; unfold insP; rw [HPL.out])
      have HR1 : Hid (RowI wr base blk n cap (insF P i x ++ R)) := hid' (by
        have h0 := HR.out
        rw [hP, show l0.drop i = x :: R by rw [← hx, ← hR, List.drop_eq_getElem_cons (by omega)]; congr 1; simp [at_, List.getD, List.getElem?_eq_getElem (show i < l0.length by omega)]] at h0
        have e := insF_end P R x
        rw [HPL.out] at e
        rw [e]
        exact h0)
      have HLEN : Hid (∀ j, (insF P j x ++ R).length = n) := hid' (fun j => by rw [List.length_append, insF_length, HPL.out, HRL.out]; omega)
      clear hP hR hx HR
      go_wp2_with fail
      go_loopw [7] (fun vj wr2 => ∃ (j : Nat), j ≤ i ∧ vj = .int .i64 j ∧ Hid (RowI wr2 base blk n cap (insF P j x ++ R)) ∧ Hid (insPos ord P x j = insPos ord P x i) ∧ Hid (W.grownBy wr2 (some blk))) (fun vj _ => (intOf vj).toNat)
      case atStart => exact ⟨i, Nat.le_refl _, rfl, HR1, hid' rfl, HG⟩
      case round =>
        rename_i v27 wq
        obtain ⟨j, hji, rfl, HRJ, HI, HGJ⟩ := hrel
        obtain ⟨c0, c1⟩ := HC.out _ HGJ.out
        by_cases hj0 : 0 < j
        · have hj0i : (0 : Int) < (j : Int) := by omega
          have hL := HL.out _ _ (((gb_bel HWG.out).trans HGJ.out)) HRJ.out (HLEN.out j) (HMEM.out j) j (j - 1) (by omega) (by omega)
          rw [show (((j - 1 : Nat) : Int)) = (j : Int) - 1 by omega] at hL
          have hA1 : at_ (insF P j x ++ R) j = x := insF_at (by rw [HPL.out]; exact hji)
          have hA2 : at_ (insF P j x ++ R) (j - 1) = at_ P (j - 1) := by
            obtain ⟨j', rfl⟩ : ∃ j', j = j' + 1 := ⟨j - 1, by omega⟩
            exact insF_at_prev (by rw [HPL.out]; omega)
          rw [hA1, hA2] at hL
          have HA := hid' (And.intro hA1 hA2)
          clear hA1 hA2
          by_cases hord : ord x < ord (at_ P (j - 1))
          · have HORD := Lib.hid hord
            rw [decide_eq_true hord] at hL
            clear hord
            go_wp2_with (go_at_call 62; refine hL.mono ?_; rintro e wl ⟨rfl, hbl2⟩; have HGL := hid' (HGJ.out.trans (gb_bel (b := blk) hbl2)); obtain ⟨d0, d1⟩ := HC.out _ HGL.out)
            have hs := HSW.out _ _ j (j - 1) (own_keep HRJ.out hbl2) (HLEN.out j) (by omega) (by omega)
            rw [HA.out.1, HA.out.2] at hs
            rw [show (((j - 1 : Nat) : Int)) = (j : Int) - 1 by omega] at hs
            rw [hs, Oper.upon_value]
            have HSW2 := hid' (row_swap (i := j) (j := j - 1) (x := x) (y := at_ P (j - 1)) (own_keep HRJ.out hbl2))
            clear hs hL
            go_wp2_with fail
            go_roundw
            case rel =>
              obtain ⟨j', rfl⟩ : ∃ j', j = j' + 1 := ⟨j - 1, by omega⟩
              refine ⟨j', by omega, by go_num, hid' ?_, hid' ?_, hid' (HGL.out.trans HSW2.out.2)⟩
              · have h0 := HSW2.out.1
                rw [show j' + 1 - 1 = j' by omega, insF_swap (by rw [HPL.out]; omega)] at h0
                exact h0
              · rw [← HI.out]
                have ho := HORD.out
                rw [show j' + 1 - 1 = j' by omega] at ho
                conv => rhs; unfold insPos
                rw [if_pos ho]
            case measure => simp [intOf]; omega
          · have HORD := Lib.hid hord
            rw [decide_eq_false hord] at hL
            clear hord
            go_wp2_with (go_at_call 62; refine hL.mono ?_; rintro e wl ⟨rfl, hbl2⟩; have HGL := hid' (HGJ.out.trans (gb_bel (b := blk) hbl2)))
            go_roundw
            case rel =>
              refine ⟨i + 1, by omega, by omega, by go_num, hid' ?_, HGL⟩
              rw [HST.out, ← HI.out]
              have e : insPos ord P x j = j := by
                obtain ⟨j', rfl⟩ : ∃ j', j = j' + 1 := ⟨j - 1, by omega⟩
                have ho := HORD.out
                rw [show j' + 1 - 1 = j' by omega] at ho
                unfold insPos
                rw [if_neg (by omega)]
              rw [e]
              exact own_keep HRJ.out hbl2
            case measure => simp [intOf]; omega
        · obtain rfl : j = 0 := by omega
          go_wp2_with fail
          go_roundw
          case rel =>
            refine ⟨i + 1, by omega, by omega, by go_num, hid' ?_, HGJ⟩
            rw [HST.out, ← HI.out]
            exact HRJ.out
          case measure => simp [intOf]; omega
    · obtain rfl : i = n := by omega
      go_wp2_with fail
      go_end0
      refine ⟨rfl, ?_, (gb_bel HWG.out).trans HG.out⟩
      have h0 := HR.out
      rw [← hl, List.take_length, List.drop_length, List.append_nil, hl] at h0
      exact h0
def dataV (x2 x5 blk n cap : Nat) (th : Value) : Value := .agg #[.func (.func 62) #[] #[.pointer (some ⟨x2, 0, none⟩), .pointer (some ⟨x5, 0, none⟩)], .func (.func 98) #[] #[.slice (some ⟨blk, 0, none⟩) n cap, th]]
set_option maxRecDepth 100000 in
set_option maxHeartbeats 4000000 in
theorem stable_c (x2 x5 base blk n cap : Nat) (l0 : List Int) (ord : Int → Int) (w : World) (hl : l0.length = n) (h1 : 1 ≤ n) (hn : n ≤ 12) (ho : RowI w base blk n cap l0) (HL : LessOk x2 x5 base blk n cap l0 ord w) :
    Calls Tryz.prog 84 #[dataV x2 x5 blk n cap (typeHandle Tryz.prog 3), .int .i64 (n : Int)] w
      fun e w' => e = .returned (.tuple #[]) ∧ RowI w' base blk n cap (sorted ord l0) ∧ w.grownBy w' (some blk) := by
  have hI := insSort_c x2 x5 base blk n cap l0 ord (w.alloc (.cells #[.func (.func 62) #[] #[.pointer (some ⟨x2, 0, none⟩), .pointer (some ⟨x5, 0, none⟩)], .func (.func 98) #[] #[.slice (some ⟨blk, 0, none⟩) n cap, typeHandle Tryz.prog 3]] 128)) hl h1 hn (own_keep ho ((Bel.refl w).alloc _)) (HL.grown (gb_bel ((Bel.refl w).alloc _)))
  unfold dataV
  obtain ⟨th, hth⟩ : ∃ th, typeHandle Tryz.prog 3 = th := ⟨_, rfl⟩
  rw [hth] at hI ⊢
  clear hth HL ho hl
  have hn2 : (n : Int) < 20 := by omega
  go_enter Tryz.func84, Tryz.ntmps84
  go_wp2_with fail
  refine wp_loop_rounds 1 ?_
  rw [rounds_succ]
  go_wp2_with (go_at_call 103; refine hI.mono ?_; rintro e w1 ⟨rfl, hr, hg⟩; have HE := hid' (And.intro hr hg); clear hr hg)
  refine wp_loop_rounds 1 ?_
  rw [rounds_succ]
  go_wp2_with fail
  go_end0
  exact ⟨rfl, HE.out.1, (gb_bel ((Bel.refl w).alloc _)).trans HE.out.2⟩
theorem siK (n : Nat) (h2 : 2 ≤ n) : Lib.swapperK n ieI 2 = 5 := by
  have a : ieI.hasPointers = false := by kernel_rfl
  have b : ieI.bytes = 8 := by kernel_rfl
  have c : (n == 0) = false := by simp; omega
  have d : (n == 1) = false := by simp; omega
  simp [Lib.swapperK, a, b, c, d]
theorem bel_grow (w : World) (os : Array Obj) : Bel w (Sort.grow w os) := ⟨rfl, rfl, rfl, by rw [Sort.size_grow]; omega, fun k hk => Sort.heap_grow_old w os hk⟩
theorem sorted_tiny (ord : Int → Int) {l : List Int} (h : l.length ≤ 1) : sorted ord l = l := by
  match l, h with
  | [], _ => rfl
  | [x], _ => rfl
theorem sliceStable_c (x2 x5 base n : Nat) (v : Value) (l0 : List Int) (ord : Int → Int) (w : World) (hl : l0.length = n) (hn : n ≤ 12) (ho : w.ownsRow base 3 1 v n (VI l0)) (HL : ∀ blk cap, v = .slice (some ⟨blk, 0, none⟩) n cap → LessOk x2 x5 base blk n cap l0 ord w) :
    Calls Tryz.prog 61 #[.iface 48 v, .func (.func 62) #[] #[.pointer (some ⟨x2, 0, none⟩), .pointer (some ⟨x5, 0, none⟩)]] w
      fun e w' => e = .returned (.tuple #[]) ∧ w'.ownsRow base 3 1 v n (VI (sorted ord l0)) ∧ w.grownBy w' v.ownBlock := by
  rcases Nat.lt_or_ge n 2 with h2 | h2
  · obtain ⟨A, c, rfl, -, -, -, -⟩ := own_openC ho
    rw [sorted_tiny ord (by omega), hl]
    rw [hl] at ho
    match n, h2, ho with
    | 0, _, ho =>
      refine Calls.mono (Any.sort_SliceStable_tiny sl8 48 3 ieS ieI (by kernel_rfl) (by kernel_rfl) (by kernel_rfl) (by kernel_rfl) 2 (fun _ => by kernel_rfl) A 0 c (by omega) 94 (by kernel_rfl) (.func 62) #[] #[.pointer (some ⟨x2, 0, none⟩), .pointer (some ⟨x5, 0, none⟩)] w) ?_
      rintro e w' ⟨rfl, os, rfl⟩
      exact ⟨rfl, own_keep ho (bel_grow w os), ⟨(bel_grow w os).os, (bel_grow w os).tape, (bel_grow w os).output, (bel_grow w os).size, fun k hk _ => (bel_grow w os).block k hk⟩⟩
    | 1, _, ho =>
      refine Calls.mono (Any.sort_SliceStable_tiny sl8 48 3 ieS ieI (by kernel_rfl) (by kernel_rfl) (by kernel_rfl) (by kernel_rfl) 2 (fun _ => by kernel_rfl) A 1 c (by omega) 95 (by kernel_rfl) (.func 62) #[] #[.pointer (some ⟨x2, 0, none⟩), .pointer (some ⟨x5, 0, none⟩)] w) ?_
      rintro e w' ⟨rfl, os, rfl⟩
      exact ⟨rfl, own_keep ho (bel_grow w os), ⟨(bel_grow w os).os, (bel_grow w os).tape, (bel_grow w os).output, (bel_grow w os).size, fun k hk _ => (bel_grow w os).block k hk⟩⟩
  · obtain ⟨blk, cap, rfl⟩ : ∃ blk cap, v = .slice (some ⟨blk, 0, none⟩) n cap := by
      rcases ho.2 with ⟨_, h0⟩ | ⟨g, c, cur, h1, _⟩
      · omega
      · exact ⟨g, c, h1⟩
    have HL := HL blk cap rfl
    have hw : Bel w (stableWorld Tryz.prog sl8_ren 48 (some ⟨blk, 0, none⟩) n cap w) := ((Bel.refl w).alloc _).alloc _
    have hS := stable_c x2 x5 base blk n cap l0 ord _ hl (by omega) hn (own_keep ho hw) (HL.grown (gb_bel hw))
    have hsb : sliceBound Tryz.prog 3 ieI 2 (some ⟨blk, 0, none⟩) n cap = #[.slice (some ⟨blk, 0, none⟩) n cap, typeHandle Tryz.prog 3] := by
      unfold sliceBound
      rw [if_neg (swapperK_gt _ _ _ h2)]
    refine Any.sort_SliceStable_of_stable sl8 48 3 ieS ieI (by kernel_rfl) (by kernel_rfl) (by kernel_rfl) (by kernel_rfl) 2 (fun _ => by kernel_rfl) (some ⟨blk, 0, none⟩) n cap (by omega) 98 (by rw [siK _ h2]; kernel_rfl) (.func 62) #[] #[.pointer (some ⟨x2, 0, none⟩), .pointer (some ⟨x5, 0, none⟩)] w (fun w' => RowI w' base blk n cap (sorted ord l0) ∧ w.grownBy w' (some blk)) ?_
    rw [hsb]
    exact hS.mono fun e w' ⟨h0, h1, h2⟩ => ⟨h0, h1, (gb_bel hw).trans h2⟩
end Go.Proofs.YtkoljbndbomhdaaGreat
