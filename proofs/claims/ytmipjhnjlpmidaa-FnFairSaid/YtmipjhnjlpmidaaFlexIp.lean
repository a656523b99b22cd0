/- Flexing, the program's text: one pass. -/
import Derived.Test.YtmipjhnjlpmidaaFlexI
import Derived.Deep.CutRange
import Derived.Test.YtmipjhnjlpmidaaQTail
namespace Go.Proofs.Ytmipjhnjlpmidaa
open Go.RowKit Go.ChangeShapes Go.WideShapes Go.Sort
set_option linter.unusedVariables false
set_option linter.unusedSimpArgs false

set_option maxRecDepth 100000 in
set_option maxHeartbeats 8000000 in
theorem iPass_c {w0 w : World} {p : Nat} {A : Option Addr} {c : Nat} {L : List Rec} {gap inner : Int} {g : Bool} {H Z : Option Addr} {ch cz : Nat} (S : Fx) (ps : Nat) (hF : Fl w0 w p 5 4 A c L gap inner g H Z ch cz S.hd S.sz (ps : Int)) (hR : Recs w0 A k_item L) (hok : itemsOk L = true) (hps : ps ≤ 1048576) :
    Calls Try.prog 96 #[.pointer (some ⟨p, 0, none⟩)] w fun e w' =>
      (frees S.hd L.length = [] ∧ e = .returned (.bool false) ∧ Fl w0 w' p 5 4 A c L gap inner g H Z ch cz S.hd S.sz (ps : Int)) ∨
      (frees S.hd L.length ≠ [] ∧ e = .returned (.bool true) ∧ Fl w0 w' p 5 4 A c L gap inner g H Z ch cz (stepF L g gap inner S).hd (stepF L g gap inner S).sz ((ps : Int) + 1)) := by
  obtain ⟨h12, hit⟩ := itemsOk_at hok
  have HIT := Lib.hid hit
  have HOK := Lib.hid hok
  have HF := Lib.hid hF
  have hlt := hF.plt
  have c4 := hF.kz
  have c0 := hF.c0
  have HCP : Hid (Calls Try.prog 98 #[.slice Z L.length cz] w fun r w' => ∃ v, r = .returned v ∧ w'.ownsRow w.heap.size 3 1 v L.length (VI (rowOf L.length S.sz)) ∧ Bel w w') := hid' (by
    obtain ⟨A', c', e, -, -, hA', hI⟩ := own_openC hF.zo
    rw [rowOf_length] at e
    injection e with e1 _ e3
    subst e1 e3
    have := copyIntsF_c Z cz (rowOf L.length S.sz) w hI hA' (by rw [rowOf_length]; omega)
    rw [rowOf_length] at this
    exact this)
  clear hF hit hok
  go_enter Try.func96, Try.ntmps96
  go_wp2_with fail
  refine HCP.out.mono ?_; rintro e w1 ⟨vz, rfl, hz1, hb1⟩
  obtain ⟨Z2, c2, rfl⟩ := own_slice hz1
  have hz2lt : ∀ q, (Value.slice Z2 L.length c2).ownBlock = some q → q < w1.heap.size := fun q e => (hz1.lt q e).2
  have c0 := (hb1.cell _ _ hlt).trans c0
  clear c4 HCP
  go_wp2_with fail
  go_loopw [3, 5, 35] (fun v s i wr => ∃ (k : Nat), k ≤ L.length ∧ i = .int .i64 k ∧ s = .int .i64 (wts L g (frees S.hd k)).sum ∧ wr.ownsRow w1.heap.size 3 1 v (frees S.hd k).length (VI (natL (frees S.hd k))) ∧ wr.ownsRow w.heap.size 3 1 (.slice Z2 L.length c2) L.length (VI (rowOf L.length (fun j => if j < k then baseSz L S j else S.sz j))) ∧ Bel w wr ∧ w1.heap.size ≤ wr.heap.size) (fun _ _ i _ => L.length - (intOf i).toNat)
  case atStart => exact ⟨0, Nat.zero_le _, by go_num, rfl, own_nil _ _ _, by rw [rowOf_ext (f' := S.sz) (fun i _ => by rw [if_neg (by omega)])]; exact hz1, hb1, Nat.le_refl _⟩
  case round =>
    obtain ⟨k, hk, rfl, rfl, hv, hs, hb, hsz⟩ := hrel
    have HFr := hid' (HF.out.keep hb)
    have hlr := HFr.out.plt
    by_cases hkl : k < L.length
    · as_aux_lemma =>
        obtain ⟨gh, gz, hrow⟩ := HFr.out.row (by omega)
        have k5 := HFr.out.kh
        rw [hrow.eh] at k5
        have ck := hrow.hc k hkl
        have hglt := hrow.hlt
        obtain ⟨b, o, rfl, hbl0, hc0⟩ := hR k hkl
        have hbl := Nat.lt_of_lt_of_le hbl0 HFr.out.bel.sz
        have hc := fun i' hi' j v hv => (HFr.out.bel.cell _ _ hbl0).trans (hc0 i' hi' j v hv)
        obtain ⟨x0, x1, x2, x3, x4, x5, x6, x7, x8⟩ := item_cells hc hkl
        have hki : (k : Int) < (L.length : Int) := by omega
        obtain ⟨gs, ds, hse⟩ := own_posM hs (by omega)
        injection hse with hse1 _ hse3
        subst hse1 hse3
        have hgs := hz2lt gs rfl
        clear hc hc0
        cases hd : S.hd k
        · rw [hd] at ck
          have HD := Lib.hid hd
          have HS := Lib.hid (frees_push hd)
          have HBS : Hid (baseSz L S k = (rec_ L k).s 0) := hid' (by rw [baseSz, if_neg (by rw [hd]; simp)])
          have hall := all_bd g HOK.out S.hd hk
          have hw1 := wt_bd g (HIT.out k hkl)
          have hfl := frees_le S.hd k
          clear hd hrow
          have HA1 := hid' ((Bel.refl wr).alloc (.cells (rcells k_item (rec_ L k)).toArray 48))
          have HV := Lib.hid hv
          have HSz := Lib.hid hs
          have c3 := HFr.out.c3
          have hplt := hlt
          have hww1 := hb1.sz
          clear hv hs
          go_wp2_with (at_builtin; refine app1w rfl (.tmp 48) (.tmp 50) rfl w1.heap.size _ _ _ rfl ((HV.out.alloc (.cells (rcells k_item (rec_ L k)).toArray 48)).alloc (.cells #[.int .i64 (k : Int)] 3)) _ _ rfl (new_at (by simp)) (by omega) (by simp; omega) ?_
                       intro v2 w2 hv2 hg2 hl2
                       have hvlt := fun q e => (HV.out.lt q e)
                       have hBA : Bel wr ((wr.alloc (.cells (rcells k_item (rec_ L k)).toArray 48)).alloc (.cells #[.int .i64 (k : Int)] 3)) := ((Bel.refl wr).alloc _).alloc _
                       have hX : ∀ j v, (rcells k_item (rec_ L k))[j]? = some v → w2.cell? ⟨wr.heap.size, j, none⟩ = some v := fun j v hv => hg2.cell ((((Bel.refl (wr.alloc (.cells (rcells k_item (rec_ L k)).toArray 48))).alloc (.cells #[.int .i64 (k : Int)] 3)).cell _ j (by simp)).trans (new_cells wr _ _ j v hv)) (fun e => absurd (hvlt _ e.symm).2 (Nat.lt_irrefl _))
                       have hs2 := ((HSz.out.alloc (.cells (rcells k_item (rec_ L k)).toArray 48)).alloc (.cells #[.int .i64 (k : Int)] 3)).kept hg2 (Or.inr (fun e => by have := (hvlt gs e.symm).1; omega))
                       have hPC : ∀ o, w2.cell? ⟨p, o, none⟩ = wr.cell? ⟨p, o, none⟩ := fun o => (World.cell?_of_block (hg2.block p (Nat.lt_of_lt_of_le hlr hBA.sz) (fun e => by have := (hvlt _ e.symm).1; omega))).trans (hBA.cell _ o hlr)
                       have hb2 := (hb.trans hBA).grown hg2 (fun q e => by have := (hvlt q e).1; omega)
                       have hsz2 : wr.heap.size < w2.heap.size := Nat.lt_of_lt_of_le (by simp; omega) hg2.size
                       have y0 := hX 0 _ rfl
                       have z0 : w2.cell? ⟨gs, k, none⟩ = some (.int .i64 (S.sz k)) := by rw [hs2.cellAt k (by omega), VI_at (by rw [rowOf_length]; exact hkl), rowOf_at hkl, if_neg (by omega)]
                       have zf := hs2.frozenAt k
                       have HS2 := Lib.hid hs2
                       have HV2 := Lib.hid hv2
                       have HX := Lib.hid hX
                       have HPC := Lib.hid hPC
                       have HB2 := Lib.hid hb2
                       clear hX hPC hb2 hs2 hv2 hg2 hl2 hvlt hBA ck k5)
          obtain ⟨wa, hwa⟩ : ∃ wa, w2.setCell ⟨gs, k, none⟩ (.int .i64 ((rec_ L k).s 0)) = wa := ⟨_, rfl⟩
          have HSa : Hid (wa.ownsRow w.heap.size 3 1 (.slice (some ⟨gs, 0, none⟩) L.length c2) L.length (VI (rowOf L.length (fun j => if j < k + 1 then baseSz L S j else S.sz j)))) := hid' (by
            rw [← hwa]
            have := own_setZ HS2.out rfl hkl ((rec_ L k).s 0)
            rw [rowOf_ext (f' := fun j => if j < k + 1 then baseSz L S j else S.sz j) (fun i _ => by { by_cases e : i = k; · { subst e; rw [if_pos rfl, if_pos (by omega)]; exact HBS.out.symm }; · { by_cases e2 : i < k; · { rw [if_neg e, if_pos e2, if_pos (by omega)] }; · { rw [if_neg e, if_neg e2, if_neg (by omega)] } } })] at this
            exact this)
          have HVa := hid' (own_set (p := gs) (o := k) (x := .int .i64 ((rec_ L k).s 0)) HV2.out hgs)
          have HBa := hid' (HB2.out.setCell (p := ⟨gs, k, none⟩) (HSz.out.lt gs rfl).1 (.int .i64 ((rec_ L k).s 0)))
          have HXa : Hid (∀ u, Bel wa u → u.cell? ⟨wr.heap.size, 0, none⟩ = some (.int .i64 ((rec_ L k).s 0)) ∧ u.cell? ⟨wr.heap.size, 1, none⟩ = some (.int .i64 ((rec_ L k).s 1)) ∧ u.cell? ⟨wr.heap.size, 2, none⟩ = some (.int .i64 ((rec_ L k).s 2)) ∧ u.cell? ⟨wr.heap.size, 3, none⟩ = some (.int .i64 ((rec_ L k).s 3)) ∧ u.cell? ⟨wr.heap.size, 4, none⟩ = some (.int .i64 ((rec_ L k).s 4)) ∧ u.cell? ⟨wr.heap.size, 5, none⟩ = some (.int .i64 ((rec_ L k).s 5)) ∧ u.cell? ⟨wr.heap.size, 6, none⟩ = some (.int .i64 ((rec_ L k).s 6)) ∧ u.cell? ⟨wr.heap.size, 7, none⟩ = some (.bool ((rec_ L k).b 7)) ∧ u.cell? ⟨wr.heap.size, 8, none⟩ = some (.bool ((rec_ L k).b 8)) ∧ u.cell? ⟨p, 3, none⟩ = some (.bool g)) := hid' (fun u hu => by
            have hl : wr.heap.size < wa.heap.size := by rw [← hwa]; simpa using hsz2
            have hgw := (HSz.out.lt gs rfl)
            have hn : ∀ j v, (rcells k_item (rec_ L k))[j]? = some v → u.cell? ⟨wr.heap.size, j, none⟩ = some v := fun j v hv => by
              rw [hu.cell _ _ hl, ← hwa, cell_set_off (by omega)]
              exact HX.out j v hv
            refine ⟨hn 0 _ rfl, hn 1 _ rfl, hn 2 _ rfl, hn 3 _ rfl, hn 4 _ rfl, hn 5 _ rfl, hn 6 _ rfl, hn 7 _ rfl, hn 8 _ rfl, ?_⟩
            rw [hu.cell _ _ (by omega), ← hwa, cell_set_off (by omega), HPC.out]
            exact c3)
          rw [hwa] at HVa HBa ⊢
          have hsza : w1.heap.size ≤ wa.heap.size := by rw [← hwa]; simp; omega
          clear hwa y0 z0 zf
          have hd0 : Bel wa wa.drew := (Bel.refl wa).drew
          go_region_held3 (fun u => u.cell? ⟨wr.heap.size, 0, none⟩ = some (.int .i64 ((rec_ L k).s 0)) ∧ u.cell? ⟨wr.heap.size, 1, none⟩ = some (.int .i64 ((rec_ L k).s 1)) ∧ u.cell? ⟨wr.heap.size, 2, none⟩ = some (.int .i64 ((rec_ L k).s 2)) ∧ u.cell? ⟨wr.heap.size, 3, none⟩ = some (.int .i64 ((rec_ L k).s 3)) ∧ u.cell? ⟨wr.heap.size, 4, none⟩ = some (.int .i64 ((rec_ L k).s 4)) ∧ u.cell? ⟨wr.heap.size, 5, none⟩ = some (.int .i64 ((rec_ L k).s 5)) ∧ u.cell? ⟨wr.heap.size, 6, none⟩ = some (.int .i64 ((rec_ L k).s 6)) ∧ u.cell? ⟨wr.heap.size, 7, none⟩ = some (.bool ((rec_ L k).b 7)) ∧ u.cell? ⟨wr.heap.size, 8, none⟩ = some (.bool ((rec_ L k).b 8)) ∧ u.cell? ⟨p, 3, none⟩ = some (.bool g))
            ((with_reducible first | exact HXa.out _ hbw | exact HXa.out _ hd0))
            (first | (go_at_call 95; refine (iWeight_c (HIT.out k hkl) g _).mono ?_; rintro e w5 ⟨rfl, hb5⟩; have hbw := hd0.trans hb5))
          go_wp2_with fail
          go_roundw
          case rel =>
            refine ⟨k + 1, by omega, by go_num, ?_, ?_, own_keep HSa.out hbw, HBa.out.trans hbw, Nat.le_trans hsza hbw.sz⟩
            · rw [HS.out, wts_push, List.sum_append]; simp; exact IntWalk.i64_in _ (by omega)
            · rw [HS.out, natL_push, ← VI_snoc, List.length_append]; exact own_keep HVa.out hbw
          case measure => simp [intOf]; omega
        · rw [hd] at ck
          have HS := Lib.hid (frees_skip hd)
          have HBS : Hid (baseSz L S k = S.sz k) := hid' (by rw [baseSz, if_pos hd])
          clear hd hrow
          go_wp2_with fail
          go_roundw
          case rel => exact ⟨k + 1, by omega, by go_num, by rw [HS.out], by rw [HS.out]; exact hv.alloc _, by rw [rowOf_ext (f' := fun j => if j < k then baseSz L S j else S.sz j) (fun i _ => by { by_cases e : i = k; · { rw [e, if_pos (by omega), if_neg (by omega)]; exact HBS.out }; · { by_cases e2 : i < k; · { rw [if_pos (by omega), if_pos e2] }; · { rw [if_neg (by omega), if_neg e2] } } })]; exact hs.alloc _, hb.alloc _, Nat.le_trans hsz ((Bel.refl wr).alloc _).sz⟩
          case measure => simp [intOf]; omega
    · obtain rfl : k = L.length := by omega
      rw [rowOf_ext (f' := baseSz L S) (fun i hi => by rw [if_pos hi])] at hs
      obtain ⟨m, hm⟩ : ∃ m, (frees S.hd L.length).length = m := ⟨_, rfl⟩
      have HM := Lib.hid hm
      have hm12 : m ≤ 12 := by have := frees_le S.hd L.length; omega
      rw [hm] at hv
      obtain ⟨Q, cq, rfl, -, -, -, hQ⟩ := own_openM hv
      by_cases hm0 : m = 0
      · have hmi : (m : Int) = 0 := by omega
        go_wp2_with fail
        go_ret
        exact .inl ⟨List.eq_nil_of_length_eq_zero (by omega), rfl, HFr.out⟩
      · have hmi : ¬ (m : Int) = 0 := by omega
        have c6 := HFr.out.c6
        have f6 := HFr.out.f6
        have hp1 : (ps : Int) ≤ 1048576 := by omega
        have hww1 := hb1.sz
        obtain ⟨W5, hW5⟩ : ∃ W5, wr.setCell ⟨p, 6, none⟩ (.int .i64 ((ps : Int) + 1)) = W5 := ⟨_, rfl⟩
        have HF5 := hid' (HFr.out.tick (by omega) (by omega) ((ps : Int) + 1))
        have hv5 := own_set (p := p) (o := 6) (x := .int .i64 ((ps : Int) + 1)) hv (by omega)
        have hs5 := own_set (p := p) (o := 6) (x := .int .i64 ((ps : Int) + 1)) hs hlt
        have hsz5 : wr.heap.size = (wr.setCell ⟨p, 6, none⟩ (.int .i64 ((ps : Int) + 1))).heap.size := by simp
        rw [hW5] at HF5 hv5 hs5 hsz5
        have HU5 := Lib.hid hv5
        have HS5 := Lib.hid hs5
        have HSZ5 := Lib.hid hsz5
        have hl5 := HF5.out.plt
        have HO : Hid (∀ u, Bel W5 u → Calls Try.prog 51 #[.slice A L.length c, .slice Z2 L.length c2, .int .i64 gap] u fun r w' => r = .returned (.int .i64 (outerOf L (rowOf L.length (baseSz L S)) gap)) ∧ Bel u w') := hid' (fun u hu => by
          have h0 := iOuterOf_c A c L Z2 c2 (rowOf L.length (baseSz L S)) gap u ((hR.keep HF5.out.bel).keep hu) ((own_ints hs5).keep hu) (by omega) (by rw [rowOf_length]; omega)
          rw [rowOf_length] at h0
          exact h0)
        have HSS : Hid (∀ u, Bel W5 u → u.cell? ⟨p, 0, none⟩ = some (.slice A L.length c) ∧ u.cell? ⟨p, 1, none⟩ = some (.int .i64 gap) ∧ u.cell? ⟨p, 2, none⟩ = some (.int .i64 inner)) := hid' (fun u hu => ⟨(hu.cell _ _ hl5).trans HF5.out.c0, (hu.cell _ _ hl5).trans HF5.out.c1, (hu.cell _ _ hl5).trans HF5.out.c2⟩)
        obtain ⟨r, hr⟩ : ∃ r, wrap64 (inner - outerOf L (rowOf L.length (baseSz L S)) gap) = r := ⟨_, rfl⟩
        have HRS : Hid (restOf L g gap inner S = signed (clip g r)) := hid' (by unfold restOf; rw [hr])
        clear hv5 hs5 hsz5 hv hs hQ hm hz1
        go_wp2_with fail
        (try rw [hW5])
        clear hW5 c6 f6 c0
        have hd0 : Bel W5 W5.drew := (Bel.refl W5).drew
        go_region_held3 (fun u => u.cell? ⟨p, 0, none⟩ = some (.slice A L.length c) ∧ u.cell? ⟨p, 1, none⟩ = some (.int .i64 gap) ∧ u.cell? ⟨p, 2, none⟩ = some (.int .i64 inner))
          ((with_reducible first | exact HSS.out _ hbw | exact HSS.out _ hd0))
          (first | (go_at_call 51; refine (HO.out _ hd0).mono ?_; rintro e w6 ⟨rfl, hb6⟩; have hbw := hd0.trans hb6))
        have d3 := (hbw.cell _ 3 hl5).trans HF5.out.c3
        have hr2 : IntKind.i64.wrap (inner - outerOf L (rowOf L.length (baseSz L S)) gap) = r := (IntWalk.i64_left _).trans hr
        rw [hr2]
        clear hr hr2 HO
        go_upto_region 16 with fail
        obtain ⟨cd, hcd⟩ : ∃ cd, ((g && decide (r < 0)) || (!g && decide (0 < r))) = cd := ⟨_, rfl⟩
        have HCD := Lib.hid hcd
        have HC1 : Hid (cd = true → clip g r = 0) := hid' (fun e => by rw [← hcd] at e; unfold clip; rw [if_pos (by cases g <;> simp at e ⊢ <;> omega)])
        have HC2 : Hid (cd = false → clip g r = r) := hid' (fun e => by rw [← hcd] at e; unfold clip; rw [if_neg (by cases g <;> simp at e ⊢ <;> omega)])
        clear hcd
        go_cut [109] from 91 (fun s wx => s = .bool cd ∧ wx = w6)
        case first =>
          cases g
          · by_cases h0 : 0 < r
            · go_wp2_with fail
              go_meet
              exact ⟨by (rw [← HCD.out]; simp [h0]), rfl⟩
            · go_wp2_with fail
              go_meet
              exact ⟨by (rw [← HCD.out]; simp [h0]; try omega), rfl⟩
          · by_cases h0 : r < 0
            · go_wp2_with fail
              go_meet
              exact ⟨by (rw [← HCD.out]; simp [h0]), rfl⟩
            · go_wp2_with fail
              go_meet
              exact ⟨by (rw [← HCD.out]; simp [h0]; try omega), rfl⟩
        case rest =>
        obtain ⟨rfl, rfl⟩ := hcut
        go_upto_if 109 with fail
        go_cut [8] from 110 (fun s wx => s = .int .i64 (clip g r) ∧ wx = wc)
        case first =>
          cases cd
          · have e := HC2.out rfl
            go_wp2_with fail
            go_meet
            exact ⟨by (show Value.int .i64 r = _; rw [e]), rfl⟩
          · have e := HC1.out rfl
            go_wp2_with fail
            go_meet
            exact ⟨by (show Value.int .i64 0 = _; rw [e]), rfl⟩
        case rest =>
        obtain ⟨rfl, rfl⟩ := hcut
        go_wp2_with (go_at_call 105; refine (isigned_c _ _).mono ?_; rintro e w' ⟨rfl, rfl⟩)
        obtain ⟨al, hal⟩ : ∃ al, (wts L g (frees S.hd L.length)).sum = al := ⟨_, rfl⟩
        obtain ⟨rs, hrs⟩ : ∃ rs, signed (clip g r) = rs := ⟨_, rfl⟩
        have hab : 0 ≤ al ∧ al ≤ 12582912000 := by rw [← hal]; exact all_bd g HOK.out S.hd (Nat.le_refl _)
        have hrb : -1048576 ≤ rs ∧ rs ≤ 1048576 := by rw [← hrs]; exact signed_bd _
        have HST : Hid (stepOv L g gap inner S = overAt L g al rs) := hid' (by unfold stepOv allW; rw [hal, HRS.out, hrs])
        have HSH : Hid (stepSh L g gap inner S = shares rs (wts L g (frees S.hd L.length))) := hid' (by unfold stepSh; rw [HRS.out, hrs])
        rw [hal, hrs]
        clear hal hrs HSS d3 hd0
        have HB6 := Lib.hid hbw
        obtain ⟨w6, hw6⟩ : ∃ w6, w6 = wc := ⟨_, rfl⟩
        rw [← hw6] at HB6 hbw ⊢
        clear hw6 hbw
        go_loopw [9, 10, 11, 12, 114] (fun lo hi q wv i wr => ∃ (k : Nat), k ≤ m ∧ i = .int .i64 k ∧ q = .int .i64 (vioTo (overAt L g al rs) (frees S.hd L.length) k) ∧
          wr.ownsRow w6.heap.size 3 1 lo (lows (overAt L g al rs) ((frees S.hd L.length).take k)).length (VI (natL (lows (overAt L g al rs) ((frees S.hd L.length).take k)))) ∧
          wr.ownsRow w6.heap.size 3 1 hi (highs (overAt L g al rs) ((frees S.hd L.length).take k)).length (VI (natL (highs (overAt L g al rs) ((frees S.hd L.length).take k)))) ∧
          wr.ownsRow w6.heap.size 3 1 wv k (VI (wts L g ((frees S.hd L.length).take k))) ∧ (Off lo hi ∧ Off hi lo) ∧ (Off lo wv ∧ Off wv lo) ∧ (Off hi wv ∧ Off wv hi) ∧ Bel w6 wr) (fun _ _ _ _ i _ => m - (intOf i).toNat)
        case atStart => exact ⟨0, Nat.zero_le _, by go_num, by simp [vioTo, vioOf], own_nil _ _ _, own_nil _ _ _, own_nil _ _ _, ⟨.inl rfl, .inl rfl⟩, ⟨.inl rfl, .inl rfl⟩, ⟨.inl rfl, .inl rfl⟩, Bel.refl _⟩
        case round =>
          obtain ⟨k, hk, rfl, rfl, hlo, hhi, hwv, ho1, ho2, ho3, hbq⟩ := hrel
          by_cases hkm : k < m
          · as_aux_lemma =>
              have hkf : k < (frees S.hd L.length).length := by rw [HM.out]; exact hkm
              obtain ⟨il, ihd⟩ := fr_mem hkf
              have hb5q := HB6.out.trans hbq
              have HFq := hid' (HF5.out.keep hb5q)
              have c0 := HFq.out.c0
              have c3 := HFq.out.c3
              obtain ⟨gq, dq, hqe⟩ := own_posM HU5.out (by omega)
              injection hqe with hqe1 _ hqe3
              subst hqe1 hqe3
              have cq1 := (own_keep HU5.out hb5q).cellAt k (by omega)
              rw [VI_at (by rw [natL_length]; exact hkf), natL_fr hkf] at cq1
              obtain ⟨b, o, rfl, hbl0, hc0⟩ := hR _ il
              have hbl := Nat.lt_of_lt_of_le hbl0 HFq.out.bel.sz
              have hc := fun i' hi' j v hv => (HFq.out.bel.cell _ _ hbl0).trans (hc0 i' hi' j v hv)
              obtain ⟨x0, x1, x2, x3, x4, x5, x6, x7, x8⟩ := item_cells hc il
              obtain ⟨f1, f2, f3, f4, f5, f6⟩ := over_facts (g := g) HOK.out hab hrb il
              have HIX := Lib.hid (HIT.out _ il)
              have HTK := Lib.hid (take_fr hkf)
              have HVS := Lib.hid (vioTo_succ (ov := overAt L g al rs) hkf)
              have hvb := vioTo_bd HOK.out hab hrb S.hd k (g := g)
              clear hc hc0
              generalize hix : fr S.hd L.length k = ix at *
              have hki : (k : Int) < (m : Int) := by omega
              have hil : (ix : Int) < (L.length : Int) := by omega
              have hlol : (lows (overAt L g al rs) ((frees S.hd L.length).take k)).length ≤ 12 := Nat.le_trans (List.length_filter_le _ _) (by rw [List.length_take]; have := HM.out; omega)
              have hhil : (highs (overAt L g al rs) ((frees S.hd L.length).take k)).length ≤ 12 := Nat.le_trans (List.length_filter_le _ _) (by rw [List.length_take]; have := HM.out; omega)
              have hpl := HFq.out.plt
              have HLO := Lib.hid hlo
              have HHI := Lib.hid hhi
              have HWV := Lib.hid hwv
              clear hlo hhi hwv hix
              go_wp2_with fail
              obtain ⟨gx, hgx⟩ : ∃ gx, wr.heap.size = gx := ⟨_, rfl⟩
              have HBA : Hid (Bel wr (wr.alloc (.cells (rcells k_item (rec_ L ix)).toArray 48))) := hid' ((Bel.refl wr).alloc _)
              have hFXA := FX.new wr (rec_ L ix)
              have hgxa : gx < (wr.alloc (.cells (rcells k_item (rec_ L ix)).toArray 48)).heap.size := by simp; omega
              have HWVL : Hid (∀ q, Value.ownBlock _ = some q → q < gx) := hid' (fun q e => by have := (HWV.out.lt q e).2; omega)
              have HLOL : Hid (∀ q, Value.ownBlock _ = some q → q < gx) := hid' (fun q e => by have := (HLO.out.lt q e).2; omega)
              have HHIL : Hid (∀ q, Value.ownBlock _ = some q → q < gx) := hid' (fun q e => by have := (HHI.out.lt q e).2; omega)
              rw [hgx] at hFXA ⊢
              obtain ⟨wa, hwa⟩ : ∃ wa, wa = wr.alloc (.cells (rcells k_item (rec_ L ix)).toArray 48) := ⟨_, rfl⟩
              have HWE : Hid (wr.alloc (.cells #[.int .i64 ((rec_ L ix).s 0), .int .i64 ((rec_ L ix).s 1), .int .i64 ((rec_ L ix).s 2), .int .i64 ((rec_ L ix).s 3), .int .i64 ((rec_ L ix).s 4), .int .i64 ((rec_ L ix).s 5), .int .i64 ((rec_ L ix).s 6), .bool ((rec_ L ix).b 7), .bool ((rec_ L ix).b 8)] 48) = wa) := hid' hwa.symm
              rw [HWE.out]
              rw [← hwa] at HBA hFXA hgxa
              have HFXA := Lib.hid hFXA
              have y0 := hFXA 0 _ rfl
              have y1 := hFXA 1 _ rfl
              have y2 := hFXA 2 _ rfl
              have y3 := hFXA 3 _ rfl
              have y4 := hFXA 4 _ rfl
              have y5 := hFXA 5 _ rfl
              have y6 := hFXA 6 _ rfl
              have y7 := hFXA 7 _ rfl
              have y8 := hFXA 8 _ rfl
              have c3 := (HBA.out.cell _ _ hpl).trans c3
              clear hFXA HWE hwa x0 x1 x2 x3 x4 x5 x6 x7 x8 c0 cq1
              go_still_tail 5, (by kernel_rfl)
              go_wp2_with fail
              refine (iWeight_c HIX.out g _).mono ?_; rintro e w7 ⟨rfl, hb7⟩
              have hba7 := (Bel.refl wa).drew.trans hb7
              have HB7 := hid' ((hbq.trans HBA.out).trans hba7)
              have HFX7 := hid' (HFXA.out.bel hba7 hgxa)
              have hgx7 : gx < w7.heap.size := Nat.lt_of_lt_of_le hgxa hba7.sz
              have HLO7 := hid' (own_keep HLO.out (HBA.out.trans hba7))
              have HHI7 := hid' (own_keep HHI.out (HBA.out.trans hba7))
              have HWV7 := hid' (own_keep HWV.out (HBA.out.trans hba7))
              have hs67 : w6.heap.size ≤ w7.heap.size := HB7.out.sz
              clear y0 y1 y2 y3 y4 y5 y6 y7 y8 c3 hb7 hba7
              have HOV : Hid (overAt L g al rs ix = if aimOf L g al rs ix < (rec_ L ix).s 1 * al then (rec_ L ix).s 1 * al - aimOf L g al rs ix else if 0 ≤ (rec_ L ix).s 2 ∧ upR (rec_ L ix) * al < aimOf L g al rs ix then upR (rec_ L ix) * al - aimOf L g al rs ix else 0) := hid' rfl
              unfold aimOf at HOV
              obtain ⟨wi, hwi⟩ : ∃ a, wt L g ix = a := ⟨_, rfl⟩
              have HWI := Lib.hid hwi
              rw [hwi] at HOV f2 f6 ⊢
              clear hwi
              obtain ⟨a0, ha0⟩ : ∃ a, (rec_ L ix).s 0 * al = a := ⟨_, rfl⟩
              obtain ⟨a1, ha1⟩ : ∃ a, (rec_ L ix).s 1 * al = a := ⟨_, rfl⟩
              obtain ⟨aw, haw⟩ : ∃ a, rs * wi = a := ⟨_, rfl⟩
              obtain ⟨au, hau⟩ : ∃ a, upR (rec_ L ix) * al = a := ⟨_, rfl⟩
              rw [ha0, ha1, haw, hau] at HOV
              rw [ha0] at f1
              rw [haw] at f2
              rw [ha1] at f3
              rw [hau] at f4
              obtain ⟨oi, hoi⟩ : ∃ v, overAt L g al rs ix = v := ⟨_, rfl⟩
              have HOI := Lib.hid hoi
              rw [hoi] at f5 HOV HVS
              clear hoi
              obtain ⟨vo, hvo⟩ : ∃ v, vioTo (overAt L g al rs) (frees S.hd L.length) k = v := ⟨_, rfl⟩
              rw [hvo] at hvb HVS ⊢
              clear hvo
              have HLP : Hid (lows (overAt L g al rs) ((frees S.hd L.length).take (k + 1)) = lows (overAt L g al rs) ((frees S.hd L.length).take k) ++ (if 0 < oi then [ix] else [])) := hid' (by rw [HTK.out, lows_push, HOI.out])
              have HHP : Hid (highs (overAt L g al rs) ((frees S.hd L.length).take (k + 1)) = highs (overAt L g al rs) ((frees S.hd L.length).take k) ++ (if oi < 0 then [ix] else [])) := hid' (by rw [HTK.out, highs_push, HOI.out])
              have HWP : Hid (VI (wts L g ((frees S.hd L.length).take (k + 1))) = VI (wts L g ((frees S.hd L.length).take k)) ++ [.int .i64 wi]) := hid' (by rw [HTK.out, wts_push, ← VI_snoc, HWI.out])
              by_cases h1 : a0 + aw < a1
              · have HO2 := hid' (HOV.out.trans (if_pos h1))
                go_wp2_with (first
                  | (at_builtin; refine app1w rfl (.tmp 131) (.tmp 133) rfl w6.heap.size _ k _ rfl (HWV7.out.alloc _) w7.heap.size _ rfl (World.cell?_alloc_new _ _ _ _) (by omega) (Nat.le_trans hs67 ((Bel.refl w7).alloc (.cells #[.int .i64 wi] 3)).sz) ?_
                     intro wv' w8 hwv8 hg8 hl8
                     have HLO8 := hid' ((HLO7.out.alloc (.cells #[.int .i64 wi] 3)).kept hg8 ho2.1)
                     have HHI8 := hid' ((HHI7.out.alloc (.cells #[.int .i64 wi] 3)).kept hg8 ho3.1)
                     have HWV8 := Lib.hid hwv8
                     have o2 := Off.grow ho2.2 ho2.1 (HLO7.out.alloc (.cells #[.int .i64 wi] 3)) hl8
                     have o3 := Off.grow ho3.2 ho3.1 (HHI7.out.alloc (.cells #[.int .i64 wi] 3)) hl8
                     have HFX8 := hid' ((HFX7.out.bel ((Bel.refl w7).alloc (.cells #[.int .i64 wi] 3)) hgx7).grown hg8 (fun e => by have := (HWVL.out _ e.symm); omega))
                     have HB8 := hid' ((HB7.out.alloc (.cells #[.int .i64 wi] 3)).grown hg8 (fun q e => (HWV7.out.lt q e).1))
                     have hgx8 : gx < w8.heap.size := Nat.lt_of_lt_of_le hgx7 (Nat.le_trans ((Bel.refl w7).alloc (.cells #[.int .i64 wi] 3)).sz hg8.size)
                     have hs68 : w6.heap.size ≤ w8.heap.size := HB8.out.sz
                     have v0 := HFX8.out 0 _ rfl
                     have v1 := HFX8.out 1 _ rfl
                     have v2 := HFX8.out 2 _ rfl
                     have v3 := HFX8.out 3 _ rfl
                     have v4 := HFX8.out 4 _ rfl
                     have v5 := HFX8.out 5 _ rfl
                     have v6 := HFX8.out 6 _ rfl
                     have v7 := HFX8.out 7 _ rfl
                     have v8 := HFX8.out 8 _ rfl
                     clear hwv8 hg8 hl8)
                  | (at_builtin; refine app1w rfl (.tmp 150) (.tmp 152) rfl w6.heap.size _ _ _ rfl (HLO8.out.alloc _) w8.heap.size _ rfl (World.cell?_alloc_new _ _ _ _) (by omega) (Nat.le_trans hs68 ((Bel.refl w8).alloc (.cells #[.int .i64 (ix : Int)] 3)).sz) ?_
                     intro lo' w9 hlo9 hg9 hl9
                     have HWV9 := hid' ((HWV8.out.alloc (.cells #[.int .i64 (ix : Int)] 3)).kept hg9 o2.1)
                     have HHI9 := hid' ((HHI8.out.alloc (.cells #[.int .i64 (ix : Int)] 3)).kept hg9 ho1.2)
                     have HLO9 := Lib.hid hlo9
                     have p1 := Off.grow ho1.1 ho1.2 (HHI8.out.alloc (.cells #[.int .i64 (ix : Int)] 3)) hl9
                     have p2 := Off.grow o2.2 o2.1 (HWV8.out.alloc (.cells #[.int .i64 (ix : Int)] 3)) hl9
                     have HFX9 := hid' ((HFX8.out.bel ((Bel.refl w8).alloc (.cells #[.int .i64 (ix : Int)] 3)) hgx8).grown hg9 (fun e => by have := (HLOL.out _ e.symm); omega))
                     have HB9 := hid' ((HB8.out.alloc (.cells #[.int .i64 (ix : Int)] 3)).grown hg9 (fun q e => (HLO8.out.lt q e).1))
                     clear v0 v1 v2 v3 v4 v5 v6 v7 v8
                     have v0 := HFX9.out 0 _ rfl
                     have v1 := HFX9.out 1 _ rfl
                     clear hlo9 hg9 hl9))
                go_roundw
                case rel =>
                  have hpos : 0 < oi := by have := HO2.out; omega
                  refine ⟨k + 1, by omega, by go_num, ?_, ?_, ?_, ?_, ⟨p1.1, p1.2⟩, ⟨p2.1, p2.2⟩, ⟨o3.2, o3.1⟩, HB9.out⟩
                  · rw [HVS.out, HO2.out]
                  · rw [HLP.out, if_pos hpos, natL_push, ← VI_snoc, List.length_append]; exact HLO9.out
                  · rw [HHP.out, if_neg (by omega), List.append_nil]; exact HHI9.out
                  · rw [HWP.out]; exact HWV9.out
                case measure => simp [intOf]; omega
              · by_cases h2 : 0 ≤ (rec_ L ix).s 2
                · have HUU := Lib.hid h2
                  go_wp2_with (first
                    | (at_builtin; refine app1w rfl (.tmp 131) (.tmp 133) rfl w6.heap.size _ k _ rfl (HWV7.out.alloc _) w7.heap.size _ rfl (World.cell?_alloc_new _ _ _ _) (by omega) (Nat.le_trans hs67 ((Bel.refl w7).alloc (.cells #[.int .i64 wi] 3)).sz) ?_
                       intro wv' w8 hwv8 hg8 hl8
                       have HLO8 := hid' ((HLO7.out.alloc (.cells #[.int .i64 wi] 3)).kept hg8 ho2.1)
                       have HHI8 := hid' ((HHI7.out.alloc (.cells #[.int .i64 wi] 3)).kept hg8 ho3.1)
                       have HWV8 := Lib.hid hwv8
                       have o2 := Off.grow ho2.2 ho2.1 (HLO7.out.alloc (.cells #[.int .i64 wi] 3)) hl8
                       have o3 := Off.grow ho3.2 ho3.1 (HHI7.out.alloc (.cells #[.int .i64 wi] 3)) hl8
                       have HFX8 := hid' ((HFX7.out.bel ((Bel.refl w7).alloc (.cells #[.int .i64 wi] 3)) hgx7).grown hg8 (fun e => by have := (HWVL.out _ e.symm); omega))
                       have HB8 := hid' ((HB7.out.alloc (.cells #[.int .i64 wi] 3)).grown hg8 (fun q e => (HWV7.out.lt q e).1))
                       have hgx8 : gx < w8.heap.size := Nat.lt_of_lt_of_le hgx7 (Nat.le_trans ((Bel.refl w7).alloc (.cells #[.int .i64 wi] 3)).sz hg8.size)
                       have hs68 : w6.heap.size ≤ w8.heap.size := HB8.out.sz
                       have v0 := HFX8.out 0 _ rfl
                       have v1 := HFX8.out 1 _ rfl
                       have v2 := HFX8.out 2 _ rfl
                       have v3 := HFX8.out 3 _ rfl
                       have v4 := HFX8.out 4 _ rfl
                       have v5 := HFX8.out 5 _ rfl
                       have v6 := HFX8.out 6 _ rfl
                       have v7 := HFX8.out 7 _ rfl
                       have v8 := HFX8.out 8 _ rfl
                       clear hwv8 hg8 hl8))
                  refine (iUpper_c (rec_ L ix) _).mono ?_; rintro e w10 ⟨rfl, hb10⟩
                  have HB10 := hid' (HB8.out.trans hb10)
                  have HFX10 := hid' (HFX8.out.bel hb10 hgx8)
                  have hgx10 : gx < w10.heap.size := Nat.lt_of_lt_of_le hgx8 hb10.sz
                  have HLO10 := hid' (own_keep HLO8.out hb10)
                  have HHI10 := hid' (own_keep HHI8.out hb10)
                  have HWV10 := hid' (own_keep HWV8.out hb10)
                  clear v0 v1 v2 v3 v4 v5 v6 v7 v8
                  have v0 := HFX10.out 0 _ rfl
                  have v1 := HFX10.out 1 _ rfl
                  have v2 := HFX10.out 2 _ rfl
                  have v3 := HFX10.out 3 _ rfl
                  have v4 := HFX10.out 4 _ rfl
                  have v5 := HFX10.out 5 _ rfl
                  have v6 := HFX10.out 6 _ rfl
                  have v7 := HFX10.out 7 _ rfl
                  have v8 := HFX10.out 8 _ rfl
                  by_cases h3 : au < a0 + aw
                  · have HO2 := hid' ((HOV.out.trans (if_neg (by omega))).trans (if_pos ⟨h2, h3⟩))
                    go_wp2_with (first
                      | (at_builtin; refine app1w rfl (.tmp 174) (.tmp 176) rfl w6.heap.size _ _ _ rfl (HHI10.out.alloc _) w10.heap.size _ rfl (World.cell?_alloc_new _ _ _ _) (by omega) (Nat.le_trans HB10.out.sz ((Bel.refl w10).alloc (.cells #[.int .i64 (ix : Int)] 3)).sz) ?_
                         intro hi' w9 hhi9 hg9 hl9
                         have HWV9 := hid' ((HWV10.out.alloc (.cells #[.int .i64 (ix : Int)] 3)).kept hg9 o3.1)
                         have HLO9 := hid' ((HLO10.out.alloc (.cells #[.int .i64 (ix : Int)] 3)).kept hg9 ho1.1)
                         have HHI9 := Lib.hid hhi9
                         have p1 := Off.grow ho1.2 ho1.1 (HLO10.out.alloc (.cells #[.int .i64 (ix : Int)] 3)) hl9
                         have p2 := Off.grow o3.2 o3.1 (HWV10.out.alloc (.cells #[.int .i64 (ix : Int)] 3)) hl9
                         have HFX9 := hid' ((HFX10.out.bel ((Bel.refl w10).alloc (.cells #[.int .i64 (ix : Int)] 3)) hgx10).grown hg9 (fun e => by have := (HHIL.out _ e.symm); omega))
                         have HB9 := hid' ((HB10.out.alloc (.cells #[.int .i64 (ix : Int)] 3)).grown hg9 (fun q e => (HHI10.out.lt q e).1))
                         clear v0 v1 v2 v3 v4 v5 v6 v7 v8
                         have v0 := HFX9.out 0 _ rfl
                         have v1 := HFX9.out 1 _ rfl
                         have v2 := HFX9.out 2 _ rfl
                         have v3 := HFX9.out 3 _ rfl
                         have v4 := HFX9.out 4 _ rfl
                         have v5 := HFX9.out 5 _ rfl
                         have v6 := HFX9.out 6 _ rfl
                         have v7 := HFX9.out 7 _ rfl
                         have v8 := HFX9.out 8 _ rfl
                         clear hhi9 hg9 hl9))
                    refine (iUpper_c (rec_ L ix) _).mono ?_; rintro e w11 ⟨rfl, hb11⟩
                    go_wp2_with fail
                    go_roundw
                    case rel =>
                      have hneg : oi < 0 := by have := HO2.out; omega
                      refine ⟨k + 1, by omega, by go_num, ?_, ?_, ?_, ?_, ⟨p1.2, p1.1⟩, ⟨o2.2, o2.1⟩, ⟨p2.1, p2.2⟩, HB9.out.trans hb11⟩
                      · rw [HVS.out, HO2.out]; congr 1; omega
                      · rw [HLP.out, if_neg (by omega), List.append_nil]; exact own_keep HLO9.out hb11
                      · rw [HHP.out, if_pos hneg, natL_push, ← VI_snoc, List.length_append]; exact own_keep HHI9.out hb11
                      · rw [HWP.out]; exact own_keep HWV9.out hb11
                    case measure => simp [intOf]; omega
                  · have HO2 := hid' ((HOV.out.trans (if_neg (by omega))).trans (if_neg (fun h => h3 h.2)))
                    go_wp2_with fail
                    go_roundw
                    case rel =>
                      have hz : oi = 0 := HO2.out
                      refine ⟨k + 1, by omega, by go_num, ?_, ?_, ?_, ?_, ho1, ⟨o2.2, o2.1⟩, ⟨o3.2, o3.1⟩, HB10.out⟩
                      · rw [HVS.out, HO2.out, Int.add_zero]
                      · rw [HLP.out, if_neg (by omega), List.append_nil]; exact HLO10.out
                      · rw [HHP.out, if_neg (by omega), List.append_nil]; exact HHI10.out
                      · rw [HWP.out]; exact HWV10.out
                    case measure => simp [intOf]; omega
                · have HO2 := hid' ((HOV.out.trans (if_neg (by omega))).trans (if_neg (fun h => h2 h.1)))
                  go_wp2_with (first
                    | (at_builtin; refine app1w rfl (.tmp 131) (.tmp 133) rfl w6.heap.size _ k _ rfl (HWV7.out.alloc _) w7.heap.size _ rfl (World.cell?_alloc_new _ _ _ _) (by omega) (Nat.le_trans hs67 ((Bel.refl w7).alloc (.cells #[.int .i64 wi] 3)).sz) ?_
                       intro wv' w8 hwv8 hg8 hl8
                       have HLO8 := hid' ((HLO7.out.alloc (.cells #[.int .i64 wi] 3)).kept hg8 ho2.1)
                       have HHI8 := hid' ((HHI7.out.alloc (.cells #[.int .i64 wi] 3)).kept hg8 ho3.1)
                       have HWV8 := Lib.hid hwv8
                       have o2 := Off.grow ho2.2 ho2.1 (HLO7.out.alloc (.cells #[.int .i64 wi] 3)) hl8
                       have o3 := Off.grow ho3.2 ho3.1 (HHI7.out.alloc (.cells #[.int .i64 wi] 3)) hl8
                       have HFX8 := hid' ((HFX7.out.bel ((Bel.refl w7).alloc (.cells #[.int .i64 wi] 3)) hgx7).grown hg8 (fun e => by have := (HWVL.out _ e.symm); omega))
                       have HB8 := hid' ((HB7.out.alloc (.cells #[.int .i64 wi] 3)).grown hg8 (fun q e => (HWV7.out.lt q e).1))
                       have hgx8 : gx < w8.heap.size := Nat.lt_of_lt_of_le hgx7 (Nat.le_trans ((Bel.refl w7).alloc (.cells #[.int .i64 wi] 3)).sz hg8.size)
                       have hs68 : w6.heap.size ≤ w8.heap.size := HB8.out.sz
                       have v0 := HFX8.out 0 _ rfl
                       have v1 := HFX8.out 1 _ rfl
                       have v2 := HFX8.out 2 _ rfl
                       have v3 := HFX8.out 3 _ rfl
                       have v4 := HFX8.out 4 _ rfl
                       have v5 := HFX8.out 5 _ rfl
                       have v6 := HFX8.out 6 _ rfl
                       have v7 := HFX8.out 7 _ rfl
                       have v8 := HFX8.out 8 _ rfl
                       clear hwv8 hg8 hl8))
                  go_roundw
                  case rel =>
                    have hz : oi = 0 := HO2.out
                    refine ⟨k + 1, by omega, by go_num, ?_, ?_, ?_, ?_, ho1, ⟨o2.2, o2.1⟩, ⟨o3.2, o3.1⟩, HB8.out⟩
                    · rw [HVS.out, HO2.out, Int.add_zero]
                    · rw [HLP.out, if_neg (by omega), List.append_nil]; exact HLO8.out
                    · rw [HHP.out, if_neg (by omega), List.append_nil]; exact HHI8.out
                    · rw [HWP.out]; exact HWV8.out
                  case measure => simp [intOf]; omega
          · obtain rfl : k = m := by omega
            have htake : (frees S.hd L.length).take k = frees S.hd L.length := List.take_of_length_le (by rw [HM.out]; exact Nat.le_refl _)
            rw [htake] at hlo hhi hwv
            have hvA : vioTo (overAt L g al rs) (frees S.hd L.length) k = vioOf (overAt L g al rs) (frees S.hd L.length) := by rw [← HM.out]; exact vioTo_all _ _
            rw [hvA]
            clear htake hvA
            obtain ⟨nl, hnl⟩ : ∃ n, (lows (overAt L g al rs) (frees S.hd L.length)).length = n := ⟨_, rfl⟩
            obtain ⟨nh, hnh⟩ : ∃ n, (highs (overAt L g al rs) (frees S.hd L.length)).length = n := ⟨_, rfl⟩
            have hnl12 : nl ≤ 12 := by rw [← hnl]; exact Nat.le_trans (List.length_filter_le _ _) (by rw [HM.out]; exact hm12)
            have hnh12 : nh ≤ 12 := by rw [← hnh]; exact Nat.le_trans (List.length_filter_le _ _) (by rw [HM.out]; exact hm12)
            rw [hnl] at hlo
            rw [hnh] at hhi
            obtain ⟨QL, cL, rfl⟩ := own_slice hlo
            obtain ⟨QH, cH, rfl⟩ := own_slice hhi
            obtain ⟨QW, cW, rfl⟩ := own_slice hwv
            have HF6 := hid' (HF5.out.keep (HB6.out.trans hbq))
            have HL6 := Lib.hid hlo
            have HH6 := Lib.hid hhi
            have HW6 := Lib.hid hwv
            have HUU6 := hid' (own_keep HU5.out (HB6.out.trans hbq))
            clear hlo hhi hwv ho1 ho2 ho3
            obtain ⟨gh, gz, hrow⟩ := HF.out.row (by have := frees_le S.hd L.length; have := HM.out; omega)
            have hghl := hrow.hlt
            have hgzl := hrow.zlt
            have hgHH := hrow.eh
            have hgZZ := hrow.ez
            have hgz := hrow.hz
            have hghp := hrow.hp
            have hgzp := hrow.zp
            subst hgHH hgZZ
            clear hrow
            have hw6 : w.heap.size ≤ w6.heap.size := by have h1 := hb.sz; have h2 := HB6.out.sz; have h3 := HSZ5.out; omega
            have hvsb : -400000000000000000 ≤ vioOf (overAt L g al rs) (frees S.hd L.length) ∧ vioOf (overAt L g al rs) (frees S.hd L.length) ≤ 400000000000000000 := by have := vioTo_bd (g := g) HOK.out hab hrb S.hd k; rw [← HM.out, vioTo_all] at this; exact this
            by_cases hz : nl + nh = 0
            · have hsm := some_none (ov := overAt L g al rs) (fs := frees S.hd L.length) (by rw [hnl, hnh]; exact hz)
              have hzi : (nl : Int) + (nh : Int) = 0 := by omega
              have hwl : (wts L g (frees S.hd L.length)).length = k := by rw [← HM.out]; simp [wts]
              have HSC : Hid (Calls Try.prog 99 #[.int .i64 rs, .slice QW k cW] wr fun r w' => ∃ v, r = .returned v ∧ w'.ownsRow wr.heap.size 3 1 v k (VI (stepSh L g gap inner S)) ∧ Bel wr w') := hid' (by
                have h0 := iShares_c rs QW cW (wts L g (frees S.hd L.length)) wr (own_ints HW6.out) (by omega)
                have hsl : (shares rs (wts L g (frees S.hd L.length))).length = k := by rw [shares, if_pos (wts_ok g HOK.out S.hd), sharesTo_length, hwl]
                rw [hsl, hwl, ← HSH.out] at h0
                exact h0)
              go_wp2_with fail
              refine HSC.out.mono ?_; rintro e w8 ⟨v8, rfl, ho8, hb8⟩
              obtain ⟨gs, cs, rfl⟩ := own_posM ho8 (by omega)
              have HO8 := Lib.hid ho8
              have HUU := hid' (own_keep HUU6.out hb8)
              have HF8 := hid' (HF6.out.keep hb8)
              have hsr8 : w.heap.size ≤ wr.heap.size := Nat.le_trans hw6 hbq.sz
              obtain ⟨gq, dq, hqe⟩ := own_posM HUU.out (by omega)
              injection hqe with hqe1 _ hqe3
              subst hqe1 hqe3
              clear ho8 HSC
              go_wp2_with fail
              go_loopw [197] (fun i wq => ∃ (q : Nat), q ≤ k ∧ i = .int .i64 q ∧ Fl w0 wq p 5 4 A c L gap inner g (some ⟨gh, 0, none⟩) (some ⟨gz, 0, none⟩) ch cz (hdA S ((frees S.hd L.length).take q)) (zA S (stepF L g gap inner S) ((frees S.hd L.length).take q)) ((ps : Int) + 1) ∧ wq.ownsRow w1.heap.size 3 1 (.slice (some ⟨gq, 0, none⟩) k cq) k (VI (natL (frees S.hd L.length))) ∧ wq.ownsRow w.heap.size 3 1 (.slice (some ⟨gs, 0, none⟩) k cs) k (VI (stepSh L g gap inner S))) (fun i _ => k - (intOf i).toNat)
              case atStart => exact ⟨0, Nat.zero_le _, by go_num, by simpa using HF8.out.congr (fun i _ => (hdA_nil S i).symm) (fun i _ => (zA_nil S _ i).symm), HUU.out, own_base HO8.out hsr8⟩
              case round =>
                obtain ⟨q, hq, rfl, hFq, hQq, hSq⟩ := hrel
                by_cases hqk : q < k
                · as_aux_lemma =>
                    obtain ⟨il, ihd⟩ := fr_mem (show q < (frees S.hd L.length).length by rw [HM.out]; exact hqk)
                    have hkf : q < (frees S.hd L.length).length := by rw [HM.out]; exact hqk
                    have htk := take_fr hkf
                    have hsz9 := share_at HST.out hsm hkf
                    have sq := hQq.cellAt q (by omega)
                    rw [VI_at (by rw [natL_length]; exact hkf), natL_fr hkf] at sq
                    have hsl : (stepSh L g gap inner S).length = k := by have := hSq.1; rw [VI_length] at this; omega
                    have ss := hSq.cellAt q (by omega)
                    rw [VI_at (by omega)] at ss
                    have hshb := share_bd (n := rs) (wts_ok g HOK.out S.hd) q
                    rw [← HSH.out] at hshb
                    have HIX := Lib.hid (HIT.out _ il)
                    generalize hix : fr S.hd L.length q = ix at *
                    obtain ⟨sh, hsh⟩ : ∃ v, at_ (stepSh L g gap inner S) q = v := ⟨_, rfl⟩
                    rw [hsh] at ss hshb hsz9
                    clear hsh hix
                    obtain ⟨gh', gz', hrow⟩ := hFq.row (by omega)
                    obtain ⟨rfl⟩ : gh = gh' := by have := hrow.eh; injection this with h1; injection h1
                    obtain ⟨rfl⟩ : gz = gz' := by have := hrow.ez; injection this with h1; injection h1
                    have c0 := hFq.c0
                    have c4 := hFq.kz
                    have c5 := hFq.kh
                    have hpl := hFq.plt
                    obtain ⟨b, o, rfl, hbl0, hc0⟩ := hR ix il
                    have hbl := Nat.lt_of_lt_of_le hbl0 hFq.bel.sz
                    have hc := fun i' hi' j v hv => (hFq.bel.cell _ _ hbl0).trans (hc0 i' hi' j v hv)
                    obtain ⟨x0, x1, x2, x3, x4, x5, x6, x7, x8⟩ := item_cells hc il
                    have HPUT := Lib.hid (fun (v : Int) h2 => hFq.put hrow il (v := v) h2)
                    have hil : (ix : Int) < (L.length : Int) := by omega
                    have ch4 := hrow.hc ix il
                    have cf4 := hrow.hf ix il
                    have ch5 := hrow.zc ix il
                    have cf5 := hrow.zf ix il
                    have hl1 := hrow.hlt
                    have hl2 := hrow.zlt
                    have hlo1 := hrow.hlo
                    have hlo2 := hrow.zlo
                    have hplo := hFq.plo
                    have hbp : b ≠ p := by omega
                    have hbh : b ≠ gh := by omega
                    have hbz : b ≠ gz := by omega
                    clear hc hc0 hrow
                    clear x1 x2 x3 x4 x5 x6 x7 x8
                    have HSR : Hid (∀ u : World, (∀ bb oo, bb ≠ gz → bb ≠ gh → u.cell? ⟨bb, oo, none⟩ = wr.cell? ⟨bb, oo, none⟩) → u.cell? ⟨p, 0, none⟩ = some (.slice (some ⟨b, o, none⟩) L.length c) ∧ u.cell? ⟨p, 4, none⟩ = some (.slice (some ⟨gz, 0, none⟩) L.length cz) ∧ u.cell? ⟨b, o + ix * 9, none⟩ = some (.int .i64 ((rec_ L ix).s 0))) := hid' (fun u hu => ⟨(hu _ _ (by omega) (by omega)).trans c0, (hu _ _ (by omega) (by omega)).trans c4, (hu _ _ (by omega) (by omega)).trans x0⟩)
                    have hA : ∀ bb oo, bb ≠ gz → bb ≠ gh → ((wr.setCell ⟨gh, ix, none⟩ (.bool true)).drew).cell? ⟨bb, oo, none⟩ = wr.cell? ⟨bb, oo, none⟩ := fun bb oo _ h => by rw [World.cell?_drew]; exact cell_set_off (by omega)
                    have hB : ∀ bb oo, bb ≠ gz → bb ≠ gh → (((wr.setCell ⟨gh, ix, none⟩ (.bool true)).setCell ⟨gz, ix, none⟩ (.int .i64 (clamped ((rec_ L ix).s 0 + sh)))).drew).cell? ⟨bb, oo, none⟩ = wr.cell? ⟨bb, oo, none⟩ := fun bb oo h h2 => by rw [World.cell?_drew, cell_set_off (by omega)]; exact cell_set_off (by omega)
                    have hC : ∀ bb oo, bb ≠ gz → bb ≠ gh → (((wr.setCell ⟨gh, ix, none⟩ (.bool true)).drew).setCell ⟨gz, ix, none⟩ (.int .i64 (clamped ((rec_ L ix).s 0 + sh)))).cell? ⟨bb, oo, none⟩ = wr.cell? ⟨bb, oo, none⟩ := fun bb oo h h2 => by rw [cell_set_off (by omega), World.cell?_drew]; exact cell_set_off (by omega)
                    have q1 : IntKind.i64.wrap ((rec_ L ix).s 0 + sh) = (rec_ L ix).s 0 + sh := IntWalk.i64_in _ (by have := HIX.out.base; omega)
                    go_wp2_with fail
                    go_region_held3 (fun u => u.cell? ⟨p, 0, none⟩ = some (.slice (some ⟨b, o, none⟩) L.length c) ∧ u.cell? ⟨p, 4, none⟩ = some (.slice (some ⟨gz, 0, none⟩) L.length cz) ∧ u.cell? ⟨b, o + ix * 9, none⟩ = some (.int .i64 ((rec_ L ix).s 0)))
                      ((with_reducible first | exact HSR.out _ hA | exact HSR.out _ hB | exact HSR.out _ hC))
                      (first | (go_at_call 81; refine (iClamped_c _ _).mono ?_; rintro e w' ⟨rfl, rfl⟩))
                    clear q1 hA hB hC
                    go_wp2_with fail
                    go_roundw
                    case rel => exact ⟨q + 1, by omega, by go_num, by rw [htk]; exact (HPUT.out _ hsz9).keep ((Bel.refl _).drew), own_keep (own_set (own_set hQq (by omega)) (by omega)) ((Bel.refl _).drew), own_keep (own_set (own_set hSq (by omega)) (by omega)) ((Bel.refl _).drew)⟩
                    case measure => simp [intOf]; omega
                · obtain rfl : q = k := by omega
                  go_wp2_with fail
                  go_ret
                  refine .inr ⟨fun h => by have := HM.out; rw [h] at this; simp at this; omega, rfl, ?_⟩
                  have hFF := hFq
                  rw [List.take_of_length_le (show (frees S.hd L.length).length ≤ q by rw [HM.out]; exact Nat.le_refl _)] at hFF
                  exact hFF.congr (fun i hi => (final_all HST.out hsm hi).1) (fun i hi => (final_all HST.out hsm hi).2)
            · have hsm := some_some (ov := overAt L g al rs) (fs := frees S.hd L.length) (by rw [hnl, hnh]; exact hz)
              have hzi : ¬ (nl : Int) + (nh : Int) = 0 := by omega
              have hzb : ((nl : Int) + (nh : Int) == 0) = false := by rw [beq_eq_false_iff_ne]; exact hzi
              by_cases h1v : 0 ≤ vioOf (overAt L g al rs) (frees S.hd L.length)
              · go_wp2_with fail
                go_loopw [234] (fun i wq => ∃ (q : Nat), q ≤ nl ∧ i = .int .i64 q ∧ Fl w0 wq p 5 4 A c L gap inner g (some ⟨gh, 0, none⟩) (some ⟨gz, 0, none⟩) ch cz (hdA S ((lows (overAt L g al rs) (frees S.hd L.length)).take q)) (zA S (stepF L g gap inner S) ((lows (overAt L g al rs) (frees S.hd L.length)).take q)) ((ps : Int) + 1) ∧ wq.ownsRow w6.heap.size 3 1 (.slice QL nl cL) nl (VI (natL (lows (overAt L g al rs) (frees S.hd L.length)))) ∧ wq.ownsRow w6.heap.size 3 1 (.slice QH nh cH) nh (VI (natL (highs (overAt L g al rs) (frees S.hd L.length))))) (fun i _ => nl - (intOf i).toNat)
                case atStart => exact ⟨0, Nat.zero_le _, by go_num, by simpa using HF6.out.congr (fun i _ => (hdA_nil S i).symm) (fun i _ => (zA_nil S _ i).symm), HL6.out, HH6.out⟩
                case round =>
                  obtain ⟨q, hq, rfl, hFq, hQq, hSq⟩ := hrel
                  by_cases hqk : q < nl
                  · as_aux_lemma =>
                      obtain ⟨ix, hg1, hmem, hg2, htk0⟩ := nat_get (l := lows (overAt L g al rs) (frees S.hd L.length)) (q := q) (by omega)
                      obtain ⟨il, hsz9⟩ := low_at HST.out hsm h1v hmem
                      have htk := htk0
                      obtain ⟨gl, dl, hle⟩ := own_posM hQq (by omega)
                      injection hle with hle1 _ hle3
                      subst hle1 hle3
                      have sq := hQq.cellAt q (by omega)
                      rw [VI_at (by rw [natL_length]; omega), hg2] at sq
                      clear hg1 hg2
                      obtain ⟨gh', gz', hrow⟩ := hFq.row (by omega)
                      obtain ⟨rfl⟩ : gh = gh' := by have := hrow.eh; injection this with h1; injection h1
                      obtain ⟨rfl⟩ : gz = gz' := by have := hrow.ez; injection this with h1; injection h1
                      have c0 := hFq.c0
                      have c4 := hFq.kz
                      have c5 := hFq.kh
                      have hpl := hFq.plt
                      obtain ⟨b, o, rfl, hbl0, hc0⟩ := hR ix il
                      have hbl := Nat.lt_of_lt_of_le hbl0 hFq.bel.sz
                      have hc := fun i' hi' j v hv => (hFq.bel.cell _ _ hbl0).trans (hc0 i' hi' j v hv)
                      obtain ⟨x0, x1, x2, x3, x4, x5, x6, x7, x8⟩ := item_cells hc il
                      have HPUT := Lib.hid (fun (v : Int) h2 => hFq.put hrow il (v := v) h2)
                      have HPUT2 : Hid (∀ u, Bel (wr.setCell ⟨gh, ix, none⟩ (.bool true)) u → (stepF L g gap inner S).sz ix = (rec_ L ix).s 1 → Fl w0 (u.setCell ⟨gz, ix, none⟩ (.int .i64 ((rec_ L ix).s 1))) p 5 4 _ c L gap inner g (some ⟨gh, 0, none⟩) (some ⟨gz, 0, none⟩) ch cz (hdA S (((lows (overAt L g al rs) (frees S.hd L.length)).take q) ++ [ix])) (zA S (stepF L g gap inner S) (((lows (overAt L g al rs) (frees S.hd L.length)).take q) ++ [ix])) ((ps : Int) + 1)) := hid' (fun u hu hz => (((hFq.setH hrow il true).keep hu).setZ ((hrow.setH il true).keep hu) il ((rec_ L ix).s 1)).congr (fun i hil => by rw [hdA_push]) (fun i hil => by rw [zA_push]; split; (rename_i e; subst e; exact hz.symm); rfl))
                      have hil : (ix : Int) < (L.length : Int) := by omega
                      have ch4 := hrow.hc ix il
                      have cf4 := hrow.hf ix il
                      have ch5 := hrow.zc ix il
                      have cf5 := hrow.zf ix il
                      have hl1 := hrow.hlt
                      have hl2 := hrow.zlt
                      have hlo1 := hrow.hlo
                      have hlo2 := hrow.zlo
                      have hplo := hFq.plo
                      have hbp : b ≠ p := by omega
                      have hbh : b ≠ gh := by omega
                      have hbz : b ≠ gz := by omega
                      clear hc hc0 hrow
                      go_wp2_with fail
                      obtain ⟨wh, hwh⟩ : ∃ wh, wh = (wr.setCell ⟨gh, ix, none⟩ (.bool true)) := ⟨_, rfl⟩
                      rw [← hwh]
                      have hWH : ∀ bb oo, bb ≠ gh → wh.cell? ⟨bb, oo, none⟩ = wr.cell? ⟨bb, oo, none⟩ := fun bb oo h => by rw [hwh]; exact cell_set_off (by omega)
                      have k0 := (hWH p 0 (by omega)).trans c0
                      have k4 := (hWH p 4 (by omega)).trans c4
                      have k1 := (hWH b (o + ix * 9 + 1) (by omega)).trans x1
                      have k5 := (hWH gz ix (by omega)).trans ch5
                      have kf : wh.frozen? ⟨gz, ix, none⟩ = false := by rw [hwh]; simpa using cf5
                      have HWH := Lib.hid hwh
                      clear hwh hWH c0 c4 c5 x0 x1 x2 x3 x4 x5 x6 x7 x8 ch4 cf4 ch5 cf5
                      refine wp_region_still_tail 14 (by kernel_rfl) (by kernel_rfl) ?_
                      simp only [List.take_succ_cons, List.take_zero, List.drop_succ_cons, List.drop_zero]
                      iterate 14 still_step
                      refine wpStill_nil ?_
                      go_wp2_with fail
                      go_roundw
                      case rel => exact ⟨q + 1, by omega, by go_num, by rw [htk]; exact (HPUT2.out wh (by rw [← HWH.out]; exact Bel.refl _) hsz9).keep ((Bel.refl _).drew), own_keep (own_set (by rw [HWH.out]; exact own_set hQq (by omega)) (by omega)) ((Bel.refl _).drew), own_keep (own_set (by rw [HWH.out]; exact own_set hSq (by omega)) (by omega)) ((Bel.refl _).drew)⟩
                      case measure => simp [intOf]; omega
                  · obtain rfl : q = nl := by omega
                    by_cases h2v : vioOf (overAt L g al rs) (frees S.hd L.length) ≤ 0
                    · rw [List.take_of_length_le (show (lows (overAt L g al rs) (frees S.hd L.length)).length ≤ q by omega)] at hFq
                      have HF7 := Lib.hid hFq
                      have HH7 := Lib.hid hSq
                      go_wp2_with fail
                      go_loopw [263] (fun i wq => ∃ (q : Nat), q ≤ nh ∧ i = .int .i64 q ∧ Fl w0 wq p 5 4 A c L gap inner g (some ⟨gh, 0, none⟩) (some ⟨gz, 0, none⟩) ch cz (hdA S ((lows (overAt L g al rs) (frees S.hd L.length)) ++ (highs (overAt L g al rs) (frees S.hd L.length)).take q)) (zA S (stepF L g gap inner S) ((lows (overAt L g al rs) (frees S.hd L.length)) ++ (highs (overAt L g al rs) (frees S.hd L.length)).take q)) ((ps : Int) + 1) ∧ wq.ownsRow w6.heap.size 3 1 (.slice QH nh cH) nh (VI (natL (highs (overAt L g al rs) (frees S.hd L.length)))) ∧ wq.ownsRow w6.heap.size 3 1 (.slice QH nh cH) nh (VI (natL (highs (overAt L g al rs) (frees S.hd L.length))))) (fun i _ => nh - (intOf i).toNat)
                      case atStart => exact ⟨0, Nat.zero_le _, by go_num, by simpa using HF7.out, HH7.out, HH7.out⟩
                      case round =>
                        obtain ⟨q, hq, rfl, hFq, hQq, hSq⟩ := hrel
                        by_cases hqk : q < nh
                        · as_aux_lemma =>
                            obtain ⟨ix, hg1, hmem, hg2, htk0⟩ := nat_get (l := highs (overAt L g al rs) (frees S.hd L.length)) (q := q) (by omega)
                            obtain ⟨il, hsz9⟩ := high_at HST.out hsm h2v hmem
                            have htk := show (lows (overAt L g al rs) (frees S.hd L.length)) ++ (highs (overAt L g al rs) (frees S.hd L.length)).take (q + 1) = ((lows (overAt L g al rs) (frees S.hd L.length)) ++ (highs (overAt L g al rs) (frees S.hd L.length)).take q) ++ [ix] by rw [htk0, List.append_assoc]
                            obtain ⟨gl, dl, hle⟩ := own_posM hQq (by omega)
                            injection hle with hle1 _ hle3
                            subst hle1 hle3
                            have sq := hQq.cellAt q (by omega)
                            rw [VI_at (by rw [natL_length]; omega), hg2] at sq
                            clear hg1 hg2
                            obtain ⟨gh', gz', hrow⟩ := hFq.row (by omega)
                            obtain ⟨rfl⟩ : gh = gh' := by have := hrow.eh; injection this with h1; injection h1
                            obtain ⟨rfl⟩ : gz = gz' := by have := hrow.ez; injection this with h1; injection h1
                            have c0 := hFq.c0
                            have c4 := hFq.kz
                            have c5 := hFq.kh
                            have hpl := hFq.plt
                            obtain ⟨b, o, rfl, hbl0, hc0⟩ := hR ix il
                            have hbl := Nat.lt_of_lt_of_le hbl0 hFq.bel.sz
                            have hc := fun i' hi' j v hv => (hFq.bel.cell _ _ hbl0).trans (hc0 i' hi' j v hv)
                            obtain ⟨x0, x1, x2, x3, x4, x5, x6, x7, x8⟩ := item_cells hc il
                            have HPUT := Lib.hid (fun (v : Int) h2 => hFq.put hrow il (v := v) h2)
                            have HPUT2 : Hid (∀ u, Bel (wr.setCell ⟨gh, ix, none⟩ (.bool true)) u → (stepF L g gap inner S).sz ix = upR (rec_ L ix) → Fl w0 (u.setCell ⟨gz, ix, none⟩ (.int .i64 (upR (rec_ L ix)))) p 5 4 _ c L gap inner g (some ⟨gh, 0, none⟩) (some ⟨gz, 0, none⟩) ch cz (hdA S (((lows (overAt L g al rs) (frees S.hd L.length)) ++ (highs (overAt L g al rs) (frees S.hd L.length)).take q) ++ [ix])) (zA S (stepF L g gap inner S) (((lows (overAt L g al rs) (frees S.hd L.length)) ++ (highs (overAt L g al rs) (frees S.hd L.length)).take q) ++ [ix])) ((ps : Int) + 1)) := hid' (fun u hu hz => (((hFq.setH hrow il true).keep hu).setZ ((hrow.setH il true).keep hu) il (upR (rec_ L ix))).congr (fun i hil => by rw [hdA_push]) (fun i hil => by rw [zA_push]; split; (rename_i e; subst e; exact hz.symm); rfl))
                            have hil : (ix : Int) < (L.length : Int) := by omega
                            have ch4 := hrow.hc ix il
                            have cf4 := hrow.hf ix il
                            have ch5 := hrow.zc ix il
                            have cf5 := hrow.zf ix il
                            have hl1 := hrow.hlt
                            have hl2 := hrow.zlt
                            have hlo1 := hrow.hlo
                            have hlo2 := hrow.zlo
                            have hplo := hFq.plo
                            have hbp : b ≠ p := by omega
                            have hbh : b ≠ gh := by omega
                            have hbz : b ≠ gz := by omega
                            clear hc hc0 hrow
                            go_wp2_with fail
                            obtain ⟨wh, hwh⟩ : ∃ wh, wh = (wr.setCell ⟨gh, ix, none⟩ (.bool true)) := ⟨_, rfl⟩
                            rw [← hwh]
                            have hlw : wh.heap.size = wr.heap.size := by rw [hwh]; simp
                            have hWH : ∀ bb oo, bb ≠ gh → wh.cell? ⟨bb, oo, none⟩ = wr.cell? ⟨bb, oo, none⟩ := fun bb oo h => by rw [hwh]; exact cell_set_off (by omega)
                            have kp0 := cell_regrown ((hWH p 0 (by omega)).trans c0)
                            have kp4 := cell_regrown ((hWH p 4 (by omega)).trans c4)
                            have k0 := cell_regrown ((hWH b (o + ix * 9) (by omega)).trans x0)
                            have k1 := cell_regrown ((hWH b (o + ix * 9 + 1) (by omega)).trans x1)
                            have k2 := cell_regrown ((hWH b (o + ix * 9 + 2) (by omega)).trans x2)
                            have k3 := cell_regrown ((hWH b (o + ix * 9 + 3) (by omega)).trans x3)
                            have k4 := cell_regrown ((hWH b (o + ix * 9 + 4) (by omega)).trans x4)
                            have k5 := cell_regrown ((hWH b (o + ix * 9 + 5) (by omega)).trans x5)
                            have k6 := cell_regrown ((hWH b (o + ix * 9 + 6) (by omega)).trans x6)
                            have k7 := cell_regrown ((hWH b (o + ix * 9 + 7) (by omega)).trans x7)
                            have k8 := cell_regrown ((hWH b (o + ix * 9 + 8) (by omega)).trans x8)
                            have cz5 := (hWH gz ix (by omega)).trans ch5
                            have cz6 : wh.frozen? ⟨gz, ix, none⟩ = false := by rw [hwh]; simpa using cf5
                            have hgzw : gz < wh.heap.size := by omega
                            have HWH := Lib.hid hwh
                            have CU : Hid (∀ u : World, Calls Try.prog 114 #[itemV ((rec_ L ix).s 0) ((rec_ L ix).s 1) ((rec_ L ix).s 2) ((rec_ L ix).s 3) ((rec_ L ix).s 4) ((rec_ L ix).s 5) ((rec_ L ix).s 6) ((rec_ L ix).b 7) ((rec_ L ix).b 8)] u fun e u' => e = .returned (.int .i64 (upR (rec_ L ix))) ∧ Below u.heap.size u u') := hid' (fun u => iUpper_c (rec_ L ix) u)
                            clear hwh hWH hlw c0 c4 c5 x0 x1 x2 x3 x4 x5 x6 x7 x8 ch4 cf4 ch5 cf5
                            refine wp_region_quiet_tail (C := fun w' => ∃ p : Regrown, w' = grow (redrawn wh p.d) p.os) 14 (by kernel_rfl) (by kernel_rfl) ⟨⟨(wh).drawn + 1, #[]⟩, by rw [grow_empty]; rfl⟩ ?_
                            simp only [List.take_succ_cons, List.take_zero, List.drop_succ_cons, List.drop_zero]
                            repeat (go_big_quiet_step ((go_at_call 114; exact Calls.regrown_of (CU.out _))))
                            refine wpQuiet_nil ?_
                            intro _ hw'
                            obtain ⟨⟨dq, osq⟩, hw''⟩ := hw'
                            subst hw''
                            have hbq : Bel wh (grow (redrawn wh dq) osq) := below_regrown wh dq osq
                            generalize grow (redrawn wh dq) osq = wq at hbq ⊢
                            have cz7 := (hbq.cell _ ix hgzw).trans cz5
                            have cz8 := (hbq.frozen _ ix hgzw).trans cz6
                            clear kp0 kp4 k0 k1 k2 k3 k4 k5 k6 k7 k8 cz5 cz6 CU
                            go_wp2_with fail
                            go_roundw
                            case rel =>
                              exact ⟨q + 1, by omega, by go_num, by rw [htk]; exact HPUT2.out wq (by rw [← HWH.out]; exact hbq) hsz9, own_set (own_keep (by rw [HWH.out]; exact own_set hQq (by omega)) hbq) (by omega), own_set (own_keep (by rw [HWH.out]; exact own_set hSq (by omega)) hbq) (by omega)⟩
                            case measure => simp [intOf]; omega
                        · obtain rfl : q = nh := by omega
                          go_wp2_with fail
                          go_ret
                          refine .inr ⟨fun h => by have := HM.out; rw [h] at this; simp at this; omega, rfl, ?_⟩
                          have hFF := hFq
                          rw [List.take_of_length_le (show (highs (overAt L g al rs) (frees S.hd L.length)).length ≤ q by omega), show (lows (overAt L g al rs) (frees S.hd L.length)) ++ highs (overAt L g al rs) (frees S.hd L.length) = settled (overAt L g al rs) (frees S.hd L.length) by unfold settled; rw [if_pos h1v, if_pos h2v]] at hFF
                          exact hFF.congr (fun i hi => (final_settled HST.out hsm hi).1) (fun i hi => (final_settled HST.out hsm hi).2)
                    · go_wp2_with fail
                      go_ret
                      refine .inr ⟨fun h => by have := HM.out; rw [h] at this; simp at this; omega, rfl, ?_⟩
                      have hFF := hFq
                      rw [List.take_of_length_le (show (lows (overAt L g al rs) (frees S.hd L.length)).length ≤ q by omega), show lows (overAt L g al rs) (frees S.hd L.length) = settled (overAt L g al rs) (frees S.hd L.length) by unfold settled; rw [if_pos h1v, if_neg (by omega), List.append_nil]] at hFF
                      exact hFF.congr (fun i hi => (final_settled HST.out hsm hi).1) (fun i hi => (final_settled HST.out hsm hi).2)
              · have h2v : vioOf (overAt L g al rs) (frees S.hd L.length) ≤ 0 := by omega
                go_wp2_with fail
                go_loopw [263] (fun i wq => ∃ (q : Nat), q ≤ nh ∧ i = .int .i64 q ∧ Fl w0 wq p 5 4 A c L gap inner g (some ⟨gh, 0, none⟩) (some ⟨gz, 0, none⟩) ch cz (hdA S (([]) ++ (highs (overAt L g al rs) (frees S.hd L.length)).take q)) (zA S (stepF L g gap inner S) (([]) ++ (highs (overAt L g al rs) (frees S.hd L.length)).take q)) ((ps : Int) + 1) ∧ wq.ownsRow w6.heap.size 3 1 (.slice QH nh cH) nh (VI (natL (highs (overAt L g al rs) (frees S.hd L.length)))) ∧ wq.ownsRow w6.heap.size 3 1 (.slice QH nh cH) nh (VI (natL (highs (overAt L g al rs) (frees S.hd L.length))))) (fun i _ => nh - (intOf i).toNat)
                case atStart => exact ⟨0, Nat.zero_le _, by go_num, by simpa using HF6.out.congr (fun i _ => (hdA_nil S i).symm) (fun i _ => (zA_nil S _ i).symm), HH6.out, HH6.out⟩
                case round =>
                  obtain ⟨q, hq, rfl, hFq, hQq, hSq⟩ := hrel
                  by_cases hqk : q < nh
                  · as_aux_lemma =>
                      obtain ⟨ix, hg1, hmem, hg2, htk0⟩ := nat_get (l := highs (overAt L g al rs) (frees S.hd L.length)) (q := q) (by omega)
                      obtain ⟨il, hsz9⟩ := high_at HST.out hsm h2v hmem
                      have htk := show ([]) ++ (highs (overAt L g al rs) (frees S.hd L.length)).take (q + 1) = (([]) ++ (highs (overAt L g al rs) (frees S.hd L.length)).take q) ++ [ix] by rw [htk0, List.append_assoc]
                      obtain ⟨gl, dl, hle⟩ := own_posM hQq (by omega)
                      injection hle with hle1 _ hle3
                      subst hle1 hle3
                      have sq := hQq.cellAt q (by omega)
                      rw [VI_at (by rw [natL_length]; omega), hg2] at sq
                      clear hg1 hg2
                      obtain ⟨gh', gz', hrow⟩ := hFq.row (by omega)
                      obtain ⟨rfl⟩ : gh = gh' := by have := hrow.eh; injection this with h1; injection h1
                      obtain ⟨rfl⟩ : gz = gz' := by have := hrow.ez; injection this with h1; injection h1
                      have c0 := hFq.c0
                      have c4 := hFq.kz
                      have c5 := hFq.kh
                      have hpl := hFq.plt
                      obtain ⟨b, o, rfl, hbl0, hc0⟩ := hR ix il
                      have hbl := Nat.lt_of_lt_of_le hbl0 hFq.bel.sz
                      have hc := fun i' hi' j v hv => (hFq.bel.cell _ _ hbl0).trans (hc0 i' hi' j v hv)
                      obtain ⟨x0, x1, x2, x3, x4, x5, x6, x7, x8⟩ := item_cells hc il
                      have HPUT := Lib.hid (fun (v : Int) h2 => hFq.put hrow il (v := v) h2)
                      have HPUT2 : Hid (∀ u, Bel (wr.setCell ⟨gh, ix, none⟩ (.bool true)) u → (stepF L g gap inner S).sz ix = upR (rec_ L ix) → Fl w0 (u.setCell ⟨gz, ix, none⟩ (.int .i64 (upR (rec_ L ix)))) p 5 4 _ c L gap inner g (some ⟨gh, 0, none⟩) (some ⟨gz, 0, none⟩) ch cz (hdA S ((([]) ++ (highs (overAt L g al rs) (frees S.hd L.length)).take q) ++ [ix])) (zA S (stepF L g gap inner S) ((([]) ++ (highs (overAt L g al rs) (frees S.hd L.length)).take q) ++ [ix])) ((ps : Int) + 1)) := hid' (fun u hu hz => (((hFq.setH hrow il true).keep hu).setZ ((hrow.setH il true).keep hu) il (upR (rec_ L ix))).congr (fun i hil => by rw [hdA_push]) (fun i hil => by rw [zA_push]; split; (rename_i e; subst e; exact hz.symm); rfl))
                      have hil : (ix : Int) < (L.length : Int) := by omega
                      have ch4 := hrow.hc ix il
                      have cf4 := hrow.hf ix il
                      have ch5 := hrow.zc ix il
                      have cf5 := hrow.zf ix il
                      have hl1 := hrow.hlt
                      have hl2 := hrow.zlt
                      have hlo1 := hrow.hlo
                      have hlo2 := hrow.zlo
                      have hplo := hFq.plo
                      have hbp : b ≠ p := by omega
                      have hbh : b ≠ gh := by omega
                      have hbz : b ≠ gz := by omega
                      clear hc hc0 hrow
                      go_wp2_with fail
                      obtain ⟨wh, hwh⟩ : ∃ wh, wh = (wr.setCell ⟨gh, ix, none⟩ (.bool true)) := ⟨_, rfl⟩
                      rw [← hwh]
                      have hlw : wh.heap.size = wr.heap.size := by rw [hwh]; simp
                      have hWH : ∀ bb oo, bb ≠ gh → wh.cell? ⟨bb, oo, none⟩ = wr.cell? ⟨bb, oo, none⟩ := fun bb oo h => by rw [hwh]; exact cell_set_off (by omega)
                      have kp0 := cell_regrown ((hWH p 0 (by omega)).trans c0)
                      have kp4 := cell_regrown ((hWH p 4 (by omega)).trans c4)
                      have k0 := cell_regrown ((hWH b (o + ix * 9) (by omega)).trans x0)
                      have k1 := cell_regrown ((hWH b (o + ix * 9 + 1) (by omega)).trans x1)
                      have k2 := cell_regrown ((hWH b (o + ix * 9 + 2) (by omega)).trans x2)
                      have k3 := cell_regrown ((hWH b (o + ix * 9 + 3) (by omega)).trans x3)
                      have k4 := cell_regrown ((hWH b (o + ix * 9 + 4) (by omega)).trans x4)
                      have k5 := cell_regrown ((hWH b (o + ix * 9 + 5) (by omega)).trans x5)
                      have k6 := cell_regrown ((hWH b (o + ix * 9 + 6) (by omega)).trans x6)
                      have k7 := cell_regrown ((hWH b (o + ix * 9 + 7) (by omega)).trans x7)
                      have k8 := cell_regrown ((hWH b (o + ix * 9 + 8) (by omega)).trans x8)
                      have cz5 := (hWH gz ix (by omega)).trans ch5
                      have cz6 : wh.frozen? ⟨gz, ix, none⟩ = false := by rw [hwh]; simpa using cf5
                      have hgzw : gz < wh.heap.size := by omega
                      have HWH := Lib.hid hwh
                      have CU : Hid (∀ u : World, Calls Try.prog 114 #[itemV ((rec_ L ix).s 0) ((rec_ L ix).s 1) ((rec_ L ix).s 2) ((rec_ L ix).s 3) ((rec_ L ix).s 4) ((rec_ L ix).s 5) ((rec_ L ix).s 6) ((rec_ L ix).b 7) ((rec_ L ix).b 8)] u fun e u' => e = .returned (.int .i64 (upR (rec_ L ix))) ∧ Below u.heap.size u u') := hid' (fun u => iUpper_c (rec_ L ix) u)
                      clear hwh hWH hlw c0 c4 c5 x0 x1 x2 x3 x4 x5 x6 x7 x8 ch4 cf4 ch5 cf5
                      refine wp_region_quiet_tail (C := fun w' => ∃ p : Regrown, w' = grow (redrawn wh p.d) p.os) 14 (by kernel_rfl) (by kernel_rfl) ⟨⟨(wh).drawn + 1, #[]⟩, by rw [grow_empty]; rfl⟩ ?_
                      simp only [List.take_succ_cons, List.take_zero, List.drop_succ_cons, List.drop_zero]
                      repeat (go_big_quiet_step ((go_at_call 114; exact Calls.regrown_of (CU.out _))))
                      refine wpQuiet_nil ?_
                      intro _ hw'
                      obtain ⟨⟨dq, osq⟩, hw''⟩ := hw'
                      subst hw''
                      have hbq : Bel wh (grow (redrawn wh dq) osq) := below_regrown wh dq osq
                      generalize grow (redrawn wh dq) osq = wq at hbq ⊢
                      have cz7 := (hbq.cell _ ix hgzw).trans cz5
                      have cz8 := (hbq.frozen _ ix hgzw).trans cz6
                      clear kp0 kp4 k0 k1 k2 k3 k4 k5 k6 k7 k8 cz5 cz6 CU
                      go_wp2_with fail
                      go_roundw
                      case rel =>
                        exact ⟨q + 1, by omega, by go_num, by rw [htk]; exact HPUT2.out wq (by rw [← HWH.out]; exact hbq) hsz9, own_set (own_keep (by rw [HWH.out]; exact own_set hQq (by omega)) hbq) (by omega), own_set (own_keep (by rw [HWH.out]; exact own_set hSq (by omega)) hbq) (by omega)⟩
                      case measure => simp [intOf]; omega
                  · obtain rfl : q = nh := by omega
                    go_wp2_with fail
                    go_ret
                    refine .inr ⟨fun h => by have := HM.out; rw [h] at this; simp at this; omega, rfl, ?_⟩
                    have hFF := hFq
                    rw [List.take_of_length_le (show (highs (overAt L g al rs) (frees S.hd L.length)).length ≤ q by omega), show ([]) ++ highs (overAt L g al rs) (frees S.hd L.length) = settled (overAt L g al rs) (frees S.hd L.length) by unfold settled; rw [if_neg (by omega), if_pos h2v]] at hFF
                    exact hFF.congr (fun i hi => (final_settled HST.out hsm hi).1) (fun i hi => (final_settled HST.out hsm hi).2)
end Go.Proofs.Ytmipjhnjlpmidaa
