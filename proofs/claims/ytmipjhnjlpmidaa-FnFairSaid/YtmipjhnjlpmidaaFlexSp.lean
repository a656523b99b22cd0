/- Flexing, the reference's text: one pass. -/
import Derived.Test.YtmipjhnjlpmidaaFlexS
namespace Go.Proofs.Ytmipjhnjlpmidaa
open Go.RowKit Go.ChangeShapes Go.WideShapes
set_option linter.unusedVariables false
set_option linter.unusedSimpArgs false

theorem VI_zeros0 (n : Nat) : List.replicate n (Value.int .i64 0) = VI (List.replicate n 0) := by simp [VI]
theorem own_openM {w : World} {base : Nat} {e : TypeId} {v : Value} {n : Nat} {zs : List Int} (h : w.ownsRow base e 1 v n (VI zs)) : ∃ A c, v = .slice A n c ∧ n ≤ c ∧ c ≤ maxLen ∧ n = zs.length ∧ Ints w A zs := by
  obtain ⟨A, c, rfl, rfl, h1, h2, h3⟩ := own_open h
  exact ⟨A, c, rfl, h1, h2, rfl, h3⟩
theorem own_posM {w : World} {base n size : Nat} {e : TypeId} {v : Value} {xs : List Value} (h : w.ownsRow base e size v n xs) (hn : 0 < n) : ∃ g c, v = .slice (some ⟨g, 0, none⟩) n c := by
  rcases h.2 with ⟨_, h0⟩ | ⟨g, c, cur, h1, _⟩
  · omega
  · exact ⟨g, c, h1⟩
set_option maxRecDepth 100000 in
set_option maxHeartbeats 3000000 in
theorem sPass_c {w0 w : World} {p : Nat} {A : Option Addr} {c : Nat} {L : List Rec} {gap inner : Int} {g : Bool} {H Z : Option Addr} {ch cz : Nat} (S : Fx) (ps : Nat) (hF : Fl w0 w p 4 5 A c L gap inner g H Z ch cz S.hd (baseSz L S) (ps : Int)) (hR : Recs w0 A k_item L) (hok : itemsOk L = true) (hps : ps ≤ 1048576) :
    Calls Try.prog 91 #[.pointer (some ⟨p, 0, none⟩)] w fun e w' =>
      (frees S.hd L.length = [] ∧ e = .returned (.bool false) ∧ Fl w0 w' p 4 5 A c L gap inner g H Z ch cz S.hd (baseSz L S) (ps : Int)) ∨
      (frees S.hd L.length ≠ [] ∧ e = .returned (.bool true) ∧ Fl w0 w' p 4 5 A c L gap inner g H Z ch cz (stepF L g gap inner S).hd (baseSz L (stepF L g gap inner S)) ((ps : Int) + 1)) := by
  obtain ⟨h12, hit⟩ := itemsOk_at hok
  have HIT := Lib.hid hit
  have HOK := Lib.hid hok
  have HF := Lib.hid hF
  have hlt := hF.plt
  have how0 : ((w.alloc (.cells #[] 3)).alloc (.cells #[] 3)).ownsRow w.heap.size 3 1 (.slice (some ⟨w.heap.size, 0, none⟩) 0 0) 0 (VI []) := own_keep (World.ownsRow_lit w #[] 0 (Nat.le_refl _) (by unfold maxLen; omega) rfl) ((Bel.refl _).alloc _)
  have e1 : (w.alloc (.cells #[] 3)).heap.size = w.heap.size + 1 := by simp
  have hop0 : ((w.alloc (.cells #[] 3)).alloc (.cells #[] 3)).ownsRow w.heap.size 3 1 (.slice (some ⟨w.heap.size + 1, 0, none⟩) 0 0) 0 (VI []) := by
    have := own_base (World.ownsRow_lit (e := 3) (size := 1) (w.alloc (.cells #[] 3)) #[] 0 (Nat.le_refl _) (by unfold maxLen; omega) rfl) (show w.heap.size ≤ (w.alloc (.cells #[] 3)).heap.size by simp)
    rw [e1] at this
    exact this
  clear hF hit hok e1
  go_enter Try.func91, Try.ntmps91
  go_wp2_with fail
  go_loopw [3, 4, 5, 6] (fun v u s i wr => ∃ (k : Nat), k ≤ L.length ∧ i = .int .i64 k ∧ s = .int .i64 (wts L g (frees S.hd k)).sum ∧ wr.ownsRow w.heap.size 3 1 v (frees S.hd k).length (VI (wts L g (frees S.hd k))) ∧ wr.ownsRow w.heap.size 3 1 u (frees S.hd k).length (VI (natL (frees S.hd k))) ∧ Off v u ∧ Off u v ∧ Bel w wr) (fun _ _ _ i _ => L.length - (intOf i).toNat)
  case atStart => exact ⟨0, Nat.zero_le _, by go_num, rfl, how0, hop0, .inr (by simp [Value.ownBlock]), .inr (by simp [Value.ownBlock]), ((Bel.refl _).alloc _).alloc _⟩
  case round =>
    obtain ⟨k, hk, rfl, rfl, hv, hu, ho1, ho2, hb⟩ := hrel
    have HFr := hid' (HF.out.keep hb)
    have c0 := HFr.out.c0
    have hlr := HFr.out.plt
    by_cases hkl : k < L.length
    · obtain ⟨gh, gz, hrow⟩ := HFr.out.row (by omega)
      have c4 := HFr.out.kh
      rw [hrow.eh] at c4
      have ck := hrow.hc k hkl
      have hglt := hrow.hlt
      cases hd : S.hd k
      · rw [hd] at ck
        have HD := Lib.hid hd
        have HS := Lib.hid (frees_push hd)
        have hall := all_bd g HOK.out S.hd hk
        have hw1 := wt_bd g (HIT.out k hkl)
        have hfl := frees_le S.hd k
        clear hd hrow
        go_wp2_with (at_builtin; refine app1w rfl (.tmp 36) (.tmp 38) rfl w.heap.size _ _ _ rfl (hu.alloc _) wr.heap.size _ rfl (World.cell?_alloc_new _ _ _ _) (by omega) (hb.alloc _).sz ?_; intro u' w2 hu2 hg2 hl2)
        have hv2 := (hv.alloc (.cells #[.int .i64 (k : Int)] 3)).kept hg2 ho1
        have hb2 := (hb.alloc (.cells #[.int .i64 (k : Int)] 3)).own (Nat.le_refl _) (hu.alloc _) hg2
        have hof := Off.grow ho2 ho1 (hv.alloc (.cells #[.int .i64 (k : Int)] 3)) hl2
        clear hl2 hg2 c0 c4 ck
        refine (sWeight_c (HF.out.keep hb2) hR HOK.out k hkl).mono ?_; rintro e w3 ⟨rfl, hb3⟩
        have hu3 := own_keep hu2 hb3
        have hv3 := own_keep hv2 hb3
        have hb03 := hb2.trans hb3
        clear hu2 hv2
        go_wp2_with (at_builtin; refine app1w rfl (.tmp 40) (.tmp 44) rfl w.heap.size _ _ _ rfl (hv3.alloc _) w3.heap.size _ rfl (World.cell?_alloc_new _ _ _ _) (by omega) (hb03.alloc _).sz ?_; intro v' w4 hv4 hg4 hl4)
        have hu4 := (hu3.alloc (.cells #[.int .i64 (wt L g k)] 3)).kept hg4 hof.1
        have hb4 := (hb03.alloc (.cells #[.int .i64 (wt L g k)] 3)).own (Nat.le_refl _) (hv3.alloc _) hg4
        have hof4 := Off.grow hof.2 hof.1 (hu3.alloc (.cells #[.int .i64 (wt L g k)] 3)) hl4
        refine (sWeight_c (HF.out.keep hb4) hR HOK.out k hkl).mono ?_; rintro e w5 ⟨rfl, hb5⟩
        go_wp2_with fail
        go_roundw
        case rel =>
          refine ⟨k + 1, by omega, by go_num, ?_, ?_, ?_, hof4.1, hof4.2, hb4.trans hb5⟩
          · rw [HS.out, wts_push, List.sum_append]; simp
          · rw [HS.out, wts_push, ← VI_snoc, List.length_append]; exact own_keep hv4 hb5
          · rw [HS.out, natL_push, ← VI_snoc, List.length_append]; exact own_keep hu4 hb5
        case measure => simp [intOf]; omega
      · rw [hd] at ck
        have HS := Lib.hid (frees_skip hd)
        clear hd hrow
        go_wp2_with fail
        go_roundw
        case rel => exact ⟨k + 1, by omega, by go_num, by rw [HS.out], by rw [HS.out]; exact hv, by rw [HS.out]; exact hu, ho1, ho2, hb⟩
        case measure => simp [intOf]; omega
    · obtain rfl : k = L.length := by omega
      obtain ⟨m, hm⟩ : ∃ m, (frees S.hd L.length).length = m := ⟨_, rfl⟩
      have HM := Lib.hid hm
      have hm12 : m ≤ 12 := by have := frees_le S.hd L.length; omega
      rw [hm] at hv hu
      obtain ⟨Q, cq, rfl, -, -, -, hQ⟩ := own_openM hu
      obtain ⟨V, cv, rfl, -, -, -, hV⟩ := own_openM hv
      by_cases hm0 : m = 0
      · have hmi : (m : Int) = 0 := by omega
        go_wp2_with fail
        go_ret
        exact .inl ⟨List.eq_nil_of_length_eq_zero (by omega), rfl, HFr.out⟩
      · have hmi : ¬ (m : Int) = 0 := by omega
        have c6 := HFr.out.c6
        have f6 := HFr.out.f6
        have hp1 : (ps : Int) ≤ 1048576 := by omega
        obtain ⟨W5, hW5⟩ : ∃ W5, wr.setCell ⟨p, 6, none⟩ (.int .i64 ((ps : Int) + 1)) = W5 := ⟨_, rfl⟩
        have HF5 := hid' (HFr.out.tick (by omega) (by omega) ((ps : Int) + 1))
        have hv5 := own_set (p := p) (o := 6) (x := .int .i64 ((ps : Int) + 1)) hv hlt
        have hu5 := own_set (p := p) (o := 6) (x := .int .i64 ((ps : Int) + 1)) hu hlt
        rw [hW5] at HF5 hv5 hu5
        have HW5S : Hid (wr.heap.size = W5.heap.size) := hid' (by rw [← hW5]; simp)
        have HQ := hid' (own_ints hu5)
        have HV := hid' (own_ints hv5)
        have HU5 := Lib.hid hu5
        clear hv5 hu5 hv hu hQ hV ho1 ho2 how0 hop0 hm
        go_wp2_with fail
        (try rw [hW5])
        clear hW5 c6 f6 c0
        refine (sFree_c HF5.out hR HOK.out).mono ?_; rintro e w6 ⟨rfl, hb6⟩
        obtain ⟨al, hal⟩ : ∃ al, (wts L g (frees S.hd L.length)).sum = al := ⟨_, rfl⟩
        obtain ⟨rs, hrs⟩ : ∃ rs, restOf L g gap inner S = rs := ⟨_, rfl⟩
        have hab : 0 ≤ al ∧ al ≤ 12582912000 := by rw [← hal]; exact all_bd g HOK.out S.hd (Nat.le_refl _)
        have hrb : -1048576 ≤ rs ∧ rs ≤ 1048576 := by rw [← hrs]; exact signed_bd _
        have HST : Hid (stepOv L g gap inner S = overAt L g al rs) := hid' (by unfold stepOv allW; rw [hal, hrs])
        have HSH : Hid (stepSh L g gap inner S = shares rs (wts L g (frees S.hd L.length))) := hid' (by unfold stepSh; rw [hrs])
        rw [hal, hrs]
        clear hal hrs
        obtain ⟨i0, hi, hz0, hz1, hz2⟩ := info_parts Try.info_int
        go_wp2_with (at_make; refine wpList_make_full _ rfl (.tmp 64) (.tmp 64) 29 rfl w6.heap.size 3 i0 (.int .i64 0) 1 Try.underlying29 hi hz0 hz1 .i64 .i64 m m m rfl rfl rfl rfl (by rw [hz2]; omega) (by unfold maxLen; omega) (Nat.le_refl _) ?_; intro w7 hown7 hg7)
        have hb67 : Bel w6 w7 := (Bel.refl w6).grown hg7 (by simp)
        have hm7 : (Value.int .i64 0).cells = #[.int .i64 0] := rfl
        rw [hm7, toList_madeCells_one, Nat.mul_one, VI_zeros0, ← ovL_zero (overAt L g al rs) S.hd L.length m] at hown7
        clear hz0 hz1 hz2 hi hg7 hm7
        go_wp2_with fail
        go_loopw [9, 10, 11] (fun q so i wq => ∃ (k : Nat), k ≤ m ∧ i = .int .i64 k ∧ q = .int .i64 (vioTo (overAt L g al rs) (frees S.hd L.length) k) ∧ so = .bool (someTo (overAt L g al rs) (frees S.hd L.length) k) ∧ wq.ownsRow w6.heap.size 3 1 (.slice (some ⟨w6.heap.size, 0, none⟩) m m) m (VI (ovL (overAt L g al rs) S.hd L.length m k)) ∧ Bel w6 wq) (fun _ _ i _ => m - (intOf i).toNat)
        case atStart => exact ⟨0, Nat.zero_le _, by go_num, rfl, rfl, hown7, hb67⟩
        case round =>
          obtain ⟨k, hk, rfl, rfl, rfl, ho, hbq⟩ := hrel
          by_cases hkm : k < m
          · have hkf : k < (frees S.hd L.length).length := by rw [HM.out]; exact hkm
            obtain ⟨il, ihd⟩ := fr_mem hkf
            have HFq := hid' ((HF5.out.keep hb6).keep hbq)
            have hb5q := hb6.trans hbq
            have c0 := HFq.out.c0
            obtain ⟨bq, oq, rfl, hbql, hcq⟩ := (HQ.out.keep hb5q) k (by rw [natL_length]; exact hkf)
            have cq := hcq k (by rw [natL_length]; exact hkf)
            rw [natL_fr hkf] at cq
            obtain ⟨bv, ov, rfl, hbvl, hcv⟩ := (HV.out.keep hb5q) k (by rw [show (wts L g (frees S.hd L.length)).length = (frees S.hd L.length).length by simp [wts]]; exact hkf)
            have cv := hcv k (by rw [show (wts L g (frees S.hd L.length)).length = (frees S.hd L.length).length by simp [wts]]; exact hkf)
            rw [wts_at hkf] at cv
            obtain ⟨b, o, rfl, hbl, hc⟩ := (hR.keep HFq.out.bel) _ il
            obtain ⟨x0, x1, x2, x3, x4, x5, x6, x7, x8⟩ := item_cells hc il
            clear hcq hcv hc
            obtain ⟨f1, f2, f3, f4, f5, f6⟩ := over_facts (g := g) HOK.out hab hrb il
            have HIX := Lib.hid (HIT.out _ il)
            generalize hix : fr S.hd L.length k = ix at *
            have HIE := Lib.hid hix
            clear hix
            have hki : (k : Int) < (m : Int) := by omega
            have hil : (ix : Int) < (L.length : Int) := by omega
            go_wp2_with fail
            have HSR : Hid (∀ u, Bel wr u → u.cell? ⟨p, 0, none⟩ = some (.slice (some ⟨b, o, none⟩) L.length c) ∧ u.cell? ⟨bq, oq + k, none⟩ = some (.int .i64 ix) ∧ u.cell? ⟨b, o + ix * 9, none⟩ = some (.int .i64 ((rec_ L ix).s 0)) ∧ u.cell? ⟨b, o + ix * 9 + 1, none⟩ = some (.int .i64 ((rec_ L ix).s 1)) ∧ u.cell? ⟨b, o + ix * 9 + 2, none⟩ = some (.int .i64 ((rec_ L ix).s 2)) ∧ u.cell? ⟨b, o + ix * 9 + 3, none⟩ = some (.int .i64 ((rec_ L ix).s 3)) ∧ u.cell? ⟨b, o + ix * 9 + 4, none⟩ = some (.int .i64 ((rec_ L ix).s 4)) ∧ u.cell? ⟨b, o + ix * 9 + 5, none⟩ = some (.int .i64 ((rec_ L ix).s 5)) ∧ u.cell? ⟨b, o + ix * 9 + 6, none⟩ = some (.int .i64 ((rec_ L ix).s 6)) ∧ u.cell? ⟨b, o + ix * 9 + 7, none⟩ = some (.bool ((rec_ L ix).b 7)) ∧ u.cell? ⟨b, o + ix * 9 + 8, none⟩ = some (.bool ((rec_ L ix).b 8))) := hid' (fun u hu => ⟨(hu.cell _ _ HFq.out.plt).trans c0, (hu.cell _ _ hbql).trans cq, (hu.cell _ _ hbl).trans x0, (hu.cell _ _ hbl).trans x1, (hu.cell _ _ hbl).trans x2, (hu.cell _ _ hbl).trans x3, (hu.cell _ _ hbl).trans x4, (hu.cell _ _ hbl).trans x5, (hu.cell _ _ hbl).trans x6, (hu.cell _ _ hbl).trans x7, (hu.cell _ _ hbl).trans x8⟩)
            have hd0 : Bel wr wr.drew := (Bel.refl wr).drew
            have hdA : Bel wr (wr.alloc (.cells #[.int .i64 0, .int .i64 0, .int .i64 0, .int .i64 0, .int .i64 0, .int .i64 0, .int .i64 0, .bool false, .bool false] 48)).drew := ((Bel.refl wr).alloc _).drew
            have hdB : Bel wr (wr.alloc (.cells #[.int .i64 ((rec_ L ix).s 0), .int .i64 ((rec_ L ix).s 1), .int .i64 ((rec_ L ix).s 2), .int .i64 ((rec_ L ix).s 3), .int .i64 ((rec_ L ix).s 4), .int .i64 ((rec_ L ix).s 5), .int .i64 ((rec_ L ix).s 6), .bool ((rec_ L ix).b 7), .bool ((rec_ L ix).b 8)] 48)).drew := ((Bel.refl wr).alloc _).drew
            go_region_held3 (fun u => u.cell? ⟨p, 0, none⟩ = some (.slice (some ⟨b, o, none⟩) L.length c) ∧ u.cell? ⟨bq, oq + k, none⟩ = some (.int .i64 ix) ∧ u.cell? ⟨b, o + ix * 9, none⟩ = some (.int .i64 ((rec_ L ix).s 0)) ∧ u.cell? ⟨b, o + ix * 9 + 1, none⟩ = some (.int .i64 ((rec_ L ix).s 1)) ∧ u.cell? ⟨b, o + ix * 9 + 2, none⟩ = some (.int .i64 ((rec_ L ix).s 2)) ∧ u.cell? ⟨b, o + ix * 9 + 3, none⟩ = some (.int .i64 ((rec_ L ix).s 3)) ∧ u.cell? ⟨b, o + ix * 9 + 4, none⟩ = some (.int .i64 ((rec_ L ix).s 4)) ∧ u.cell? ⟨b, o + ix * 9 + 5, none⟩ = some (.int .i64 ((rec_ L ix).s 5)) ∧ u.cell? ⟨b, o + ix * 9 + 6, none⟩ = some (.int .i64 ((rec_ L ix).s 6)) ∧ u.cell? ⟨b, o + ix * 9 + 7, none⟩ = some (.bool ((rec_ L ix).b 7)) ∧ u.cell? ⟨b, o + ix * 9 + 8, none⟩ = some (.bool ((rec_ L ix).b 8)))
              ((with_reducible first | exact HSR.out _ hdA | exact HSR.out _ hdB | exact HSR.out _ hd0)) (fail)
            go_wp2_with fail
            obtain ⟨wx, hwx⟩ : ∃ wx, wx = (wr.alloc (.cells #[.int .i64 ((rec_ L ix).s 0), .int .i64 ((rec_ L ix).s 1), .int .i64 ((rec_ L ix).s 2), .int .i64 ((rec_ L ix).s 3), .int .i64 ((rec_ L ix).s 4), .int .i64 ((rec_ L ix).s 5), .int .i64 ((rec_ L ix).s 6), .bool ((rec_ L ix).b 7), .bool ((rec_ L ix).b 8)] 48)).drew := ⟨_, rfl⟩
            rw [← hwx]
            have HBX : Hid (Bel wr wx) := hid' (by rw [hwx]; exact ((Bel.refl _).alloc _).drew)
            have HOX := hid' (own_keep ho HBX.out)
            have HKX : Hid (∀ u, Bel wx u → u.cell? ⟨wr.heap.size, 0, none⟩ = some (.int .i64 ((rec_ L ix).s 0)) ∧ u.cell? ⟨wr.heap.size, 1, none⟩ = some (.int .i64 ((rec_ L ix).s 1)) ∧ u.cell? ⟨wr.heap.size, 2, none⟩ = some (.int .i64 ((rec_ L ix).s 2)) ∧ u.cell? ⟨wr.heap.size, 3, none⟩ = some (.int .i64 ((rec_ L ix).s 3)) ∧ u.cell? ⟨wr.heap.size, 4, none⟩ = some (.int .i64 ((rec_ L ix).s 4)) ∧ u.cell? ⟨wr.heap.size, 5, none⟩ = some (.int .i64 ((rec_ L ix).s 5)) ∧ u.cell? ⟨wr.heap.size, 6, none⟩ = some (.int .i64 ((rec_ L ix).s 6)) ∧ u.cell? ⟨wr.heap.size, 7, none⟩ = some (.bool ((rec_ L ix).b 7)) ∧ u.cell? ⟨wr.heap.size, 8, none⟩ = some (.bool ((rec_ L ix).b 8)) ∧
                u.cell? ⟨w6.heap.size, k, none⟩ = some (.int .i64 0) ∧ u.frozen? ⟨w6.heap.size, k, none⟩ = false) := hid' (fun u hu => by
              have hl : wr.heap.size < wx.heap.size := by rw [hwx]; simp
              have hn : ∀ j v, (#[Value.int .i64 ((rec_ L ix).s 0), .int .i64 ((rec_ L ix).s 1), .int .i64 ((rec_ L ix).s 2), .int .i64 ((rec_ L ix).s 3), .int .i64 ((rec_ L ix).s 4), .int .i64 ((rec_ L ix).s 5), .int .i64 ((rec_ L ix).s 6), .bool ((rec_ L ix).b 7), .bool ((rec_ L ix).b 8)] : Array Value)[j]? = some v → u.cell? ⟨wr.heap.size, j, none⟩ = some v := fun j v hv => by
                rw [hu.cell _ _ hl, hwx, World.cell?_drew, World.cell?_alloc_new]
                exact hv
              have hoc := (own_keep HOX.out hu)
              refine ⟨hn 0 _ rfl, hn 1 _ rfl, hn 2 _ rfl, hn 3 _ rfl, hn 4 _ rfl, hn 5 _ rfl, hn 6 _ rfl, hn 7 _ rfl, hn 8 _ rfl, ?_, hoc.frozenAt k⟩
              rw [hoc.cellAt k (by omega), VI_at (by rw [ovL_length]; exact hkm), ovL_at hkm, if_neg (by omega)])
            have hcvx := (HBX.out.cell _ _ hbvl).trans cv
            have hlx : wr.heap.size < wx.heap.size := by rw [hwx]; simp
            clear hwx x0 x1 x2 x3 x4 x5 x6 x7 x8 cv cq c0 ho
            obtain ⟨y0, y1, y2, y3, y4, y5, y6, y7, y8, yo, yf⟩ := HKX.out _ (Bel.refl _)
            have HOV : Hid (overAt L g al rs ix = if aimOf L g al rs ix < (rec_ L ix).s 1 * al then (rec_ L ix).s 1 * al - aimOf L g al rs ix else if 0 ≤ (rec_ L ix).s 2 ∧ upR (rec_ L ix) * al < aimOf L g al rs ix then upR (rec_ L ix) * al - aimOf L g al rs ix else 0) := hid' rfl
            have hvb := vioTo_bd HOK.out hab hrb S.hd k (g := g)
            have HVS := Lib.hid (vioTo_succ (ov := overAt L g al rs) hkf)
            have HSS := Lib.hid (someTo_succ (ov := overAt L g al rs) hkf)
            have HSET := Lib.hid (ovL_set (ov := overAt L g al rs) (hd := S.hd) (n := L.length) hkm)
            rw [HIE.out] at HVS HSS HSET
            have HSKIP : Hid (overAt L g al rs ix = 0 → ovL (overAt L g al rs) S.hd L.length m (k + 1) = ovL (overAt L g al rs) S.hd L.length m k) := hid' (fun h => ovL_skip (by rw [HIE.out]; exact h))
            unfold aimOf at HOV
            obtain ⟨a0, ha0⟩ : ∃ a, (rec_ L ix).s 0 * al = a := ⟨_, rfl⟩
            obtain ⟨a1, ha1⟩ : ∃ a, (rec_ L ix).s 1 * al = a := ⟨_, rfl⟩
            obtain ⟨aw, haw⟩ : ∃ a, rs * wt L g ix = a := ⟨_, rfl⟩
            obtain ⟨au, hau⟩ : ∃ a, upR (rec_ L ix) * al = a := ⟨_, rfl⟩
            rw [ha0, ha1, haw, hau] at HOV
            rw [ha0] at f1
            rw [haw] at f2
            rw [ha1] at f3
            rw [hau] at f4
            obtain ⟨vo, hvo⟩ : ∃ v, vioTo (overAt L g al rs) (frees S.hd L.length) k = v := ⟨_, rfl⟩
            obtain ⟨so, hso⟩ : ∃ v, someTo (overAt L g al rs) (frees S.hd L.length) k = v := ⟨_, rfl⟩
            rw [hvo] at hvb HVS ⊢
            rw [hso] at HSS ⊢
            clear hvo hso
            obtain ⟨oi, hoi⟩ : ∃ v, overAt L g al rs ix = v := ⟨_, rfl⟩
            rw [hoi] at f5 HOV HVS HSS HSET HSKIP
            clear hoi
            have q1 : IntKind.i64.wrap a0 = a0 := IntWalk.i64_in _ (by omega)
            have q2 : IntKind.i64.wrap aw = aw := IntWalk.i64_in _ (by omega)
            have q3 : IntKind.i64.wrap (a0 + aw) = a0 + aw := IntWalk.i64_in _ (by omega)
            go_quiet (fail)
            clear q1 q2 q3
            by_cases h1 : a0 + aw < a1
            · have HO2 := hid' (HOV.out.trans (if_pos h1))
              have hne : ¬ a1 - (a0 + aw) = 0 := by omega
              cases so
              · go_wp2_with fail
                go_roundw
                case rel =>
                  refine ⟨k + 1, by omega, by go_num, ?_, ?_, ?_, ((hbq.trans HBX.out).drewN _).setCell (Nat.le_refl _) _⟩
                  · rw [HVS.out, HO2.out]
                  · rw [HSS.out, HO2.out]; first | rfl | (simp; omega) | simp
                  · rw [← HSET.out, HO2.out]; exact (((own_drewN HOX.out _).stored k _).1)
                case measure => simp [intOf]; omega
              · go_wp2_with fail
                go_roundw
                case rel =>
                  refine ⟨k + 1, by omega, by go_num, ?_, ?_, ?_, ((hbq.trans HBX.out).drewN _).setCell (Nat.le_refl _) _⟩
                  · rw [HVS.out, HO2.out]
                  · rw [HSS.out, HO2.out]; first | rfl | (simp; omega) | simp
                  · rw [← HSET.out, HO2.out]; exact (((own_drewN HOX.out _).stored k _).1)
                case measure => simp [intOf]; omega
            · by_cases h2 : 0 ≤ (rec_ L ix).s 2
              · have HU := Lib.hid (mostS_up h2)
                go_wp2_with fail
                refine (sMost_c _ _ _ _ _ _ _ _ _ _).mono ?_; rintro e w9 ⟨rfl, hb9⟩
                rw [HU.out]
                have hbx9 := ((Bel.refl wx).drewN _).trans hb9
                clear y0 y1 y2 y3 y4 y5 y6 y7 y8 yo yf
                obtain ⟨y0, y1, y2, y3, y4, y5, y6, y7, y8, yo, yf⟩ := HKX.out _ hbx9
                by_cases h3 : au < a0 + aw
                · have HO2 := hid' ((HOV.out.trans (if_neg (by omega))).trans (if_pos ⟨h2, h3⟩))
                  have hne : ¬ au - (a0 + aw) = 0 := by omega
                  go_wp2_with fail
                  refine (sMost_c _ _ _ _ _ _ _ _ _ _).mono ?_; rintro e w10 ⟨rfl, hb10⟩
                  rw [HU.out]
                  have hbx10 := hbx9.trans hb10
                  clear y0 y1 y2 y3 y4 y5 y6 y7 y8 yo yf
                  obtain ⟨y0, y1, y2, y3, y4, y5, y6, y7, y8, yo, yf⟩ := HKX.out _ hbx10
                  cases so
                  · go_wp2_with fail
                    go_roundw
                    case rel =>
                      refine ⟨k + 1, by omega, by go_num, ?_, ?_, ?_, (hbq.trans (HBX.out.trans hbx10)).setCell (Nat.le_refl _) _⟩
                      · rw [HVS.out, HO2.out]
                      · rw [HSS.out, HO2.out]; first | rfl | (simp; omega) | simp
                      · rw [← HSET.out, HO2.out]; exact (((own_keep HOX.out hbx10).stored k _).1)
                    case measure => simp [intOf]; omega
                  · go_wp2_with fail
                    go_roundw
                    case rel =>
                      refine ⟨k + 1, by omega, by go_num, ?_, ?_, ?_, (hbq.trans (HBX.out.trans hbx10)).setCell (Nat.le_refl _) _⟩
                      · rw [HVS.out, HO2.out]
                      · rw [HSS.out, HO2.out]; first | rfl | (simp; omega) | simp
                      · rw [← HSET.out, HO2.out]; exact (((own_keep HOX.out hbx10).stored k _).1)
                    case measure => simp [intOf]; omega
                · have HO2 := hid' ((HOV.out.trans (if_neg (by omega))).trans (if_neg (fun h => h3 h.2)))
                  cases so
                  · go_wp2_with fail
                    go_roundw
                    case rel =>
                      refine ⟨k + 1, by omega, by go_num, ?_, ?_, ?_, hbq.trans (HBX.out.trans hbx9)⟩
                      · rw [HVS.out, HO2.out]; first | rfl | (congr 1; omega) | simp
                      · rw [HSS.out, HO2.out]; first | rfl | simp
                      · rw [HSKIP.out HO2.out]; exact (own_keep HOX.out hbx9)
                    case measure => simp [intOf]; omega
                  · go_wp2_with fail
                    go_roundw
                    case rel =>
                      refine ⟨k + 1, by omega, by go_num, ?_, ?_, ?_, hbq.trans (HBX.out.trans hbx9)⟩
                      · rw [HVS.out, HO2.out]; first | rfl | (congr 1; omega) | simp
                      · rw [HSS.out, HO2.out]; first | rfl | simp
                      · rw [HSKIP.out HO2.out]; exact (own_keep HOX.out hbx9)
                    case measure => simp [intOf]; omega
              · have HO2 := hid' ((HOV.out.trans (if_neg (by omega))).trans (if_neg (fun h => h2 h.1)))
                cases so
                · go_wp2_with fail
                  go_roundw
                  case rel =>
                    refine ⟨k + 1, by omega, by go_num, ?_, ?_, ?_, (hbq.trans HBX.out).drewN _⟩
                    · rw [HVS.out, HO2.out]; first | rfl | (congr 1; omega) | simp
                    · rw [HSS.out, HO2.out]; first | rfl | simp
                    · rw [HSKIP.out HO2.out]; exact (own_drewN HOX.out _)
                  case measure => simp [intOf]; omega
                · go_wp2_with fail
                  go_roundw
                  case rel =>
                    refine ⟨k + 1, by omega, by go_num, ?_, ?_, ?_, (hbq.trans HBX.out).drewN _⟩
                    · rw [HVS.out, HO2.out]; first | rfl | (congr 1; omega) | simp
                    · rw [HSS.out, HO2.out]; first | rfl | simp
                    · rw [HSKIP.out HO2.out]; exact (own_drewN HOX.out _)
                  case measure => simp [intOf]; omega
          · obtain rfl : k = m := by omega
            have hov := HST.out
            have HVA : Hid (vioTo (overAt L g al rs) (frees S.hd L.length) k = vioOf (overAt L g al rs) (frees S.hd L.length)) := hid' (by rw [← HM.out]; exact vioTo_all _ _)
            have HSA : Hid (someTo (overAt L g al rs) (frees S.hd L.length) k = someOf (overAt L g al rs) (frees S.hd L.length)) := hid' (by rw [← HM.out]; exact someTo_all _ _)
            rw [HVA.out, HSA.out]
            have hwl : (wts L g (frees S.hd L.length)).length = k := by rw [← HM.out]; simp [wts]
            have HSC : Hid (∀ u, Bel W5 u → Calls Try.prog 103 #[.int .i64 rs, .slice V k cv] u fun r w' => ∃ v, r = .returned v ∧ w'.ownsRow u.heap.size 3 1 v k (VI (stepSh L g gap inner S)) ∧ Bel u w') := hid' (fun u hu => by
              have h0 := sShares_c rs V cv (wts L g (frees S.hd L.length)) u (HV.out.keep hu) (by omega)
              have hsl : (shares rs (wts L g (frees S.hd L.length))).length = k := by rw [shares, if_pos (wts_ok g HOK.out S.hd), sharesTo_length, hwl]
              rw [hsl, hwl, ← HSH.out] at h0
              exact h0)
            obtain ⟨vs, hvs⟩ : ∃ v, vioOf (overAt L g al rs) (frees S.hd L.length) = v := ⟨_, rfl⟩
            obtain ⟨sm, hsm⟩ : ∃ v, someOf (overAt L g al rs) (frees S.hd L.length) = v := ⟨_, rfl⟩
            have HVS := Lib.hid hvs
            have HSM := Lib.hid hsm
            rw [hvs, hsm]
            clear hvs hsm HVA HSA hwl
            have hb5r := hb6.trans hbq
            go_wp2_with fail
            refine (HSC.out _ hb5r).mono ?_; rintro e w8 ⟨v8, rfl, ho8, hb8⟩
            obtain ⟨gs, cs, rfl⟩ := own_posM ho8 (by omega)
            have HO8 := Lib.hid ho8
            have HOO := hid' (own_keep ho hb8)
            have HUU := hid' (own_keep HU5.out (hb5r.trans hb8))
            have HF8 := hid' (HF5.out.keep (hb5r.trans hb8))
            have hs68 : w.heap.size ≤ w6.heap.size := by have h1 := hb.sz; have h2 := hb6.sz; rw [← HW5S.out] at h2; omega
            have hsr8 : w.heap.size ≤ wr.heap.size := Nat.le_trans hs68 hbq.sz
            obtain ⟨gh, gz, hrow⟩ := HF.out.row (by have := frees_le S.hd L.length; have := HM.out; omega)
            have hghl := hrow.hlt
            have hgzl := hrow.zlt
            have hgHH := hrow.eh
            have hgZZ := hrow.ez
            have hgz := hrow.hz
            have hghp := hrow.hp
            have hgzp := hrow.zp
            subst hgHH hgZZ
            clear hrow ho ho8
            obtain ⟨gq, dq, hQe⟩ := own_posM HUU.out (by omega)
            injection hQe with hQe1 hQe2 hQe3
            subst hQe1 hQe3
            go_wp2_with fail
            go_loopw [15] (fun i wq => ∃ (q : Nat), q ≤ k ∧ i = .int .i64 q ∧ Fl w0 wq p 4 5 A c L gap inner g (some ⟨gh, 0, none⟩) (some ⟨gz, 0, none⟩) ch cz (hdK S (stepF L g gap inner S) q) (zK L S (stepF L g gap inner S) q) ((ps : Int) + 1) ∧
              wq.ownsRow w.heap.size 3 1 (.slice (some ⟨gq, 0, none⟩) k cq) k (VI (natL (frees S.hd L.length))) ∧ wq.ownsRow w6.heap.size 3 1 (.slice (some ⟨w6.heap.size, 0, none⟩) k k) k (VI (ovL (overAt L g al rs) S.hd L.length k k)) ∧ wq.ownsRow wr.heap.size 3 1 (.slice (some ⟨gs, 0, none⟩) k cs) k (VI (stepSh L g gap inner S))) (fun i _ => k - (intOf i).toNat)
            case atStart => exact ⟨0, Nat.zero_le _, by go_num, HF8.out.congr (fun i _ => (hdK_zero _ _ _).symm) (fun i _ => (zK_zero _ _ _ _).symm), HUU.out, HOO.out, HO8.out⟩
            case round =>
              obtain ⟨q, hq, rfl, hFq, hQq, hOq, hSq⟩ := hrel
              by_cases hqk : q < k
              · have hkf : q < (frees S.hd L.length).length := by rw [HM.out]; exact hqk
                obtain ⟨il, ihd⟩ := fr_mem hkf
                have hrk := fr_rank hkf
                obtain ⟨gh', gz', hrow⟩ := hFq.row (by omega)
                obtain ⟨rfl⟩ : gh = gh' := by have := hrow.eh; injection this with h1; injection h1
                obtain ⟨rfl⟩ : gz = gz' := by have := hrow.ez; injection this with h1; injection h1
                have c0 := hFq.c0
                have c4 := hFq.kh
                have c5 := hFq.kz
                have hpl := hFq.plt
                have sq := hQq.cellAt q (by omega)
                rw [VI_at (by rw [natL_length]; exact hkf), natL_fr hkf] at sq
                have so := hOq.cellAt q (by omega)
                rw [VI_at (by rw [ovL_length]; exact hqk), ovL_at hqk, if_pos hqk] at so
                have hsl : (stepSh L g gap inner S).length = k := by have := hSq.1; rw [VI_length] at this; omega
                have ss := hSq.cellAt q (by omega)
                rw [VI_at (by omega)] at ss
                obtain ⟨b, o, rfl, hbl0, hc0⟩ := hR _ il
                have hbl := Nat.lt_of_lt_of_le hbl0 hFq.bel.sz
                have hc := fun i' hi' j v hv => (hFq.bel.cell _ _ hbl0).trans (hc0 i' hi' j v hv)
                clear hc0
                obtain ⟨x0, x1, x2, x3, x4, x5, x6, x7, x8⟩ := item_cells hc il
                have HIX := Lib.hid (HIT.out _ il)
                have HSET := Lib.hid (fun (v : Int) h1 h2 => hFq.settle hrow hkf rfl il (v := v) h1 h2)
                have HLV := Lib.hid (fun h1 => hFq.leave hkf rfl h1)
                have hFq0 : Hid (w0.heap.size ≤ gh ∧ w0.heap.size ≤ p ∧ w0.heap.size ≤ p ∧ w0.heap.size ≤ gz ∧ True) := hid' ⟨hrow.hlo, hFq.plo, hFq.plo, hrow.zlo, trivial⟩
                have hshb := share_bd (n := rs) (wts_ok g HOK.out S.hd) q
                rw [← HSH.out] at hshb
                have hoiN : overAt L g al rs (fr S.hd L.length q) < 0 → 0 ≤ (rec_ L (fr S.hd L.length q)).s 2 := over_neg
                have HFK : Hid (∀ u, Bel wr u → Fl w0 u p 4 5 _ c L gap inner g (some ⟨gh, 0, none⟩) (some ⟨gz, 0, none⟩) ch cz (hdK S (stepF L g gap inner S) q) (zK L S (stepF L g gap inner S) q) ((ps : Int) + 1) ∧ Rows2F w0 u p L.length (some ⟨gh, 0, none⟩) (some ⟨gz, 0, none⟩) (hdK S (stepF L g gap inner S) q) (zK L S (stepF L g gap inner S) q) gh gz) := hid' (fun u hu => ⟨hFq.keep hu, hrow.keep hu⟩)
                generalize hix : fr S.hd L.length q = ix at *
                obtain ⟨oi, hoi⟩ : ∃ v, overAt L g al rs ix = v := ⟨_, rfl⟩
                obtain ⟨sh, hsh⟩ : ∃ v, at_ (stepSh L g gap inner S) q = v := ⟨_, rfl⟩
                have HAT := Lib.hid (step_at (shk := sh) ihd hov HSM.out HVS.out hoi (by rw [hrk]; exact hsh))
                rw [hoi] at so hoiN
                rw [hsh] at ss hshb
                have HIE := Lib.hid hix
                have hil : (ix : Int) < (L.length : Int) := by omega
                have ch4 := hrow.hc ix il
                have cf4 := hrow.hf ix il
                have ch5 := hrow.zc ix il
                have cf5 := hrow.zf ix il
                have hl1 := hrow.hlt
                have hl2 := hrow.zlt
                have hlq := hQq.lt gq rfl
                have hlo := hOq.lt w6.heap.size rfl
                have hls := hSq.lt gs rfl
                have hbnew : b < w0.heap.size := hbl0
                clear hc hix hoi hsh hrow hsl hov
                have hbp : b ≠ p := by have := hFq.plo; omega
                have hbz : b ≠ gz := by have := hFq0.out.2.2.2.1; omega
                cases sm
                · have HH : Hid ((stepF L g gap inner S).hd ix = true) := hid' (by rw [HAT.out.1]; rfl)
                  have HZ : Hid (baseSz L (stepF L g gap inner S) ix = clamped ((rec_ L ix).s 0 + sh)) := hid' (by rw [baseSz, if_pos HH.out, HAT.out.2, if_pos rfl])
                  have q1 : IntKind.i64.wrap ((rec_ L ix).s 0 + sh) = (rec_ L ix).s 0 + sh := IntWalk.i64_in _ (by have := HIX.out.base; omega)
                  have HSR : Hid (∀ u : World, (∀ bb oo, bb ≠ gz → u.cell? ⟨bb, oo, none⟩ = wr.cell? ⟨bb, oo, none⟩) → u.cell? ⟨p, 0, none⟩ = some (.slice (some ⟨b, o, none⟩) L.length c) ∧ u.cell? ⟨p, 5, none⟩ = some (.slice (some ⟨gz, 0, none⟩) L.length cz) ∧ u.cell? ⟨b, o + ix * 9, none⟩ = some (.int .i64 ((rec_ L ix).s 0)) ∧ u.cell? ⟨gs, q, none⟩ = some (.int .i64 sh)) := hid' (fun u hu => ⟨(hu _ _ (by omega)).trans c0, (hu _ _ (by omega)).trans c5, (hu _ _ (by omega)).trans x0, (hu _ _ (by omega)).trans ss⟩)
                  have hA : ∀ bb oo, bb ≠ gz → wr.drew.cell? ⟨bb, oo, none⟩ = wr.cell? ⟨bb, oo, none⟩ := fun bb oo _ => by simp
                  have hB : ∀ bb oo, bb ≠ gz → ((wr.setCell ⟨gz, ix, none⟩ (.int .i64 (clamped ((rec_ L ix).s 0 + sh)))).drew).cell? ⟨bb, oo, none⟩ = wr.cell? ⟨bb, oo, none⟩ := fun bb oo h => by rw [World.cell?_drew]; exact cell_set_off (by omega)
                  have hC : ∀ bb oo, bb ≠ gz → ((wr.drew.setCell ⟨gz, ix, none⟩ (.int .i64 (clamped ((rec_ L ix).s 0 + sh))))).cell? ⟨bb, oo, none⟩ = wr.cell? ⟨bb, oo, none⟩ := fun bb oo h => by rw [cell_set_off (by omega)]; simp
                  go_wp2_with fail
                  go_region_held3 (fun u => u.cell? ⟨p, 0, none⟩ = some (.slice (some ⟨b, o, none⟩) L.length c) ∧ u.cell? ⟨p, 5, none⟩ = some (.slice (some ⟨gz, 0, none⟩) L.length cz) ∧ u.cell? ⟨b, o + ix * 9, none⟩ = some (.int .i64 ((rec_ L ix).s 0)) ∧ u.cell? ⟨gs, q, none⟩ = some (.int .i64 sh))
                    ((with_reducible first | exact HSR.out _ hA | exact HSR.out _ hB | exact HSR.out _ hC))
                    (first | (go_at_call 83; refine (sClamped_c _ _).mono ?_; rintro e w' ⟨rfl, rfl⟩))
                  clear q1 hA hB hC
                  go_wp2_with fail
                  go_roundw
                  case rel =>
                    have hfin := HSET.out (clamped ((rec_ L ix).s 0 + sh)) HH.out HZ.out
                    exact ⟨q + 1, by omega, by go_num, hfin.keep ((Bel.refl _).drew), own_keep (own_set (own_set hQq (by omega)) (by omega)) ((Bel.refl _).drew), own_keep (own_set (own_set hOq (by omega)) (by omega)) ((Bel.refl _).drew), own_keep (own_set (own_set hSq (by omega)) (by omega)) ((Bel.refl _).drew)⟩
                  case measure => simp [intOf]; omega
                · have HOI := Lib.hid hoiN
                  by_cases h0 : 0 < oi
                  · by_cases h1 : 0 ≤ vs
                    · have HH : Hid ((stepF L g gap inner S).hd ix = true) := hid' (by rw [HAT.out.1]; simp [h0, h1])
                      have HZ : Hid (baseSz L (stepF L g gap inner S) ix = (rec_ L ix).s 1) := hid' (by rw [baseSz, if_pos HH.out, HAT.out.2, if_neg (by simp), if_pos ⟨h0, h1⟩])
                      go_wp2_with fail
                      go_still_tail 14, (by kernel_rfl)
                      go_wp2_with fail
                      go_roundw
                      case rel =>
                        have hfin := HSET.out ((rec_ L ix).s 1) HH.out HZ.out
                        exact ⟨q + 1, by omega, by go_num, hfin.keep ((Bel.refl _).drew), own_keep (own_set (own_set hQq (by omega)) (by omega)) ((Bel.refl _).drew), own_keep (own_set (own_set hOq (by omega)) (by omega)) ((Bel.refl _).drew), own_keep (own_set (own_set hSq (by omega)) (by omega)) ((Bel.refl _).drew)⟩
                      case measure => simp [intOf]; omega
                    · have HH : Hid ((stepF L g gap inner S).hd ix = false) := hid' (by rw [HAT.out.1]; simp; omega)
                      have h2 : ¬ oi < 0 := by omega
                      go_wp2_with fail
                      go_roundw
                      case rel => exact ⟨q + 1, by omega, by go_num, HLV.out HH.out, hQq, hOq, hSq⟩
                      case measure => simp [intOf]; omega
                  · by_cases h2 : oi < 0
                    · by_cases h3 : vs ≤ 0
                      · have HH : Hid ((stepF L g gap inner S).hd ix = true) := hid' (by rw [HAT.out.1]; simp [h2, h3])
                        have HZ : Hid (baseSz L (stepF L g gap inner S) ix = upR (rec_ L ix)) := hid' (by rw [baseSz, if_pos HH.out, HAT.out.2, if_neg (by simp), if_neg (by omega), if_pos ⟨h2, h3⟩])
                        have HU := Lib.hid (mostS_up (HOI.out h2))
                        have HSR : Hid (∀ u : World, (∀ bb oo, bb < wr.heap.size → bb ≠ gz → u.cell? ⟨bb, oo, none⟩ = wr.cell? ⟨bb, oo, none⟩) → u.cell? ⟨p, 0, none⟩ = some (.slice (some ⟨b, o, none⟩) L.length c) ∧ u.cell? ⟨p, 5, none⟩ = some (.slice (some ⟨gz, 0, none⟩) L.length cz) ∧ u.cell? ⟨b, o + ix * 9, none⟩ = some (.int .i64 ((rec_ L ix).s 0)) ∧ u.cell? ⟨b, o + ix * 9 + 1, none⟩ = some (.int .i64 ((rec_ L ix).s 1)) ∧ u.cell? ⟨b, o + ix * 9 + 2, none⟩ = some (.int .i64 ((rec_ L ix).s 2)) ∧ u.cell? ⟨b, o + ix * 9 + 3, none⟩ = some (.int .i64 ((rec_ L ix).s 3)) ∧ u.cell? ⟨b, o + ix * 9 + 4, none⟩ = some (.int .i64 ((rec_ L ix).s 4)) ∧ u.cell? ⟨b, o + ix * 9 + 5, none⟩ = some (.int .i64 ((rec_ L ix).s 5)) ∧ u.cell? ⟨b, o + ix * 9 + 6, none⟩ = some (.int .i64 ((rec_ L ix).s 6)) ∧ u.cell? ⟨b, o + ix * 9 + 7, none⟩ = some (.bool ((rec_ L ix).b 7)) ∧ u.cell? ⟨b, o + ix * 9 + 8, none⟩ = some (.bool ((rec_ L ix).b 8))) := hid' (fun u hu => ⟨(hu _ _ hpl (by omega)).trans c0, (hu _ _ hpl (by omega)).trans c5, (hu _ _ hbl (by omega)).trans x0, (hu _ _ hbl (by omega)).trans x1, (hu _ _ hbl (by omega)).trans x2, (hu _ _ hbl (by omega)).trans x3, (hu _ _ hbl (by omega)).trans x4, (hu _ _ hbl (by omega)).trans x5, (hu _ _ hbl (by omega)).trans x6, (hu _ _ hbl (by omega)).trans x7, (hu _ _ hbl (by omega)).trans x8⟩)
                        have hA : ∀ bb oo, bb < wr.heap.size → bb ≠ gz → wr.drew.cell? ⟨bb, oo, none⟩ = wr.cell? ⟨bb, oo, none⟩ := fun bb oo _ _ => by simp
                        go_wp2_with fail
                        go_region_held3 (fun u => u.cell? ⟨p, 0, none⟩ = some (.slice (some ⟨b, o, none⟩) L.length c) ∧ u.cell? ⟨p, 5, none⟩ = some (.slice (some ⟨gz, 0, none⟩) L.length cz) ∧ u.cell? ⟨b, o + ix * 9, none⟩ = some (.int .i64 ((rec_ L ix).s 0)) ∧ u.cell? ⟨b, o + ix * 9 + 1, none⟩ = some (.int .i64 ((rec_ L ix).s 1)) ∧ u.cell? ⟨b, o + ix * 9 + 2, none⟩ = some (.int .i64 ((rec_ L ix).s 2)) ∧ u.cell? ⟨b, o + ix * 9 + 3, none⟩ = some (.int .i64 ((rec_ L ix).s 3)) ∧ u.cell? ⟨b, o + ix * 9 + 4, none⟩ = some (.int .i64 ((rec_ L ix).s 4)) ∧ u.cell? ⟨b, o + ix * 9 + 5, none⟩ = some (.int .i64 ((rec_ L ix).s 5)) ∧ u.cell? ⟨b, o + ix * 9 + 6, none⟩ = some (.int .i64 ((rec_ L ix).s 6)) ∧ u.cell? ⟨b, o + ix * 9 + 7, none⟩ = some (.bool ((rec_ L ix).b 7)) ∧ u.cell? ⟨b, o + ix * 9 + 8, none⟩ = some (.bool ((rec_ L ix).b 8)))
                          ((with_reducible first | exact HSR.out _ hA | exact HSR.out _ hC | exact HSR.out _ hD))
                          (first
                            | (go_at_call 113; refine (sMost_c _ _ _ _ _ _ _ _ _ _).mono ?_; rintro e w9 ⟨rfl, hb9⟩; rw [HU.out]
                               have hb09 := (Bel.refl wr).drew.trans hb9
                               have hC : ∀ bb oo, bb < wr.heap.size → bb ≠ gz → w9.cell? ⟨bb, oo, none⟩ = wr.cell? ⟨bb, oo, none⟩ := fun bb oo h _ => hb09.cell _ _ h
                               have hD : ∀ bb oo, bb < wr.heap.size → bb ≠ gz → (w9.setCell ⟨gz, ix, none⟩ (.int .i64 (upR (rec_ L ix)))).cell? ⟨bb, oo, none⟩ = wr.cell? ⟨bb, oo, none⟩ := fun bb oo h h2 => (cell_set_off (by omega)).trans (hb09.cell _ _ h)
                               have ch5' := (hb09.cell _ ix hl2).trans ch5
                               have cf5' := (hb09.frozen _ ix hl2).trans cf5))
                        have c4' := (hb09.cell _ 4 hpl).trans c4
                        have ch4' := (hb09.cell _ ix hl1).trans ch4
                        have cf4' := (hb09.frozen _ ix hl1).trans cf4
                        go_wp2_with fail
                        go_roundw
                        case rel =>
                          have hFz := HFK.out w9 hb09
                          exact ⟨q + 1, by omega, by go_num, hFz.1.settle hFz.2 hkf HIE.out il HH.out HZ.out, own_set (own_set (own_keep hQq hb09) (by omega)) (by omega), own_set (own_set (own_keep hOq hb09) (by omega)) (by omega), own_set (own_set (own_keep hSq hb09) (by omega)) (by omega)⟩
                        case measure => simp [intOf]; omega
                      · have HH : Hid ((stepF L g gap inner S).hd ix = false) := hid' (by rw [HAT.out.1]; simp; omega)
                        go_wp2_with fail
                        go_roundw
                        case rel => exact ⟨q + 1, by omega, by go_num, HLV.out HH.out, hQq, hOq, hSq⟩
                        case measure => simp [intOf]; omega
                    · have HH : Hid ((stepF L g gap inner S).hd ix = false) := hid' (by rw [HAT.out.1]; simp; omega)
                      go_wp2_with fail
                      go_roundw
                      case rel => exact ⟨q + 1, by omega, by go_num, HLV.out HH.out, hQq, hOq, hSq⟩
                      case measure => simp [intOf]; omega
              · obtain rfl : q = k := by omega
                go_wp2_with fail
                go_ret
                refine .inr ⟨fun h => by have := HM.out; rw [h] at this; simp at this; omega, rfl, ?_⟩
                have hFF := hFq
                rw [← HM.out] at hFF
                exact hFF.congr (fun i hi => hdK_all S _ (fun i h => (step_held L g gap inner S i h).1) hi) (fun i hi => zK_all L S _ (fun i h => step_held L g gap inner S i h) hi)
end Go.Proofs.Ytmipjhnjlpmidaa
